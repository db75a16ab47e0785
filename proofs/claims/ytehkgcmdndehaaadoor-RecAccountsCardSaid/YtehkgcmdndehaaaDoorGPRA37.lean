/- Part of the proof: merged texts. -/
import Derived.Test.YtehkgcmdndehaaaDoorGPRA36
import Derived.Test.YtehkgcmdndehaaaDoorGPRA21
import Derived.Deep.QuietTactic
import Derived.BigQuiet
import Derived.Deep.DeepCutAuto
import Derived.Deep.CutBlock
namespace Go.Proofs.YtehkgcmdndehaaaDoor
set_option linter.unusedSimpArgs false
set_option linter.unusedVariables false
open Go.RowKit

attribute [local irreducible] Re.ints Re.str Re.one Re.int stmtRd
theorem ints_three (q : Re) : Re.ints 3 q = ([q.int.1, q.int.2.int.1, q.int.2.int.2.int.1], q.int.2.int.2.int.2) := by
  rw [Re.ints, Re.ints, Re.ints, Re.ints]
theorem fail_nz {q : Re} {e : Int} (h : q.err ≠ 0) : q.fail e = q := by unfold Re.fail; rw [if_neg h]
theorem fail_z {q : Re} {e : Int} (h : q.err = 0) : q.fail e = ⟨q.bs, e⟩ := by unfold Re.fail; rw [if_pos h]
/-- The reader's error is set. -/
theorem Rdg.bad {w0 W : World} {xb : Nat} {bv : Value} {zs : List UInt8} {q : Re} (h : Rdg w0 W xb bv zs q) : Rdg w0 (W.setCell ⟨xb, 2, none⟩ (.int .i64 11)) xb bv zs ⟨q.bs, 11⟩ ∧ RefG W (W.setCell ⟨xb, 2, none⟩ (.int .i64 11)) xb := by
  have hg : RefG W (W.setCell ⟨xb, 2, none⟩ (.int .i64 11)) xb := ⟨rfl, rfl, rfl, by simp [World.setCell], fun k _ hk => Below.heap_setCell _ _ _ _ hk⟩
  obtain ⟨n, hn, c1, hd⟩ := h.rd.c1
  exact ⟨⟨⟨by simpa [World.setCell] using h.rd.lt, h.rd.len, (cell_set_ne (fun e => by cases e)).trans h.rd.c0, ⟨n, hn, (cell_set_ne (fun e => by cases e)).trans c1, fun he => by simp at he⟩, cell_set_same h.rd.c2, fun o => by simpa using h.rd.frz o, h.rd.reads.set h.rd.apart, h.rd.apart⟩, h.grow.trans hg, h.own, h.lt⟩, hg⟩
theorem Rdg.drewN {w0 W : World} {xb : Nat} {bv : Value} {zs : List UInt8} {q : Re} (h : Rdg w0 W xb bv zs q) (n : Nat) : Rdg w0 (W.drewN n) xb bv zs q := by
  obtain ⟨m, hm, c1, hd⟩ := h.rd.c1
  exact ⟨⟨h.rd.lt, h.rd.len, h.rd.c0, ⟨m, hm, c1, hd⟩, h.rd.c2, h.rd.frz, h.rd.reads, h.rd.apart⟩, ⟨h.grow.os, h.grow.tape, h.grow.output, h.grow.size, h.grow.block⟩, h.own, h.lt⟩
theorem Blk.drewN {W : World} {b : Nat} {T : TypeId} {cs : Array Value} (h : Blk W b T cs) (n : Nat) : Blk (W.drewN n) b T cs := h
theorem Blk.setCells {W : World} {b : Nat} {T : TypeId} : ∀ (vs : List Value) (o : Nat) {W : World} {cs : Array Value}, Blk W b T cs → o + vs.length ≤ cs.size → ∃ cs', Blk (W.setCells b o vs) b T cs' ∧ cs'.size = cs.size ∧ (∀ j : Nat, j < vs.length → cs'[o + j]? = vs[j]?) ∧ ∀ j : Nat, (j < o ∨ o + vs.length ≤ j) → cs'[j]? = cs[j]?
  | [], o, W, cs, h, _ => ⟨cs, h, rfl, fun j hj => by simp at hj, fun _ _ => rfl⟩
  | v :: r, o, W, cs, h, hl => by
    simp only [List.length_cons] at hl
    obtain ⟨cs', k1, k2, k3, k4⟩ := Blk.setCells (W := W) r (o + 1) (h.set (o := o) v (by omega)) (by simp; omega)
    refine ⟨cs', k1, by rw [k2]; simp, fun j hj => ?_, fun j hj => ?_⟩
    · match j, hj with
      | 0, _ => rw [Nat.add_zero, k4 o (.inl (by omega)), Array.getElem?_setIfInBounds_self_of_lt (by omega)]; rfl
      | j + 1, hj => rw [show o + (j + 1) = o + 1 + j by omega, k3 j (by simpa using hj)]; rfl
    · simp only [List.length_cons] at hj
      rw [k4 j (by omega), Array.getElem?_setIfInBounds_ne (by omega)]
theorem set_stmt_cells (a : AnsD) (st : StmtD) (cs : Array Value) (h : cs.size = 13) (h1 : ∀ j : Nat, j < 9 → cs[4 + j]? = st.cells.toList[j]?) (h2 : ∀ j : Nat, (j < 4 ∨ 4 + 9 ≤ j) → cs[j]? = a.cells[j]?) : cs = (AnsD.mk a.err a.left a.over a.n st).cells := by
  apply Array.ext_getElem?
  intro i
  match i with
  | 0 => rw [h2 0 (by omega)]; rfl
  | 1 => rw [h2 1 (by omega)]; rfl
  | 2 => rw [h2 2 (by omega)]; rfl
  | 3 => rw [h2 3 (by omega)]; rfl
  | 4 => exact (h1 0 (by omega)).trans rfl
  | 5 => exact (h1 1 (by omega)).trans rfl
  | 6 => exact (h1 2 (by omega)).trans rfl
  | 7 => exact (h1 3 (by omega)).trans rfl
  | 8 => exact (h1 4 (by omega)).trans rfl
  | 9 => exact (h1 5 (by omega)).trans rfl
  | 10 => exact (h1 6 (by omega)).trans rfl
  | 11 => exact (h1 7 (by omega)).trans rfl
  | 12 => exact (h1 8 (by omega)).trans rfl
  | i + 13 => rw [Array.getElem?_eq_none (by omega), Array.getElem?_eq_none (by show 13 ≤ _; omega)]
def RansPost (w : World) (xb : Nat) (bv : Value) (zs : List UInt8) (q : Re) (e : Ending) (w' : World) : Prop := e = .returned (.agg (ansRd q).1.cells) ∧ RefE w' xb bv zs (ansRd q).2 ∧ RefG w w' xb
set_option maxHeartbeats 3200000 in
set_option maxRecDepth 100000 in
theorem ref_rans6 (xb : Nat) (bv : Value) (zs : List UInt8) (q : Re) (w : World) (h : RefE w xb bv zs q) (ho : OkE q) :
    Calls Tryd.prog 65 #[.pointer (some ⟨xb, 0, none⟩)] w (RansPost w xb bv zs q) := by
  have H := Lib.hid (And.intro h ho)
  have FE : Hid (ansRd q = (⟨q.one.1, q.one.2.int.1, q.one.2.int.2.int.1, q.one.2.int.2.int.2.int.1, (tailRd q.one.2.int.2.int.2.int.2).1⟩, (tailRd q.one.2.int.2.int.2.int.2).2)) := Lib.hid (by unfold ansRd; simp only [ints_three]; rfl)
  clear h ho
  go_enter Tryd.func65, Tryd.ntmps65
  go_upto_region 1 with (fail)
  change Code.wp _ _ _ _ (w.alloc (.cells ansZ.cells 70))
  have R0 : Hid (Rdg w (w.alloc (.cells ansZ.cells 70)) xb bv zs q ∧ Blk (w.alloc (.cells ansZ.cells 70)) w.heap.size 70 ansZ.cells ∧ (w.alloc (.cells ansZ.cells 70)).heap.size = w.heap.size + 1) := Lib.hid ⟨⟨H.out.1.refs (below_alloc _ _), RefG.of_below (below_alloc _ _), fun k hk => reads_own_lt H.out.1.reads k hk, H.out.1.lt⟩, Blk.new _ _ _, by simp⟩
  generalize w.alloc (.cells ansZ.cells 70) = W00 at *
  go_upto_region 2 with (go_at_call 64; go_must (refine (rg_u8 R0.out.1 H.out.2).mono ?_); rintro e u0 ⟨rfl, hr, hg⟩; have U0 := Lib.hid (And.intro hr (And.intro (R0.out.2.1.grow hg (by have := H.out.1.lt; omega)) hg)); clear hr hg)
  obtain ⟨e0, q0, hq⟩ : ∃ i q', q.one = (i, q') := ⟨_, _, rfl⟩
  have O0 : Hid (OkE q0) := Lib.hid (by have := ok_one H.out.2; rw [hq] at this; exact this)
  rw [hq] at U0 FE ⊢
  clear hq
  change Code.wp _ _ _ _ (u0.alloc (.cells (AnsD.mk e0 0 0 0 stmtZ).cells 70))
  have hsu : W00.heap.size ≤ u0.heap.size := U0.out.2.2.size
  have NX : Hid (u0.heap.size ≠ xb ∧ w.heap.size ≠ xb ∧ w.heap.size ≤ w.heap.size ∧ w.heap.size ≤ u0.heap.size ∧ w.heap.size ≠ u0.heap.size) := Lib.hid (by have := H.out.1.lt; have := R0.out.2.2; omega)
  have S0 : Hid (Rdg w (u0.alloc (.cells (AnsD.mk e0 0 0 0 stmtZ).cells 70)) xb bv zs q0 ∧ Blk (u0.alloc (.cells (AnsD.mk e0 0 0 0 stmtZ).cells 70)) w.heap.size 70 ansZ.cells ∧ Blk (u0.alloc (.cells (AnsD.mk e0 0 0 0 stmtZ).cells 70)) u0.heap.size 70 (AnsD.mk e0 0 0 0 stmtZ).cells) := Lib.hid ⟨U0.out.1.below (below_alloc _ _), U0.out.2.1.below (below_alloc _ _), Blk.new _ _ _⟩
  generalize u0.alloc (.cells (AnsD.mk e0 0 0 0 stmtZ).cells 70) = W0 at *
  generalize u0.heap.size = ab at *
  obtain ⟨sb, hsb⟩ : ∃ x, x = w.heap.size := ⟨_, rfl⟩
  rw [← hsb] at S0 NX ⊢
  have HSB := Lib.hid hsb
  have NX : Hid (ab ≠ xb ∧ sb ≠ xb ∧ w.heap.size ≤ sb ∧ w.heap.size ≤ ab ∧ sb ≠ ab) := Lib.hid (by have := NX.out; have := HSB.out; omega)
  clear U0 R0 hsu hsb
  go_upto_region 3 with (go_at_call 63; go_must (refine (rg_int S0.out.1 O0.out).mono ?_); rintro e u1 ⟨rfl, hr, hg⟩; have c1 : u1.cell? ⟨ab, 1, none⟩ = some (.int .i64 0) := ((S0.out.2.2.grow hg NX.out.1).cell 1).trans rfl; have f1 : u1.frozen? ⟨ab, 1, none⟩ = false := (S0.out.2.2.grow hg NX.out.1).frz 1; have U1 := Lib.hid (And.intro hr (And.intro (S0.out.2.1.grow hg NX.out.2.1) (S0.out.2.2.grow hg NX.out.1))); clear hr hg)
  clear c1 f1
  obtain ⟨i1, q1, hq⟩ : ∃ i q, (q0).int = (i, q) := ⟨_, _, rfl⟩
  have O1 : Hid (OkE q1) := Lib.hid (by have := ok_int O0.out; rw [hq] at this; exact this)
  have HQ1 := Lib.hid hq
  rw [hq] at U1 ⊢
  clear hq
  have S1 : Hid (Rdg w (u1.setCell ⟨ab, 1, none⟩ (.int .i64 i1)) xb bv zs q1 ∧ Blk (u1.setCell ⟨ab, 1, none⟩ (.int .i64 i1)) sb 70 ansZ.cells ∧ Blk (u1.setCell ⟨ab, 1, none⟩ (.int .i64 i1)) ab 70 (AnsD.mk e0 i1 0 0 stmtZ).cells) := Lib.hid ⟨U1.out.1.set NX.out.2.2.2.1 _, U1.out.2.1.other _ NX.out.2.2.2.2, U1.out.2.2.set _ (by show 1 < 13; omega)⟩
  generalize u1.setCell ⟨ab, 1, none⟩ (.int .i64 i1) = W1 at *
  clear U1 S0
  go_upto_region 4 with (go_at_call 63; go_must (refine (rg_int S1.out.1 O1.out).mono ?_); rintro e u2 ⟨rfl, hr, hg⟩; have c2 : u2.cell? ⟨ab, 2, none⟩ = some (.int .i64 0) := ((S1.out.2.2.grow hg NX.out.1).cell 2).trans rfl; have f2 : u2.frozen? ⟨ab, 2, none⟩ = false := (S1.out.2.2.grow hg NX.out.1).frz 2; have U2 := Lib.hid (And.intro hr (And.intro (S1.out.2.1.grow hg NX.out.2.1) (S1.out.2.2.grow hg NX.out.1))); clear hr hg)
  clear c2 f2
  obtain ⟨i2, q2, hq⟩ : ∃ i q, (q1).int = (i, q) := ⟨_, _, rfl⟩
  have O2 : Hid (OkE q2) := Lib.hid (by have := ok_int O1.out; rw [hq] at this; exact this)
  have HQ2 := Lib.hid hq
  rw [hq] at U2 ⊢
  clear hq
  have S2 : Hid (Rdg w (u2.setCell ⟨ab, 2, none⟩ (.int .i64 i2)) xb bv zs q2 ∧ Blk (u2.setCell ⟨ab, 2, none⟩ (.int .i64 i2)) sb 70 ansZ.cells ∧ Blk (u2.setCell ⟨ab, 2, none⟩ (.int .i64 i2)) ab 70 (AnsD.mk e0 i1 i2 0 stmtZ).cells) := Lib.hid ⟨U2.out.1.set NX.out.2.2.2.1 _, U2.out.2.1.other _ NX.out.2.2.2.2, U2.out.2.2.set _ (by show 2 < 13; omega)⟩
  generalize u2.setCell ⟨ab, 2, none⟩ (.int .i64 i2) = W2 at *
  clear U2 S1
  go_upto_region 5 with (go_at_call 63; go_must (refine (rg_int S2.out.1 O2.out).mono ?_); rintro e u3 ⟨rfl, hr, hg⟩; have c3 : u3.cell? ⟨ab, 3, none⟩ = some (.int .i64 0) := ((S2.out.2.2.grow hg NX.out.1).cell 3).trans rfl; have f3 : u3.frozen? ⟨ab, 3, none⟩ = false := (S2.out.2.2.grow hg NX.out.1).frz 3; have U3 := Lib.hid (And.intro hr (And.intro (S2.out.2.1.grow hg NX.out.2.1) (S2.out.2.2.grow hg NX.out.1))); clear hr hg)
  clear c3 f3
  obtain ⟨i3, q3, hq⟩ : ∃ i q, (q2).int = (i, q) := ⟨_, _, rfl⟩
  have O3 : Hid (OkE q3) := Lib.hid (by have := ok_int O2.out; rw [hq] at this; exact this)
  have HQ3 := Lib.hid hq
  rw [hq] at U3 ⊢
  clear hq
  have S3 : Hid (Rdg w (u3.setCell ⟨ab, 3, none⟩ (.int .i64 i3)) xb bv zs q3 ∧ Blk (u3.setCell ⟨ab, 3, none⟩ (.int .i64 i3)) sb 70 ansZ.cells ∧ Blk (u3.setCell ⟨ab, 3, none⟩ (.int .i64 i3)) ab 70 (AnsD.mk e0 i1 i2 i3 stmtZ).cells) := Lib.hid ⟨U3.out.1.set NX.out.2.2.2.1 _, U3.out.2.1.other _ NX.out.2.2.2.2, U3.out.2.2.set _ (by show 3 < 13; omega)⟩
  generalize u3.setCell ⟨ab, 3, none⟩ (.int .i64 i3) = W3 at *
  clear U3 S2
  rw [HQ1.out] at FE
  simp only at FE
  rw [HQ2.out] at FE
  simp only at FE
  rw [HQ3.out] at FE
  simp only at FE
  clear HQ1 HQ2 HQ3 O0 O1 O2
  have TD : Hid (tailRd q3 = if q3.one.1 = 0 then (stmtZ, q3.one.2) else if q3.one.1 = 1 then ((stmtRd q3.one.2).1, if (stmtRd q3.one.2).1.term = 0 then (stmtRd q3.one.2).2.fail 11 else (stmtRd q3.one.2).2) else (stmtZ, q3.one.2.fail 11)) := Lib.hid rfl
  go_upto_region 6 with (go_at_call 64; go_must (refine (rg_u8 S3.out.1 O3.out).mono ?_); rintro e u4 ⟨rfl, hr, hg⟩; have S4 := Lib.hid (And.intro hr (And.intro (S3.out.2.1.grow hg NX.out.2.1) (S3.out.2.2.grow hg NX.out.1))); clear hr hg)
  have E4 : Hid (q3.one.2.err ≠ 0 → q3.one.1 = 0) := Lib.hid one_err
  have B4 : Hid (0 ≤ q3.one.1 ∧ q3.one.1 ≤ 255) := Lib.hid (reone_bd q3)
  have O4 : Hid (OkE q3.one.2) := Lib.hid (ok_one O3.out)
  obtain ⟨f, q4, hq⟩ : ∃ i q', q3.one = (i, q') := ⟨_, _, rfl⟩
  rw [hq] at S4 E4 B4 O4 TD ⊢
  simp only at S4 E4 B4 O4 TD ⊢
  clear hq S3 O3
  have c2 : u4.cell? ⟨xb, 2, none⟩ = some (.int .i64 q4.err) := S4.out.1.rd.c2
  have f2 : u4.frozen? ⟨xb, 2, none⟩ = false := S4.out.1.rd.frz 2
  by_cases he : q4.err = 0
  · have hb : (q4.err == 0) = true := by rw [he]; rfl
    by_cases hf0 : f = 0
    · have hT : Hid (tailRd q3 = (stmtZ, q4)) := Lib.hid (by rw [TD.out, if_pos hf0])
      clear he
      subst hf0
      go_upto_region 12 with (fail)
      clear c2 f2
      go_wp2_with (first
        | (refine wpList_load_row rfl 70 (.tmp 3) rfl ab rfl 70 (AnsD.mk e0 i1 i2 i3 stmtZ).cells (0, 0) _ S4.out.2.2 Tryd.underlying70 (by kernel_rfl) (by kernel_rfl) ?_)
        | (refine wpList_store_row rfl 70 (.tmp 2) (.tmp 57) rfl sb (AnsD.mk e0 i1 i2 i3 stmtZ).cells rfl rfl 70 ansZ.cells S4.out.2.1 (by kernel_rfl) rfl (ans_one_cells _) ?_))
      (try simp only [Exit.inBlock, Exit.then])
      refine bodyPost_ret (results_cell_row rfl _ _ sb 70 (AnsD.mk e0 i1 i2 i3 stmtZ).cells (0, 0) _ rfl (setRow_heap _ _ _ _ _ _ S4.out.2.1) Tryd.underlying70 (by kernel_rfl) (by kernel_rfl)) rfl ?_
      unfold RansPost
      rw [FE.out, hT.out]
      exact ⟨rfl, (S4.out.1.setRow NX.out.2.2.1 _).rd, (S4.out.1.setRow NX.out.2.2.1 _).grow⟩
    · by_cases hf1 : f = 1
      · have hT : Hid (tailRd q3 = ((stmtRd q4).1, if (stmtRd q4).1.term = 0 then (stmtRd q4).2.fail 11 else (stmtRd q4).2)) := Lib.hid (by rw [TD.out, if_neg hf0, if_pos hf1])
        clear he hf0
        subst hf1
        have hth : Hid (∀ (W : World), Blk W ab 70 (AnsD.mk e0 i1 i2 i3 stmtZ).cells → W.there ab 4 9) := Lib.hid (fun W hB j hj => ⟨by rw [hB.cell]; show ((AnsD.mk e0 i1 i2 i3 stmtZ).cells[4 + j]?).isSome = true; rw [Array.getElem?_eq_getElem (by show 4 + j < 13; omega)]; rfl, hB.frz _⟩)
        go_upto_region 10 with (first
          | (go_at_call 41; go_must (refine (rg_stmt S4.out.1 O4.out).mono ?_); rintro e u5 ⟨rfl, hr, hg⟩; have S5 := Lib.hid (And.intro hr (And.intro (S4.out.2.1.grow hg NX.out.2.1) (S4.out.2.2.grow hg NX.out.1))); clear hr hg c2 f2)
          | (refine wpList_store_mid rfl 28 (.tmp 42) (.tmp 41) rfl ab 4 (stmtRd q4).1.cells rfl rfl (hth.out _ S5.out.2.2) (by kernel_rfl) (stmt_one_cells _) ?_))
        have O5 : Hid (OkE (stmtRd q4).2) := Lib.hid (ok_stmt O4.out)
        generalize stmtRd q4 = sr at *
        obtain ⟨st, q5⟩ := sr
        simp only at hT S5 O5 ⊢
        change Code.wp _ _ _ _ (u5.setCells ab 4 st.cells.toList)
        have S6 : Hid (Rdg w (u5.setCells ab 4 st.cells.toList) xb bv zs q5 ∧ Blk (u5.setCells ab 4 st.cells.toList) sb 70 ansZ.cells ∧ Blk (u5.setCells ab 4 st.cells.toList) ab 70 (AnsD.mk e0 i1 i2 i3 st).cells) := Lib.hid (by
          obtain ⟨cs', k1, k2, k3, k4⟩ := Blk.setCells (W := u5) st.cells.toList 4 S5.out.2.2 (by show 4 + 9 ≤ 13; omega)
          rw [set_stmt_cells (AnsD.mk e0 i1 i2 i3 stmtZ) st cs' k2 k3 k4] at k1
          exact ⟨S5.out.1.setCells NX.out.2.2.2.1 _ _, ((setCells_keeps ab st.cells.toList 4 u5).2.2.2.2 sb NX.out.2.2.2.2).trans S5.out.2.1, k1⟩)
        generalize u5.setCells ab 4 st.cells.toList = W6 at *
        clear S5 S4 hth
        have c2 : W6.cell? ⟨xb, 2, none⟩ = some (.int .i64 q5.err) := S6.out.1.rd.c2
        have f2 : W6.frozen? ⟨xb, 2, none⟩ = false := S6.out.1.rd.frz 2
        have ct : W6.cell? ⟨ab, 5, none⟩ = some (.int .i64 st.term) := (S6.out.2.2.cell 5).trans rfl
        by_cases he5 : q5.err = 0
        · have hb5 : (q5.err == 0) = true := by rw [he5]; rfl
          by_cases ht : st.term = 0
          · have hbt : (st.term == 0) = true := by rw [ht]; rfl
            have hT2 : Hid (tailRd q3 = (st, ⟨q5.bs, 11⟩)) := Lib.hid (by rw [hT.out, if_pos ht, fail_z he5])
            clear he5 ht
            have hbad := S6.out.1.bad
            have S7 : Hid (Rdg w (W6.setCell ⟨xb, 2, none⟩ (.int .i64 11)) xb bv zs ⟨q5.bs, 11⟩ ∧ Blk (W6.setCell ⟨xb, 2, none⟩ (.int .i64 11)) sb 70 ansZ.cells ∧ Blk (W6.setCell ⟨xb, 2, none⟩ (.int .i64 11)) ab 70 (AnsD.mk e0 i1 i2 i3 st).cells) := Lib.hid ⟨hbad.1, S6.out.2.1.grow hbad.2 NX.out.2.1, S6.out.2.2.grow hbad.2 NX.out.1⟩
            clear hbad
            go_upto_region 12 with (fail)
            generalize W6.setCell ⟨xb, 2, none⟩ (.int .i64 11) = W7 at *
            clear c2 f2 ct S6
            go_wp2_with (first
              | (refine wpList_load_row rfl 70 (.tmp 3) rfl ab rfl 70 (AnsD.mk e0 i1 i2 i3 st).cells (0, 0) _ S7.out.2.2 Tryd.underlying70 (by kernel_rfl) (by kernel_rfl) ?_)
              | (refine wpList_store_row rfl 70 (.tmp 2) (.tmp 57) rfl sb (AnsD.mk e0 i1 i2 i3 st).cells rfl rfl 70 ansZ.cells S7.out.2.1 (by kernel_rfl) rfl (ans_one_cells _) ?_))
            (try simp only [Exit.inBlock, Exit.then])
            refine bodyPost_ret (results_cell_row rfl _ _ sb 70 (AnsD.mk e0 i1 i2 i3 st).cells (0, 0) _ rfl (setRow_heap _ _ _ _ _ _ S7.out.2.1) Tryd.underlying70 (by kernel_rfl) (by kernel_rfl)) rfl ?_
            unfold RansPost
            rw [FE.out, hT2.out]
            exact ⟨rfl, (S7.out.1.setRow NX.out.2.2.1 _).rd, (S7.out.1.setRow NX.out.2.2.1 _).grow⟩
          · have hbt : (st.term == 0) = false := by simp [ht]
            have hT2 : Hid (tailRd q3 = (st, q5)) := Lib.hid (by rw [hT.out, if_neg ht])
            clear he5 ht
            go_upto_region 12 with (fail)
            clear c2 f2 ct
            go_wp2_with (first
              | (refine wpList_load_row rfl 70 (.tmp 3) rfl ab rfl 70 (AnsD.mk e0 i1 i2 i3 st).cells (0, 0) _ S6.out.2.2 Tryd.underlying70 (by kernel_rfl) (by kernel_rfl) ?_)
              | (refine wpList_store_row rfl 70 (.tmp 2) (.tmp 57) rfl sb (AnsD.mk e0 i1 i2 i3 st).cells rfl rfl 70 ansZ.cells S6.out.2.1 (by kernel_rfl) rfl (ans_one_cells _) ?_))
            (try simp only [Exit.inBlock, Exit.then])
            refine bodyPost_ret (results_cell_row rfl _ _ sb 70 (AnsD.mk e0 i1 i2 i3 st).cells (0, 0) _ rfl (setRow_heap _ _ _ _ _ _ S6.out.2.1) Tryd.underlying70 (by kernel_rfl) (by kernel_rfl)) rfl ?_
            unfold RansPost
            rw [FE.out, hT2.out]
            exact ⟨rfl, (S6.out.1.setRow NX.out.2.2.1 _).rd, (S6.out.1.setRow NX.out.2.2.1 _).grow⟩
        · have hb5 : (q5.err == 0) = false := by simp [he5]
          have hT2 : Hid (tailRd q3 = (st, q5)) := Lib.hid (by rw [hT.out]; split; rw [fail_nz he5]; rfl)
          clear he5
          go_upto_region 12 with (fail)
          clear c2 f2 ct
          go_wp2_with (first
            | (refine wpList_load_row rfl 70 (.tmp 3) rfl ab rfl 70 (AnsD.mk e0 i1 i2 i3 st).cells (0, 0) _ S6.out.2.2 Tryd.underlying70 (by kernel_rfl) (by kernel_rfl) ?_)
            | (refine wpList_store_row rfl 70 (.tmp 2) (.tmp 57) rfl sb (AnsD.mk e0 i1 i2 i3 st).cells rfl rfl 70 ansZ.cells S6.out.2.1 (by kernel_rfl) rfl (ans_one_cells _) ?_))
          (try simp only [Exit.inBlock, Exit.then])
          refine bodyPost_ret (results_cell_row rfl _ _ sb 70 (AnsD.mk e0 i1 i2 i3 st).cells (0, 0) _ rfl (setRow_heap _ _ _ _ _ _ S6.out.2.1) Tryd.underlying70 (by kernel_rfl) (by kernel_rfl)) rfl ?_
          unfold RansPost
          rw [FE.out, hT2.out]
          exact ⟨rfl, (S6.out.1.setRow NX.out.2.2.1 _).rd, (S6.out.1.setRow NX.out.2.2.1 _).grow⟩
      · have hT : Hid (tailRd q3 = (stmtZ, ⟨q4.bs, 11⟩)) := Lib.hid (by rw [TD.out, if_neg hf0, if_neg hf1, fail_z he])
        have hf2 : decide (1 < f) = true := by have := B4.out; simp; omega
        have hf3 : (f == 1) = false := by simp [hf1]
        clear he hf0 hf1
        have hbad := S4.out.1.bad
        have S7 : Hid (Rdg w (u4.setCell ⟨xb, 2, none⟩ (.int .i64 11)) xb bv zs ⟨q4.bs, 11⟩ ∧ Blk (u4.setCell ⟨xb, 2, none⟩ (.int .i64 11)) sb 70 ansZ.cells ∧ Blk (u4.setCell ⟨xb, 2, none⟩ (.int .i64 11)) ab 70 (AnsD.mk e0 i1 i2 i3 stmtZ).cells) := Lib.hid ⟨hbad.1, S4.out.2.1.grow hbad.2 NX.out.2.1, S4.out.2.2.grow hbad.2 NX.out.1⟩
        clear hbad
        go_upto_region 8 with (fail)
        generalize u4.setCell ⟨xb, 2, none⟩ (.int .i64 11) = W7 at *
        have c2' : W7.cell? ⟨xb, 2, none⟩ = some (.int .i64 11) := S7.out.1.rd.c2
        clear c2 f2 S4
        go_upto_region 12 with (fail)
        clear c2'
        go_wp2_with (first
          | (refine wpList_load_row rfl 70 (.tmp 3) rfl ab rfl 70 (AnsD.mk e0 i1 i2 i3 stmtZ).cells (0, 0) _ S7.out.2.2 Tryd.underlying70 (by kernel_rfl) (by kernel_rfl) ?_)
          | (refine wpList_store_row rfl 70 (.tmp 2) (.tmp 57) rfl sb (AnsD.mk e0 i1 i2 i3 stmtZ).cells rfl rfl 70 ansZ.cells S7.out.2.1 (by kernel_rfl) rfl (ans_one_cells _) ?_))
        (try simp only [Exit.inBlock, Exit.then])
        refine bodyPost_ret (results_cell_row rfl _ _ sb 70 (AnsD.mk e0 i1 i2 i3 stmtZ).cells (0, 0) _ rfl (setRow_heap _ _ _ _ _ _ S7.out.2.1) Tryd.underlying70 (by kernel_rfl) (by kernel_rfl)) rfl ?_
        unfold RansPost
        rw [FE.out, hT.out]
        exact ⟨rfl, (S7.out.1.setRow NX.out.2.2.1 _).rd, (S7.out.1.setRow NX.out.2.2.1 _).grow⟩
  · have hb : (q4.err == 0) = false := by simp [he]
    have hf0 := E4.out he
    have hT : Hid (tailRd q3 = (stmtZ, q4)) := Lib.hid (by rw [TD.out, if_pos hf0])
    clear he hf0
    go_upto_region 12 with (fail)
    clear c2 f2
    go_wp2_with (first
      | (refine wpList_load_row rfl 70 (.tmp 3) rfl ab rfl 70 (AnsD.mk e0 i1 i2 i3 stmtZ).cells (0, 0) _ S4.out.2.2 Tryd.underlying70 (by kernel_rfl) (by kernel_rfl) ?_)
      | (refine wpList_store_row rfl 70 (.tmp 2) (.tmp 57) rfl sb (AnsD.mk e0 i1 i2 i3 stmtZ).cells rfl rfl 70 ansZ.cells S4.out.2.1 (by kernel_rfl) rfl (ans_one_cells _) ?_))
    (try simp only [Exit.inBlock, Exit.then])
    refine bodyPost_ret (results_cell_row rfl _ _ sb 70 (AnsD.mk e0 i1 i2 i3 stmtZ).cells (0, 0) _ rfl (setRow_heap _ _ _ _ _ _ S4.out.2.1) Tryd.underlying70 (by kernel_rfl) (by kernel_rfl)) rfl ?_
    unfold RansPost
    rw [FE.out, hT.out]
    exact ⟨rfl, (S4.out.1.setRow NX.out.2.2.1 _).rd, (S4.out.1.setRow NX.out.2.2.1 _).grow⟩
end Go.Proofs.YtehkgcmdndehaaaDoor

