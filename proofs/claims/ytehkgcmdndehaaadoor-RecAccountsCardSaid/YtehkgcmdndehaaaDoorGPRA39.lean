/- Part of the proof: merged texts. -/
import Derived.Test.YtehkgcmdndehaaaDoorGPRA38
import Derived.Test.YtehkgcmdndehaaaDoorGPRA33
namespace Go.Proofs.YtehkgcmdndehaaaDoor
set_option linter.unusedSimpArgs false
set_option linter.unusedVariables false
open Go.RowKit

def nilS : Value := .slice none 0 0
/-- The account's cells: the plain parts, the lists' slices. -/
def accC (nm key : ByteArray) (p : PlanD) (t f u : Int) (lv : Value) (nx ov : Int) (hv wv : Value) : Array Value := (AccD.mk nm key p t f u [] nx ov [] []).cells lv hv wv
theorem accC_size (nm key : ByteArray) (p : PlanD) (t f u : Int) (lv : Value) (nx ov : Int) (hv wv : Value) : (accC nm key p t f u lv nx ov hv wv).size = 20 := rfl
theorem set_plan_cells (nm key : ByteArray) (pl : PlanD) (cs : Array Value) (h : cs.size = 20) (h1 : ∀ j : Nat, j < 10 → cs[2 + j]? = pl.cells.toList[j]?) (h2 : ∀ j : Nat, (j < 2 ∨ 2 + 10 ≤ j) → cs[j]? = (accC nm key plan0 0 0 0 nilS 0 0 nilS nilS)[j]?) : cs = accC nm key pl 0 0 0 nilS 0 0 nilS nilS := by
  apply Array.ext_getElem?
  intro i
  match i with
  | 0 => rw [h2 0 (by omega)]; rfl
  | 1 => rw [h2 1 (by omega)]; rfl
  | 2 => exact (h1 0 (by omega)).trans rfl
  | 3 => exact (h1 1 (by omega)).trans rfl
  | 4 => exact (h1 2 (by omega)).trans rfl
  | 5 => exact (h1 3 (by omega)).trans rfl
  | 6 => exact (h1 4 (by omega)).trans rfl
  | 7 => exact (h1 5 (by omega)).trans rfl
  | 8 => exact (h1 6 (by omega)).trans rfl
  | 9 => exact (h1 7 (by omega)).trans rfl
  | 10 => exact (h1 8 (by omega)).trans rfl
  | 11 => exact (h1 9 (by omega)).trans rfl
  | 12 => rw [h2 12 (by omega)]; rfl
  | 13 => rw [h2 13 (by omega)]; rfl
  | 14 => rw [h2 14 (by omega)]; rfl
  | 15 => rw [h2 15 (by omega)]; rfl
  | 16 => rw [h2 16 (by omega)]; rfl
  | 17 => rw [h2 17 (by omega)]; rfl
  | 18 => rw [h2 18 (by omega)]; rfl
  | 19 => rw [h2 19 (by omega)]; rfl
  | i + 20 => rw [Array.getElem?_eq_none (by omega), Array.getElem?_eq_none (by show 20 ≤ _; omega)]
def RaccPost (w : World) (xb : Nat) (bv : Value) (zs : List UInt8) (q : Re) (e : Ending) (w' : World) : Prop :=
  ∃ (lv hv wv : Value) (hs : List (HoldD × Value)), e = .returned (.agg ((accRd q).1.cells lv hv wv)) ∧ AccOut w' w.heap.size (accRd q).1 lv hv wv hs ∧ RefE w' xb bv zs (accRd q).2 ∧ RefG w w' xb
theorem holds_def (r : Re) : holdsRd r = manyRd holdRd r.one.1.toNat r.one.2 := rfl
theorem win_def (r : Re) : winRd r = manyRd entryRd r.one.1.toNat r.one.2 := rfl
attribute [local irreducible] Re.ints Re.str Re.one Re.int stmtRd manyRd ansRd tailRd planRd lotRd partRd holdRd entryRd lotsRd holdsRd winRd fillRd
theorem ref_acc_eq (q : Re) : accRd q = (⟨strB q.str.1, strB q.str.2.str.1, (planRd q.str.2.str.2).1, (planRd q.str.2.str.2).2.int.1, (planRd q.str.2.str.2).2.int.2.int.1, (planRd q.str.2.str.2).2.int.2.int.2.int.1,
    (fillRd (planRd q.str.2.str.2).2.int.2.int.2.int.2).1.1, (fillRd (planRd q.str.2.str.2).2.int.2.int.2.int.2).1.2.1, (fillRd (planRd q.str.2.str.2).2.int.2.int.2.int.2).1.2.2.1, (fillRd (planRd q.str.2.str.2).2.int.2.int.2.int.2).1.2.2.2.1, (fillRd (planRd q.str.2.str.2).2.int.2.int.2.int.2).1.2.2.2.2⟩, (fillRd (planRd q.str.2.str.2).2.int.2.int.2.int.2).2) := by
  rw [accRd_eq]; simp only [ints_three]; rfl
theorem lot_eq (q : Re) : lotRd q = (⟨q.int.1, q.int.2.int.1, q.int.2.int.2.int.1, q.int.2.int.2.int.2.int.1, q.int.2.int.2.int.2.int.2.int.1, q.int.2.int.2.int.2.int.2.int.2.int.1, q.int.2.int.2.int.2.int.2.int.2.int.2.int.1, q.int.2.int.2.int.2.int.2.int.2.int.2.int.2.int.1, q.int.2.int.2.int.2.int.2.int.2.int.2.int.2.int.2.int.1⟩, q.int.2.int.2.int.2.int.2.int.2.int.2.int.2.int.2.int.2) := by
  unfold lotRd
  rw [Re.ints, Re.ints, Re.ints, Re.ints, Re.ints, Re.ints, Re.ints, Re.ints, Re.ints, Re.ints]
  rfl
theorem part_eq (q : Re) : partRd q = (⟨q.int.1, q.int.2.int.1⟩, q.int.2.int.2) := by
  unfold partRd
  rw [Re.ints, Re.ints, Re.ints]
  rfl
theorem entry_eq (q : Re) : entryRd q = (⟨q.int.1, (ansRd q.int.2).1⟩, (ansRd q.int.2).2) := by
  unfold entryRd
  rw [Re.ints, Re.ints]
  rfl
theorem fill_int (r : Re) : fillRd r = (((lotsRd r).1, (lotsRd r).2.int.1, (lotsRd r).2.int.2.int.1, (holdsRd (lotsRd r).2.int.2.int.2).1, (winRd (holdsRd (lotsRd r).2.int.2.int.2).2).1), (winRd (holdsRd (lotsRd r).2.int.2.int.2).2).2) := by
  rw [fillRd_eq, Re.ints, Re.ints, Re.ints]
  rfl
theorem hold_int (r : Re) : holdRd r = (⟨r.int.1, (manyRd partRd r.int.2.one.1.toNat r.int.2.one.2).1, (manyRd partRd r.int.2.one.1.toNat r.int.2.one.2).2.int.1, (manyRd partRd r.int.2.one.1.toNat r.int.2.one.2).2.int.2.int.1⟩, (manyRd partRd r.int.2.one.1.toNat r.int.2.one.2).2.int.2.int.2) := by
  rw [holdRd_eq, Re.ints, Re.ints, Re.ints, Re.ints, Re.ints]
  rfl
theorem holds_mx {w w' : World} {xb tb B : Nat} {hv : Value} {hs : List (HoldD × Value)} (h : RdHolds w hv hs) (m : MX w w' xb tb) (hf : Fr B hv) (hp : ∀ h ∈ hs, Fr B h.2) (hx : xb < B) (ht : tb < B) : RdHolds w' hv hs :=
  ⟨h.1.mx m hf hx ht, fun x hx' => Items.mx (h.2 x hx') m (hp x hx') hx ht⟩
set_option maxHeartbeats 3200000 in
set_option maxRecDepth 100000 in
theorem ref_racc6 (xb : Nat) (bv : Value) (zs : List UInt8) (q : Re) (w : World) (h : RefE w xb bv zs q) (ho : OkE q) :
    Calls Tryd.prog 35 #[.pointer (some ⟨xb, 0, none⟩)] w (RaccPost w xb bv zs q) := by
  obtain ⟨ti0, hi0, hz00, hz01, hz02⟩ := info_parts infoLot
  obtain ⟨ti1, hi1, hz10, hz11, hz12⟩ := info_parts infoHold
  obtain ⟨ti2, hi2, hz20, hz21, hz22⟩ := info_parts infoEntry
  obtain ⟨ti3, hi3, hz30, hz31, hz32⟩ := info_parts infoPart
  have H := Lib.hid (And.intro h ho)
  have FE := Lib.hid (ref_acc_eq q)
  clear h ho
  go_enter Tryd.func35, Tryd.ntmps35
  go_upto_region 1 with (fail)
  change Code.wp _ _ _ _ (w.alloc (.cells accZc 45))
  have R0 : Hid (Rdg w (w.alloc (.cells accZc 45)) xb bv zs q ∧ Blk (w.alloc (.cells accZc 45)) w.heap.size 45 accZc ∧ (w.alloc (.cells accZc 45)).heap.size = w.heap.size + 1) := Lib.hid ⟨⟨H.out.1.refs (below_alloc _ _), RefG.of_below (below_alloc _ _), fun k hk => reads_own_lt H.out.1.reads k hk, H.out.1.lt⟩, Blk.new _ _ _, by simp⟩
  generalize w.alloc (.cells accZc 45) = W00 at *
  obtain ⟨nm, q0, hq⟩ : ∃ i q', q.str = (i, q') := ⟨_, _, rfl⟩
  have O0 : Hid (OkE q0) := Lib.hid (by have := ok_str H.out.2; rw [hq] at this; exact this)
  have RT : Hid (Calls Tryd.prog 62 #[.pointer (some ⟨xb, 0, none⟩)] W00 (RdgPost w W00 xb bv zs (.string (strB nm)) q0)) := Lib.hid (by have := rg_text R0.out.1 H.out.2; rw [hq] at this; exact this)
  rw [hq] at FE
  simp only at FE
  clear hq
  go_upto_region 2 with (first
    | (go_at_call 62; go_must (refine RT.out.mono ?_); rintro e u0 ⟨rfl, hr, hg⟩; have U0 := Lib.hid (And.intro hr (And.intro (R0.out.2.1.grow hg (by have := H.out.1.lt; omega)) hg)); clear hr hg)
    | (refine wpList_build_at _ rfl 45 _ rfl (accC (strB nm) ⟨#[]⟩ plan0 0 0 0 nilS 0 0 nilS nilS) (by kernel_rfl) ?_)
    | (refine wpList_store_row rfl 45 (.tmp 3) (.tmp 16) rfl u0.heap.size (accC (strB nm) ⟨#[]⟩ plan0 0 0 0 nilS 0 0 nilS nilS) rfl rfl 45 accZc (heap_alloc_new u0 (.cells accZc 45)) (by kernel_rfl) rfl (acc_one_cells _ rfl rfl rfl) ?_))
  clear RT
  change Code.wp _ _ _ _ ((u0.alloc (.cells accZc 45)).setRow u0.heap.size (accC (strB nm) ⟨#[]⟩ plan0 0 0 0 nilS 0 0 nilS nilS))
  have hsu : W00.heap.size ≤ u0.heap.size := U0.out.2.2.size
  have NX : Hid (u0.heap.size ≠ xb ∧ w.heap.size ≠ xb ∧ w.heap.size ≤ w.heap.size ∧ w.heap.size ≤ u0.heap.size ∧ w.heap.size ≠ u0.heap.size) := Lib.hid (by have := H.out.1.lt; have := R0.out.2.2; omega)
  have S0 : Hid (Rdg w ((u0.alloc (.cells accZc 45)).setRow u0.heap.size (accC (strB nm) ⟨#[]⟩ plan0 0 0 0 nilS 0 0 nilS nilS)) xb bv zs q0 ∧ Blk ((u0.alloc (.cells accZc 45)).setRow u0.heap.size (accC (strB nm) ⟨#[]⟩ plan0 0 0 0 nilS 0 0 nilS nilS)) w.heap.size 45 accZc ∧ Blk ((u0.alloc (.cells accZc 45)).setRow u0.heap.size (accC (strB nm) ⟨#[]⟩ plan0 0 0 0 nilS 0 0 nilS nilS)) u0.heap.size 45 (accC (strB nm) ⟨#[]⟩ plan0 0 0 0 nilS 0 0 nilS nilS)) := Lib.hid ⟨(U0.out.1.below (below_alloc _ _)).setRow NX.out.2.2.2.1 _, (U0.out.2.1.below (below_alloc _ _)).otherRow _ NX.out.2.2.2.2, (Blk.new u0 45 accZc).setRow _⟩
  generalize (u0.alloc (.cells accZc 45)).setRow u0.heap.size (accC (strB nm) ⟨#[]⟩ plan0 0 0 0 nilS 0 0 nilS nilS) = W0 at *
  generalize u0.heap.size = ab at *
  obtain ⟨sb, hsb⟩ : ∃ x, x = w.heap.size := ⟨_, rfl⟩
  rw [← hsb] at S0 NX ⊢
  have HSB := Lib.hid hsb
  have NX : Hid (ab ≠ xb ∧ sb ≠ xb ∧ w.heap.size ≤ sb ∧ w.heap.size ≤ ab ∧ sb ≠ ab) := Lib.hid (by have := NX.out; have := HSB.out; omega)
  clear U0 R0 hsu hsb
  go_upto_region 3 with (go_at_call 62; go_must (refine (rg_text S0.out.1 O0.out).mono ?_); rintro e u1 ⟨rfl, hr, hg⟩; have c1 : u1.cell? ⟨ab, 1, none⟩ = some (.string ⟨#[]⟩) := ((S0.out.2.2.grow hg NX.out.1).cell 1).trans rfl; have f1 : u1.frozen? ⟨ab, 1, none⟩ = false := (S0.out.2.2.grow hg NX.out.1).frz 1; have U1 := Lib.hid (And.intro hr (And.intro (S0.out.2.1.grow hg NX.out.2.1) (S0.out.2.2.grow hg NX.out.1))); clear hr hg)
  clear c1 f1
  obtain ⟨key, q1, hq⟩ : ∃ i q, (q0).str = (i, q) := ⟨_, _, rfl⟩
  have O1 : Hid (OkE q1) := Lib.hid (by have := ok_str O0.out; rw [hq] at this; exact this)
  rw [hq] at FE U1 ⊢
  simp only at FE
  clear hq
  have S1 : Hid (Rdg w (u1.setCell ⟨ab, 1, none⟩ (.string (strB key))) xb bv zs q1 ∧ Blk (u1.setCell ⟨ab, 1, none⟩ (.string (strB key))) sb 45 accZc ∧ Blk (u1.setCell ⟨ab, 1, none⟩ (.string (strB key))) ab 45 (accC (strB nm) (strB key) plan0 0 0 0 nilS 0 0 nilS nilS)) := Lib.hid ⟨U1.out.1.set NX.out.2.2.2.1 _, U1.out.2.1.other _ NX.out.2.2.2.2, U1.out.2.2.set _ (by show 1 < 20; omega)⟩
  generalize u1.setCell ⟨ab, 1, none⟩ (.string (strB key)) = W1 at *
  clear U1 S0 O0
  have hth : Hid (∀ (W : World), Blk W ab 45 (accC (strB nm) (strB key) plan0 0 0 0 nilS 0 0 nilS nilS) → W.there ab 2 10) := Lib.hid (fun W hB j hj => ⟨by rw [hB.cell]; rw [Array.getElem?_eq_getElem (by show 2 + j < 20; omega)]; rfl, hB.frz _⟩)
  go_upto_region 4 with (first
    | (go_at_call 40; go_must (refine (rg_plan S1.out.1 O1.out).mono ?_); rintro e u2 ⟨rfl, hr, hg⟩; have U2 := Lib.hid (And.intro hr (And.intro (S1.out.2.1.grow hg NX.out.2.1) (S1.out.2.2.grow hg NX.out.1))); clear hr hg)
    | (refine wpList_store_mid rfl 26 (.tmp 22) (.tmp 21) rfl ab 2 (planRd q1).1.cells rfl rfl (hth.out _ U2.out.2.2) (by kernel_rfl) (plan_one_cells _) ?_))
  have O2 : Hid (OkE (planRd q1).2) := Lib.hid (ok_plan O1.out)
  generalize planRd q1 = pr at *
  obtain ⟨pl, q2⟩ := pr
  simp only at FE U2 O2 ⊢
  change Code.wp _ _ _ _ (u2.setCells ab 2 pl.cells.toList)
  have S2 : Hid (Rdg w (u2.setCells ab 2 pl.cells.toList) xb bv zs q2 ∧ Blk (u2.setCells ab 2 pl.cells.toList) sb 45 accZc ∧ Blk (u2.setCells ab 2 pl.cells.toList) ab 45 (accC (strB nm) (strB key) pl 0 0 0 nilS 0 0 nilS nilS)) := Lib.hid (by
    obtain ⟨cs', k1, k2, k3, k4⟩ := Blk.setCells (W := u2) pl.cells.toList 2 U2.out.2.2 (by show 2 + 10 ≤ 20; omega)
    rw [set_plan_cells (strB nm) (strB key) pl cs' k2 k3 k4] at k1
    exact ⟨U2.out.1.setCells NX.out.2.2.2.1 _ _, ((setCells_keeps ab pl.cells.toList 2 u2).2.2.2.2 sb NX.out.2.2.2.2).trans U2.out.2.1, k1⟩)
  generalize u2.setCells ab 2 pl.cells.toList = W2 at *
  clear U2 S1 hth O1
  go_upto_region 5 with (go_at_call 63; go_must (refine (rg_int S2.out.1 O2.out).mono ?_); rintro e u3 ⟨rfl, hr, hg⟩; have c3 : u3.cell? ⟨ab, 12, none⟩ = some (.int .i64 0) := ((S2.out.2.2.grow hg NX.out.1).cell 12).trans rfl; have f3 : u3.frozen? ⟨ab, 12, none⟩ = false := (S2.out.2.2.grow hg NX.out.1).frz 12; have U3 := Lib.hid (And.intro hr (And.intro (S2.out.2.1.grow hg NX.out.2.1) (S2.out.2.2.grow hg NX.out.1))); clear hr hg)
  clear c3 f3
  obtain ⟨i3, q3, hq⟩ : ∃ i q, (q2).int = (i, q) := ⟨_, _, rfl⟩
  have O3 : Hid (OkE q3) := Lib.hid (by have := ok_int O2.out; rw [hq] at this; exact this)
  rw [hq] at FE U3 ⊢
  simp only at FE
  clear hq
  have S3 : Hid (Rdg w (u3.setCell ⟨ab, 12, none⟩ (.int .i64 i3)) xb bv zs q3 ∧ Blk (u3.setCell ⟨ab, 12, none⟩ (.int .i64 i3)) sb 45 accZc ∧ Blk (u3.setCell ⟨ab, 12, none⟩ (.int .i64 i3)) ab 45 (accC (strB nm) (strB key) pl i3 0 0 nilS 0 0 nilS nilS)) := Lib.hid ⟨U3.out.1.set NX.out.2.2.2.1 _, U3.out.2.1.other _ NX.out.2.2.2.2, U3.out.2.2.set _ (by show 12 < 20; omega)⟩
  generalize u3.setCell ⟨ab, 12, none⟩ (.int .i64 i3) = W3 at *
  clear U3 S2 O2
  go_upto_region 6 with (go_at_call 63; go_must (refine (rg_int S3.out.1 O3.out).mono ?_); rintro e u4 ⟨rfl, hr, hg⟩; have c4 : u4.cell? ⟨ab, 13, none⟩ = some (.int .i64 0) := ((S3.out.2.2.grow hg NX.out.1).cell 13).trans rfl; have f4 : u4.frozen? ⟨ab, 13, none⟩ = false := (S3.out.2.2.grow hg NX.out.1).frz 13; have U4 := Lib.hid (And.intro hr (And.intro (S3.out.2.1.grow hg NX.out.2.1) (S3.out.2.2.grow hg NX.out.1))); clear hr hg)
  clear c4 f4
  obtain ⟨i4, q4, hq⟩ : ∃ i q, (q3).int = (i, q) := ⟨_, _, rfl⟩
  have O4 : Hid (OkE q4) := Lib.hid (by have := ok_int O3.out; rw [hq] at this; exact this)
  rw [hq] at FE U4 ⊢
  simp only at FE
  clear hq
  have S4 : Hid (Rdg w (u4.setCell ⟨ab, 13, none⟩ (.int .i64 i4)) xb bv zs q4 ∧ Blk (u4.setCell ⟨ab, 13, none⟩ (.int .i64 i4)) sb 45 accZc ∧ Blk (u4.setCell ⟨ab, 13, none⟩ (.int .i64 i4)) ab 45 (accC (strB nm) (strB key) pl i3 i4 0 nilS 0 0 nilS nilS)) := Lib.hid ⟨U4.out.1.set NX.out.2.2.2.1 _, U4.out.2.1.other _ NX.out.2.2.2.2, U4.out.2.2.set _ (by show 13 < 20; omega)⟩
  generalize u4.setCell ⟨ab, 13, none⟩ (.int .i64 i4) = W4 at *
  clear U4 S3 O3
  go_upto_region 7 with (go_at_call 63; go_must (refine (rg_int S4.out.1 O4.out).mono ?_); rintro e u5 ⟨rfl, hr, hg⟩; have c5 : u5.cell? ⟨ab, 14, none⟩ = some (.int .i64 0) := ((S4.out.2.2.grow hg NX.out.1).cell 14).trans rfl; have f5 : u5.frozen? ⟨ab, 14, none⟩ = false := (S4.out.2.2.grow hg NX.out.1).frz 14; have U5 := Lib.hid (And.intro hr (And.intro (S4.out.2.1.grow hg NX.out.2.1) (S4.out.2.2.grow hg NX.out.1))); clear hr hg)
  clear c5 f5
  obtain ⟨i5, q5, hq⟩ : ∃ i q, (q4).int = (i, q) := ⟨_, _, rfl⟩
  have O5 : Hid (OkE q5) := Lib.hid (by have := ok_int O4.out; rw [hq] at this; exact this)
  rw [hq] at FE U5 ⊢
  simp only at FE
  clear hq
  have S5 : Hid (Rdg w (u5.setCell ⟨ab, 14, none⟩ (.int .i64 i5)) xb bv zs q5 ∧ Blk (u5.setCell ⟨ab, 14, none⟩ (.int .i64 i5)) sb 45 accZc ∧ Blk (u5.setCell ⟨ab, 14, none⟩ (.int .i64 i5)) ab 45 (accC (strB nm) (strB key) pl i3 i4 i5 nilS 0 0 nilS nilS)) := Lib.hid ⟨U5.out.1.set NX.out.2.2.2.1 _, U5.out.2.1.other _ NX.out.2.2.2.2, U5.out.2.2.set _ (by show 14 < 20; omega)⟩
  generalize u5.setCell ⟨ab, 14, none⟩ (.int .i64 i5) = W5 at *
  clear U5 S4 O4
  go_upto_block 0 with (go_at_call 64; go_must (refine (rg_u8 S5.out.1 O5.out).mono ?_); rintro e wa0 ⟨rfl, hr, hg⟩; have Y0 := Lib.hid (And.intro hr (And.intro (S5.out.2.1.grow hg NX.out.2.1) (S5.out.2.2.grow hg NX.out.1))); clear hr hg)
  obtain ⟨N0, hN, hM0⟩ : ∃ N : Nat, (q5).one.1 = N ∧ N ≤ 255 := ⟨(q5).one.1.toNat, (reone_cast (q5)).1, (reone_cast (q5)).2⟩
  have E0 : Hid (lotsRd q5 = manyRd lotRd N0 (q5).one.2) := Lib.hid (by rw [lotRd_def, hN, Int.toNat_natCast])
  rw [hN]
  have OA0 : Hid (OkE (q5).one.2) := Lib.hid (ok_one O5.out)
  generalize hr : (q5).one.2 = r0 at *
  clear hN hr
  have BD0 : Hid (xb < wa0.heap.size ∧ ab < wa0.heap.size ∧ w.heap.size ≤ wa0.heap.size ∧ w.heap.size ≤ ab ∧ ab ≠ xb) := Lib.hid (by have h1 := Y0.out.1.lt; have h2 := Y0.out.1.grow.size; have h3 := Y0.out.2.2.lt; have h4 := NX.out.2.2.2.1; exact ⟨by omega, h3, h2, h4, NX.out.1⟩)
  go_cut [5, 6] (fun s5 s6 wx => ∃ uv, LA w wa0 wx xb ab bv zs 45 (accC (strB nm) (strB key) pl i3 i4 i5 nilS 0 0 nilS nilS) 15 72 9 ((manyRd lotRd N0 r0).1.map (fun l : LotD => l.cells.toList)) (manyRd lotRd N0 r0).2 uv)
  case first =>
    go_wp2_with fail
    go_loopg [5, 6] N0 (fun g s5 s6 wr => ∃ k : Nat, k + g = N0 ∧ s5 = .int .i64 k ∧ ∃ uv, LA w wa0 wr xb ab bv zs 45 (accC (strB nm) (strB key) pl i3 i4 i5 nilS 0 0 nilS nilS) 15 72 9 ((manyRd lotRd k r0).1.map (fun l : LotD => l.cells.toList)) (manyRd lotRd k r0).2 uv)
    case atStart => exact ⟨0, by omega, rfl, nilS, by rw [many_zero]; exact ⟨Y0.out.1, by rw [show (accC (strB nm) (strB key) pl i3 i4 i5 nilS 0 0 nilS nilS).setIfInBounds 15 nilS = (accC (strB nm) (strB key) pl i3 i4 i5 nilS 0 0 nilS nilS) from rfl]; exact Y0.out.2.2, MX.refl _ _ _, OwnI.nil _ _ _ _, Nat.zero_le _⟩⟩
    case round =>
      obtain ⟨k, hkg, rfl, uv, hP⟩ := hrel
      cases gk with
      | zero =>
        have hk : ¬ ((k : Int) < (N0 : Int)) := by omega
        have FP : Hid (LA w wa0 wr xb ab bv zs 45 (accC (strB nm) (strB key) pl i3 i4 i5 nilS 0 0 nilS nilS) 15 72 9 ((manyRd lotRd N0 r0).1.map (fun l : LotD => l.cells.toList)) (manyRd lotRd N0 r0).2 uv) := Lib.hid (by rw [show N0 = k by omega]; exact hP)
        clear hP hkg
        go_wp2
        clear hk
        go_meet
        exact ⟨uv, FP.out⟩
      | succ g =>
        have hk : (k : Int) < (N0 : Int) := by omega
        have hk2 : (k : Int) + 1 ≤ 255 := by omega
        have HKG := Lib.hid hkg
        have HSN : Hid (manyRd lotRd (k + 1) r0 = if (manyRd lotRd k r0).2.err = 0 then ((manyRd lotRd k r0).1 ++ [(lotRd (manyRd lotRd k r0).2).1], (lotRd (manyRd lotRd k r0).2).2) else manyRd lotRd k r0) := Lib.hid (many_snoc _ _ _)
        have HST : Hid ((manyRd lotRd k r0).2.err ≠ 0 → manyRd lotRd N0 r0 = manyRd lotRd k r0) := Lib.hid (fun h => by
          have := many_stop lotRd k r0 h (g + 1)
          rwa [show k + (g + 1) = N0 by omega] at this)
        have HLN : Hid ((manyRd lotRd k r0).1.length < 255) := Lib.hid (by have := many_length lotRd k r0; omega)
        generalize manyRd lotRd k r0 = p at *
        obtain ⟨ps0, rp0⟩ := p
        obtain ⟨wr0, rfl⟩ : ∃ x : World, x = wr := ⟨_, rfl⟩
        have XR0 : Hid (LA w wa0 wr0 xb ab bv zs 45 (accC (strB nm) (strB key) pl i3 i4 i5 nilS 0 0 nilS nilS) 15 72 9 (ps0.map (fun l : LotD => l.cells.toList)) rp0 uv) := Lib.hid hP
        have c2 : wr0.cell? ⟨xb, 2, none⟩ = some (.int .i64 rp0.err) := hP.rd.rd.c2
        skip
        clear hP hkg
        by_cases he : rp0.err = 0
        · have hb : (rp0.err == 0) = true := by rw [he]; rfl
          have HS2 : Hid (manyRd lotRd (k + 1) r0 = (ps0 ++ [(lotRd rp0).1], (lotRd rp0).2)) := Lib.hid (by have := HSN.out; simp only at this; rw [if_pos he] at this; exact this)
          have OR0 : Hid (OkE rp0) := Lib.hid (.inl he)
          have BR0 : Hid (xb < wr0.heap.size ∧ w.heap.size ≤ wr0.heap.size) := Lib.hid (by have h1 := XR0.out.rd.lt; have h2 := XR0.out.rd.grow.size; exact ⟨by omega, h2⟩)
          have EE0 := Lib.hid (lot_eq rp0)
          clear he HSN HST
          go_upto_region 11 with (fail)
          clear hb hk c2
          go_upto_region 12 with (go_at_call 63; go_must (refine (rg_int XR0.out.rd OR0.out).mono ?_); rintro e u ⟨rfl, hr, hg⟩; have U := Lib.hid (And.intro hr hg); clear hr hg)
          obtain ⟨j00, q00, hq⟩ : ∃ i q, (rp0).int = (i, q) := ⟨_, _, rfl⟩
          have P00 : Hid (OkE q00) := Lib.hid (by have := ok_int OR0.out; rw [hq] at this; exact this)
          rw [hq] at EE0 U ⊢
          simp only at EE0
          clear hq
          change Code.wp _ _ _ _ (u.alloc (.cells ((LotD.mk j00 0 0 0 0 0 0 0 0).cells) 72))
          have L00 : Hid (LS w wr0 (u.alloc (.cells ((LotD.mk j00 0 0 0 0 0 0 0 0).cells) 72)) xb u.heap.size bv zs q00 72 ((LotD.mk j00 0 0 0 0 0 0 0 0).cells)) := Lib.hid (LS.new _ _ U.out.1 U.out.2 BR0.out.1 BR0.out.2)
          generalize u.alloc (.cells ((LotD.mk j00 0 0 0 0 0 0 0 0).cells) 72) = W00 at *
          generalize u.heap.size = eb0 at *
          clear U OR0
          go_upto_region 13 with (go_at_call 63; go_must (refine (rg_int L00.out.rd P00.out).mono ?_); rintro e u ⟨rfl, hr, hg⟩; have cx : u.cell? ⟨eb0, 1, none⟩ = some (.int .i64 0) := ((L00.out.ebk.grow hg L00.out.ne).cell 1).trans rfl; have fx : u.frozen? ⟨eb0, 1, none⟩ = false := (L00.out.ebk.grow hg L00.out.ne).frz 1; have U := Lib.hid (And.intro hr hg); clear hr hg)
          clear cx fx
          obtain ⟨j01, q01, hq⟩ : ∃ i q, (q00).int = (i, q) := ⟨_, _, rfl⟩
          have P01 : Hid (OkE q01) := Lib.hid (by have := ok_int P00.out; rw [hq] at this; exact this)
          rw [hq] at EE0 U ⊢
          simp only at EE0
          clear hq
          have L01 : Hid (LS w wr0 (u.setCell ⟨eb0, 1, none⟩ (.int .i64 j01)) xb eb0 bv zs q01 72 ((LotD.mk j00 j01 0 0 0 0 0 0 0).cells)) := Lib.hid (L00.out.put U.out.1 U.out.2 1 _ (by show 1 < (LotD.mk j00 j01 0 0 0 0 0 0 0).cells.size; simp only [LotD.cells, PartD.cells, HoldD.cells, EntryD.cells, List.size_toArray, List.length_cons, List.length_nil]; omega))
          generalize u.setCell ⟨eb0, 1, none⟩ (.int .i64 j01) = W01 at *
          clear U L00 P00
          go_upto_region 14 with (go_at_call 63; go_must (refine (rg_int L01.out.rd P01.out).mono ?_); rintro e u ⟨rfl, hr, hg⟩; have cx : u.cell? ⟨eb0, 2, none⟩ = some (.int .i64 0) := ((L01.out.ebk.grow hg L01.out.ne).cell 2).trans rfl; have fx : u.frozen? ⟨eb0, 2, none⟩ = false := (L01.out.ebk.grow hg L01.out.ne).frz 2; have U := Lib.hid (And.intro hr hg); clear hr hg)
          clear cx fx
          obtain ⟨j02, q02, hq⟩ : ∃ i q, (q01).int = (i, q) := ⟨_, _, rfl⟩
          have P02 : Hid (OkE q02) := Lib.hid (by have := ok_int P01.out; rw [hq] at this; exact this)
          rw [hq] at EE0 U ⊢
          simp only at EE0
          clear hq
          have L02 : Hid (LS w wr0 (u.setCell ⟨eb0, 2, none⟩ (.int .i64 j02)) xb eb0 bv zs q02 72 ((LotD.mk j00 j01 j02 0 0 0 0 0 0).cells)) := Lib.hid (L01.out.put U.out.1 U.out.2 2 _ (by show 2 < (LotD.mk j00 j01 j02 0 0 0 0 0 0).cells.size; simp only [LotD.cells, PartD.cells, HoldD.cells, EntryD.cells, List.size_toArray, List.length_cons, List.length_nil]; omega))
          generalize u.setCell ⟨eb0, 2, none⟩ (.int .i64 j02) = W02 at *
          clear U L01 P01
          go_upto_region 15 with (go_at_call 63; go_must (refine (rg_int L02.out.rd P02.out).mono ?_); rintro e u ⟨rfl, hr, hg⟩; have cx : u.cell? ⟨eb0, 3, none⟩ = some (.int .i64 0) := ((L02.out.ebk.grow hg L02.out.ne).cell 3).trans rfl; have fx : u.frozen? ⟨eb0, 3, none⟩ = false := (L02.out.ebk.grow hg L02.out.ne).frz 3; have U := Lib.hid (And.intro hr hg); clear hr hg)
          clear cx fx
          obtain ⟨j03, q03, hq⟩ : ∃ i q, (q02).int = (i, q) := ⟨_, _, rfl⟩
          have P03 : Hid (OkE q03) := Lib.hid (by have := ok_int P02.out; rw [hq] at this; exact this)
          rw [hq] at EE0 U ⊢
          simp only at EE0
          clear hq
          have L03 : Hid (LS w wr0 (u.setCell ⟨eb0, 3, none⟩ (.int .i64 j03)) xb eb0 bv zs q03 72 ((LotD.mk j00 j01 j02 j03 0 0 0 0 0).cells)) := Lib.hid (L02.out.put U.out.1 U.out.2 3 _ (by show 3 < (LotD.mk j00 j01 j02 j03 0 0 0 0 0).cells.size; simp only [LotD.cells, PartD.cells, HoldD.cells, EntryD.cells, List.size_toArray, List.length_cons, List.length_nil]; omega))
          generalize u.setCell ⟨eb0, 3, none⟩ (.int .i64 j03) = W03 at *
          clear U L02 P02
          go_upto_region 16 with (go_at_call 63; go_must (refine (rg_int L03.out.rd P03.out).mono ?_); rintro e u ⟨rfl, hr, hg⟩; have cx : u.cell? ⟨eb0, 4, none⟩ = some (.int .i64 0) := ((L03.out.ebk.grow hg L03.out.ne).cell 4).trans rfl; have fx : u.frozen? ⟨eb0, 4, none⟩ = false := (L03.out.ebk.grow hg L03.out.ne).frz 4; have U := Lib.hid (And.intro hr hg); clear hr hg)
          clear cx fx
          obtain ⟨j04, q04, hq⟩ : ∃ i q, (q03).int = (i, q) := ⟨_, _, rfl⟩
          have P04 : Hid (OkE q04) := Lib.hid (by have := ok_int P03.out; rw [hq] at this; exact this)
          rw [hq] at EE0 U ⊢
          simp only at EE0
          clear hq
          have L04 : Hid (LS w wr0 (u.setCell ⟨eb0, 4, none⟩ (.int .i64 j04)) xb eb0 bv zs q04 72 ((LotD.mk j00 j01 j02 j03 j04 0 0 0 0).cells)) := Lib.hid (L03.out.put U.out.1 U.out.2 4 _ (by show 4 < (LotD.mk j00 j01 j02 j03 j04 0 0 0 0).cells.size; simp only [LotD.cells, PartD.cells, HoldD.cells, EntryD.cells, List.size_toArray, List.length_cons, List.length_nil]; omega))
          generalize u.setCell ⟨eb0, 4, none⟩ (.int .i64 j04) = W04 at *
          clear U L03 P03
          go_upto_region 17 with (go_at_call 63; go_must (refine (rg_int L04.out.rd P04.out).mono ?_); rintro e u ⟨rfl, hr, hg⟩; have cx : u.cell? ⟨eb0, 5, none⟩ = some (.int .i64 0) := ((L04.out.ebk.grow hg L04.out.ne).cell 5).trans rfl; have fx : u.frozen? ⟨eb0, 5, none⟩ = false := (L04.out.ebk.grow hg L04.out.ne).frz 5; have U := Lib.hid (And.intro hr hg); clear hr hg)
          clear cx fx
          obtain ⟨j05, q05, hq⟩ : ∃ i q, (q04).int = (i, q) := ⟨_, _, rfl⟩
          have P05 : Hid (OkE q05) := Lib.hid (by have := ok_int P04.out; rw [hq] at this; exact this)
          rw [hq] at EE0 U ⊢
          simp only at EE0
          clear hq
          have L05 : Hid (LS w wr0 (u.setCell ⟨eb0, 5, none⟩ (.int .i64 j05)) xb eb0 bv zs q05 72 ((LotD.mk j00 j01 j02 j03 j04 j05 0 0 0).cells)) := Lib.hid (L04.out.put U.out.1 U.out.2 5 _ (by show 5 < (LotD.mk j00 j01 j02 j03 j04 j05 0 0 0).cells.size; simp only [LotD.cells, PartD.cells, HoldD.cells, EntryD.cells, List.size_toArray, List.length_cons, List.length_nil]; omega))
          generalize u.setCell ⟨eb0, 5, none⟩ (.int .i64 j05) = W05 at *
          clear U L04 P04
          go_upto_region 18 with (go_at_call 63; go_must (refine (rg_int L05.out.rd P05.out).mono ?_); rintro e u ⟨rfl, hr, hg⟩; have cx : u.cell? ⟨eb0, 6, none⟩ = some (.int .i64 0) := ((L05.out.ebk.grow hg L05.out.ne).cell 6).trans rfl; have fx : u.frozen? ⟨eb0, 6, none⟩ = false := (L05.out.ebk.grow hg L05.out.ne).frz 6; have U := Lib.hid (And.intro hr hg); clear hr hg)
          clear cx fx
          obtain ⟨j06, q06, hq⟩ : ∃ i q, (q05).int = (i, q) := ⟨_, _, rfl⟩
          have P06 : Hid (OkE q06) := Lib.hid (by have := ok_int P05.out; rw [hq] at this; exact this)
          rw [hq] at EE0 U ⊢
          simp only at EE0
          clear hq
          have L06 : Hid (LS w wr0 (u.setCell ⟨eb0, 6, none⟩ (.int .i64 j06)) xb eb0 bv zs q06 72 ((LotD.mk j00 j01 j02 j03 j04 j05 j06 0 0).cells)) := Lib.hid (L05.out.put U.out.1 U.out.2 6 _ (by show 6 < (LotD.mk j00 j01 j02 j03 j04 j05 j06 0 0).cells.size; simp only [LotD.cells, PartD.cells, HoldD.cells, EntryD.cells, List.size_toArray, List.length_cons, List.length_nil]; omega))
          generalize u.setCell ⟨eb0, 6, none⟩ (.int .i64 j06) = W06 at *
          clear U L05 P05
          go_upto_region 19 with (go_at_call 63; go_must (refine (rg_int L06.out.rd P06.out).mono ?_); rintro e u ⟨rfl, hr, hg⟩; have cx : u.cell? ⟨eb0, 7, none⟩ = some (.int .i64 0) := ((L06.out.ebk.grow hg L06.out.ne).cell 7).trans rfl; have fx : u.frozen? ⟨eb0, 7, none⟩ = false := (L06.out.ebk.grow hg L06.out.ne).frz 7; have U := Lib.hid (And.intro hr hg); clear hr hg)
          clear cx fx
          obtain ⟨j07, q07, hq⟩ : ∃ i q, (q06).int = (i, q) := ⟨_, _, rfl⟩
          have P07 : Hid (OkE q07) := Lib.hid (by have := ok_int P06.out; rw [hq] at this; exact this)
          rw [hq] at EE0 U ⊢
          simp only at EE0
          clear hq
          have L07 : Hid (LS w wr0 (u.setCell ⟨eb0, 7, none⟩ (.int .i64 j07)) xb eb0 bv zs q07 72 ((LotD.mk j00 j01 j02 j03 j04 j05 j06 j07 0).cells)) := Lib.hid (L06.out.put U.out.1 U.out.2 7 _ (by show 7 < (LotD.mk j00 j01 j02 j03 j04 j05 j06 j07 0).cells.size; simp only [LotD.cells, PartD.cells, HoldD.cells, EntryD.cells, List.size_toArray, List.length_cons, List.length_nil]; omega))
          generalize u.setCell ⟨eb0, 7, none⟩ (.int .i64 j07) = W07 at *
          clear U L06 P06
          go_upto_region 20 with (go_at_call 63; go_must (refine (rg_int L07.out.rd P07.out).mono ?_); rintro e u ⟨rfl, hr, hg⟩; have cx : u.cell? ⟨eb0, 8, none⟩ = some (.int .i64 0) := ((L07.out.ebk.grow hg L07.out.ne).cell 8).trans rfl; have fx : u.frozen? ⟨eb0, 8, none⟩ = false := (L07.out.ebk.grow hg L07.out.ne).frz 8; have U := Lib.hid (And.intro hr hg); clear hr hg)
          clear cx fx
          obtain ⟨j08, q08, hq⟩ : ∃ i q, (q07).int = (i, q) := ⟨_, _, rfl⟩
          have P08 : Hid (OkE q08) := Lib.hid (by have := ok_int P07.out; rw [hq] at this; exact this)
          rw [hq] at EE0 U ⊢
          simp only at EE0
          clear hq
          have L08 : Hid (LS w wr0 (u.setCell ⟨eb0, 8, none⟩ (.int .i64 j08)) xb eb0 bv zs q08 72 ((LotD.mk j00 j01 j02 j03 j04 j05 j06 j07 j08).cells)) := Lib.hid (L07.out.put U.out.1 U.out.2 8 _ (by show 8 < (LotD.mk j00 j01 j02 j03 j04 j05 j06 j07 j08).cells.size; simp only [LotD.cells, PartD.cells, HoldD.cells, EntryD.cells, List.size_toArray, List.length_cons, List.length_nil]; omega))
          generalize u.setCell ⟨eb0, 8, none⟩ (.int .i64 j08) = W08 at *
          clear U L07 P07
          -- the append
          have EQ0 : Hid (lotRd rp0 = ((LotD.mk j00 j01 j02 j03 j04 j05 j06 j07 j08), q08)) := Lib.hid EE0.out
          rw [EQ0.out] at HS2
          have t6 : Blk W08 ab 45 ((accC (strB nm) (strB key) pl i3 i4 i5 nilS 0 0 nilS nilS).setIfInBounds 15 uv) := XR0.out.tbk.grow L08.out.g BD0.out.2.2.2.2
          have cu : W08.cell? ⟨ab, 15, none⟩ = some uv := (t6.cell 15).trans rfl
          have fu : W08.frozen? ⟨ab, 15, none⟩ = false := t6.frz 15
          have T6 := Lib.hid t6
          have htlt : ab < W08.heap.size := t6.lt
          have huw : Hid (uv.ownBlock ≠ some ab) := Lib.hid (fun e => by have := (XR0.out.own.base _ e).1; have := BD0.out.2.1; omega)
          have O6 : OwnI W08 wa0.heap.size 72 9 uv (ps0.map (fun l : LotD => l.cells.toList)) := XR0.out.own.of_block (fun k hk hlt => L08.out.g.block k hlt (fun e => by have := (XR0.out.own.base _ hk).1; have := BD0.out.1; omega))
          have hown : W08.ownsRow wa0.heap.size 72 9 uv ps0.length (ps0.map (fun l : LotD => l.cells.toList)).flatten := by have := O6.1; rwa [List.length_map] at this
          have hps : ps0.length < 255 := HLN.out
          have hsz6 : wa0.heap.size ≤ W08.heap.size := by have h1 := XR0.out.mx.size; have h2 := L08.out.g.size; omega
          have hne6 : W08.heap.size ≠ ab := by omega
          have hne7 : W08.heap.size + 1 ≠ ab := by omega
          have e0 : W08.cell? ⟨eb0, 0, none⟩ = some (.int .i64 j00) := (L08.out.cell 0).trans rfl
          have e1 : W08.cell? ⟨eb0, 1, none⟩ = some (.int .i64 j01) := (L08.out.cell 1).trans rfl
          have e2 : W08.cell? ⟨eb0, 2, none⟩ = some (.int .i64 j02) := (L08.out.cell 2).trans rfl
          have e3 : W08.cell? ⟨eb0, 3, none⟩ = some (.int .i64 j03) := (L08.out.cell 3).trans rfl
          have e4 : W08.cell? ⟨eb0, 4, none⟩ = some (.int .i64 j04) := (L08.out.cell 4).trans rfl
          have e5 : W08.cell? ⟨eb0, 5, none⟩ = some (.int .i64 j05) := (L08.out.cell 5).trans rfl
          have e6 : W08.cell? ⟨eb0, 6, none⟩ = some (.int .i64 j06) := (L08.out.cell 6).trans rfl
          have e7 : W08.cell? ⟨eb0, 7, none⟩ = some (.int .i64 j07) := (L08.out.cell 7).trans rfl
          have e8 : W08.cell? ⟨eb0, 8, none⟩ = some (.int .i64 j08) := (L08.out.cell 8).trans rfl
          clear t6 O6
          go_wp2_with (at_builtin; refine wpList_append_lies _ rfl (.tmp 74) (.tmp 76) 41 rfl wa0.heap.size 72 ti0 (.agg lotZ.cells) 9 72 Tryd.underlying41 hi0 hz00 hz01 hz02 rfl (by decide) uv ps0.length (ps0.map (fun l : LotD => l.cells.toList)).flatten rfl (hown.alloc _) ⟨W08.heap.size, 0, none⟩ 1 1 (((LotD.mk j00 j01 j02 j03 j04 j05 j06 j07 j08)).cells).toList rfl rfl (news_row _ _ _) (one_cells_mem (lot_one_cells _)) (by decide) (by unfold maxLen; omega) (by omega) (by simp; omega) (W08.heap.size + 1) (by simp) ?_)
          intro g' cap w8 hown8 hgrow hg hlt8
          have c8 : w8.cell? ⟨ab, 15, none⟩ = some uv := (World.cell?_of_block (a := ⟨ab, 15, none⟩) ((hgrow.block ab (by simp; omega) (fun e => huw.out e.symm)).trans ((below_alloc W08 _).block ab htlt))).trans cu
          have f8 : w8.frozen? ⟨ab, 15, none⟩ = false := (World.frozen?_of_block (a := ⟨ab, 15, none⟩) ((hgrow.block ab (by simp; omega) (fun e => huw.out e.symm)).trans ((below_alloc W08 _).block ab htlt))).trans fu
          have F8 := Lib.hid (XR0.out.app (wb := W08.alloc _) L08.out BD0.out.1 BD0.out.2.1 BD0.out.2.2.2.1 BD0.out.2.2.2.2 (by show 15 < (accC (strB nm) (strB key) pl i3 i4 i5 nilS 0 0 nilS nilS).size; exact (by rw [accC_size]; omega)) (by rw [List.length_map]; exact hps) rfl (below_alloc _ _) hgrow (by rw [List.length_map]; exact hown8))
          clear hown8 hgrow hg
          all_goals clear hown cu fu e0 e1 e2 e3 e4 e5 e6 e7 e8
          all_goals go_wp2
          all_goals go_roundg g
          all_goals first
            | (case measure => omega)
            | skip
          all_goals exact ⟨k + 1, by have := HKG.out; omega, by first | rfl | go_num, _, by rw [HS2.out, List.map_append]; exact F8.out⟩
        · have hb : (rp0.err == 0) = false := by simp [he]
          have HS2 : Hid (manyRd lotRd N0 r0 = (ps0, rp0)) := Lib.hid (HST.out he)
          clear he
          go_wp2
          clear hk
          go_meet
          rw [HS2.out]
          exact ⟨uv, XR0.out⟩
  case rest =>
    obtain ⟨wl0, rfl⟩ : ∃ x : World, x = wc := ⟨_, rfl⟩
    obtain ⟨uv0, hP⟩ := hcut
    have A0 : Hid (LA w wa0 wl0 xb ab bv zs 45 (accC (strB nm) (strB key) pl i3 i4 i5 nilS 0 0 nilS nilS) 15 72 9 ((manyRd lotRd N0 r0).1.map (fun l : LotD => l.cells.toList)) (manyRd lotRd N0 r0).2 uv0) := Lib.hid hP
    rw [← E0.out] at A0
    clear hP
    have O6 : Hid (OkE (lotsRd q5).2) := Lib.hid (ok_lots _ O5.out)
    have FL := Lib.hid (fill_int q5)
    rw [FL.out] at FE
    clear FL
    generalize lotsRd q5 = lr at *
    obtain ⟨ls, q6⟩ := lr
    obtain ⟨W6, rfl⟩ : ∃ x : World, x = wl0 := ⟨_, rfl⟩
    have SBL : Hid (xb < wa0.heap.size ∧ ab < wa0.heap.size ∧ sb < wa0.heap.size) := Lib.hid ⟨BD0.out.1, BD0.out.2.1, Y0.out.2.1.lt⟩
    have S6 : Hid (Rdg w W6 xb bv zs q6 ∧ Blk W6 sb 45 accZc ∧ Blk W6 ab 45 (accC (strB nm) (strB key) pl i3 i4 i5 uv0 0 0 nilS nilS)) := Lib.hid ⟨A0.out.rd, A0.out.mx.blk Y0.out.2.1 NX.out.2.1 NX.out.2.2.2.2, A0.out.tbk⟩
    have G6 : Hid (RdLots W6 uv0 ls ∧ Fr wa0.heap.size uv0 ∧ wa0.heap.size ≤ W6.heap.size) := Lib.hid ⟨OwnI.items A0.out.own, fun k hk => (A0.out.own.base k hk).1, A0.out.mx.size⟩
    clear A0 Y0 BD0 E0 OA0
    go_upto_region 22 with (go_at_call 63; go_must (refine (rg_int S6.out.1 O6.out).mono ?_); rintro e u7 ⟨rfl, hr, hg⟩; have c7 : u7.cell? ⟨ab, 16, none⟩ = some (.int .i64 0) := ((S6.out.2.2.grow hg NX.out.1).cell 16).trans rfl; have f7 : u7.frozen? ⟨ab, 16, none⟩ = false := (S6.out.2.2.grow hg NX.out.1).frz 16; have U7 := Lib.hid (And.intro hr (And.intro (S6.out.2.1.grow hg NX.out.2.1) (And.intro (S6.out.2.2.grow hg NX.out.1) ((MX.of (tb := ab) hg))))); clear hr hg)
    clear c7 f7
    obtain ⟨nx, q7, hq⟩ : ∃ i q, (q6).int = (i, q) := ⟨_, _, rfl⟩
    have O7 : Hid (OkE q7) := Lib.hid (by have := ok_int O6.out; rw [hq] at this; exact this)
    rw [hq] at FE U7 ⊢
    simp only at FE
    clear hq
    have M7 := Lib.hid (U7.out.2.2.2.trans (MX.set u7 xb ab 16 (.int .i64 nx)))
    have S7 : Hid (Rdg w (u7.setCell ⟨ab, 16, none⟩ (.int .i64 nx)) xb bv zs q7 ∧ Blk (u7.setCell ⟨ab, 16, none⟩ (.int .i64 nx)) sb 45 accZc ∧ Blk (u7.setCell ⟨ab, 16, none⟩ (.int .i64 nx)) ab 45 ((accC (strB nm) (strB key) pl i3 i4 i5 uv0 nx 0 nilS nilS))) := Lib.hid ⟨U7.out.1.set NX.out.2.2.2.1 _, U7.out.2.1.other _ NX.out.2.2.2.2, U7.out.2.2.1.set _ (by show 16 < 20; omega)⟩
    generalize u7.setCell ⟨ab, 16, none⟩ (.int .i64 nx) = W7 at *
    clear U7 S6 O6
    go_upto_region 23 with (go_at_call 63; go_must (refine (rg_int S7.out.1 O7.out).mono ?_); rintro e u8 ⟨rfl, hr, hg⟩; have c8 : u8.cell? ⟨ab, 17, none⟩ = some (.int .i64 0) := ((S7.out.2.2.grow hg NX.out.1).cell 17).trans rfl; have f8 : u8.frozen? ⟨ab, 17, none⟩ = false := (S7.out.2.2.grow hg NX.out.1).frz 17; have U8 := Lib.hid (And.intro hr (And.intro (S7.out.2.1.grow hg NX.out.2.1) (And.intro (S7.out.2.2.grow hg NX.out.1) (M7.out.trans (MX.of (tb := ab) hg))))); clear hr hg)
    clear c8 f8
    obtain ⟨ov, q8, hq⟩ : ∃ i q, (q7).int = (i, q) := ⟨_, _, rfl⟩
    have O8 : Hid (OkE q8) := Lib.hid (by have := ok_int O7.out; rw [hq] at this; exact this)
    rw [hq] at FE U8 ⊢
    simp only at FE
    clear hq
    have M8 := Lib.hid (U8.out.2.2.2.trans (MX.set u8 xb ab 17 (.int .i64 ov)))
    have S8 : Hid (Rdg w (u8.setCell ⟨ab, 17, none⟩ (.int .i64 ov)) xb bv zs q8 ∧ Blk (u8.setCell ⟨ab, 17, none⟩ (.int .i64 ov)) sb 45 accZc ∧ Blk (u8.setCell ⟨ab, 17, none⟩ (.int .i64 ov)) ab 45 ((accC (strB nm) (strB key) pl i3 i4 i5 uv0 nx ov nilS nilS))) := Lib.hid ⟨U8.out.1.set NX.out.2.2.2.1 _, U8.out.2.1.other _ NX.out.2.2.2.2, U8.out.2.2.1.set _ (by show 17 < 20; omega)⟩
    generalize u8.setCell ⟨ab, 17, none⟩ (.int .i64 ov) = W8 at *
    clear U8 S7 O7
    have G8 : Hid (RdLots W8 uv0 ls ∧ Fr wa0.heap.size uv0 ∧ wa0.heap.size ≤ W8.heap.size) := Lib.hid ⟨G6.out.1.mx M8.out G6.out.2.1 SBL.out.1 SBL.out.2.1, G6.out.2.1, Nat.le_trans G6.out.2.2 M8.out.size⟩
    clear G6 M7 M8
    go_upto_block 2 with (go_at_call 64; go_must (refine (rg_u8 S8.out.1 O8.out).mono ?_); rintro e wa1 ⟨rfl, hr, hg⟩; have Y1 := Lib.hid (And.intro hr (And.intro (S8.out.2.1.grow hg NX.out.2.1) (And.intro (S8.out.2.2.grow hg NX.out.1) (And.intro (G8.out.1.mx (MX.of (tb := ab) hg) G8.out.2.1 SBL.out.1 SBL.out.2.1) hg.size)))); clear hr hg)
    obtain ⟨N1, hN, hM1⟩ : ∃ N : Nat, (q8).one.1 = N ∧ N ≤ 255 := ⟨(q8).one.1.toNat, (reone_cast (q8)).1, (reone_cast (q8)).2⟩
    have E1 : Hid (holdsRd q8 = manyRd holdRd N1 (q8).one.2) := Lib.hid (by rw [holds_def, hN, Int.toNat_natCast])
    rw [hN]
    have OA1 : Hid (OkE (q8).one.2) := Lib.hid (ok_one O8.out)
    generalize hr : (q8).one.2 = r1 at *
    clear hN hr
    have BD1 : Hid (xb < wa1.heap.size ∧ ab < wa1.heap.size ∧ w.heap.size ≤ wa1.heap.size ∧ w.heap.size ≤ ab ∧ ab ≠ xb) := Lib.hid (by have h1 := Y1.out.1.lt; have h2 := Y1.out.1.grow.size; have h3 := Y1.out.2.2.1.lt; have h4 := NX.out.2.2.2.1; exact ⟨by omega, h3, h2, h4, NX.out.1⟩)
    go_cut [7, 8, 9, 10, 11] (fun s7 s8 s9 s10 s11 wx => ∃ uv hs, LA w wa1 wx xb ab bv zs 45 (accC (strB nm) (strB key) pl i3 i4 i5 uv0 nx ov nilS nilS) 18 75 4 (hs.map (fun h : HoldD × Value => (h.1.cells h.2).toList)) (manyRd holdRd N1 r1).2 uv ∧ HXs wx wa1.heap.size hs (manyRd holdRd N1 r1).1 uv)
    case first =>
      go_wp2_with fail
      go_loopg [7, 8, 9, 10, 11] N1 (fun g s7 s8 s9 s10 s11 wr => ∃ k : Nat, k + g = N1 ∧ s7 = .int .i64 k ∧ ∃ uv hs, LA w wa1 wr xb ab bv zs 45 (accC (strB nm) (strB key) pl i3 i4 i5 uv0 nx ov nilS nilS) 18 75 4 (hs.map (fun h : HoldD × Value => (h.1.cells h.2).toList)) (manyRd holdRd k r1).2 uv ∧ HXs wr wa1.heap.size hs (manyRd holdRd k r1).1 uv)
      case atStart => exact ⟨0, by omega, rfl, nilS, [], by rw [many_zero]; exact ⟨⟨Y1.out.1, by rw [show (accC (strB nm) (strB key) pl i3 i4 i5 uv0 nx ov nilS nilS).setIfInBounds 18 nilS = (accC (strB nm) (strB key) pl i3 i4 i5 uv0 nx ov nilS nilS) from rfl]; exact Y1.out.2.2.1, MX.refl _ _ _, OwnI.nil _ _ _ _, Nat.zero_le _⟩, HXs.nil _ _ _⟩⟩
      case round =>
        obtain ⟨k, hkg, rfl, uv, hs, hP, hX⟩ := hrel
        cases gk with
        | zero =>
          have hk : ¬ ((k : Int) < (N1 : Int)) := by omega
          have FP : Hid (LA w wa1 wr xb ab bv zs 45 (accC (strB nm) (strB key) pl i3 i4 i5 uv0 nx ov nilS nilS) 18 75 4 (hs.map (fun h : HoldD × Value => (h.1.cells h.2).toList)) (manyRd holdRd N1 r1).2 uv ∧ HXs wr wa1.heap.size hs (manyRd holdRd N1 r1).1 uv) := Lib.hid (by rw [show N1 = k by omega]; exact ⟨hP, hX⟩)
          clear hP hkg hX
          go_wp2
          clear hk
          go_meet
          exact ⟨uv, hs, FP.out⟩
        | succ g =>
          have hk : (k : Int) < (N1 : Int) := by omega
          have hk2 : (k : Int) + 1 ≤ 255 := by omega
          have HKG := Lib.hid hkg
          have HSN : Hid (manyRd holdRd (k + 1) r1 = if (manyRd holdRd k r1).2.err = 0 then ((manyRd holdRd k r1).1 ++ [(holdRd (manyRd holdRd k r1).2).1], (holdRd (manyRd holdRd k r1).2).2) else manyRd holdRd k r1) := Lib.hid (many_snoc _ _ _)
          have HST : Hid ((manyRd holdRd k r1).2.err ≠ 0 → manyRd holdRd N1 r1 = manyRd holdRd k r1) := Lib.hid (fun h => by
            have := many_stop holdRd k r1 h (g + 1)
            rwa [show k + (g + 1) = N1 by omega] at this)
          have HLN : Hid ((manyRd holdRd k r1).1.length < 255) := Lib.hid (by have := many_length holdRd k r1; omega)
          generalize manyRd holdRd k r1 = p at *
          obtain ⟨ps1, rp1⟩ := p
          obtain ⟨wr1, rfl⟩ : ∃ x : World, x = wr := ⟨_, rfl⟩
          have XR1 : Hid (LA w wa1 wr1 xb ab bv zs 45 (accC (strB nm) (strB key) pl i3 i4 i5 uv0 nx ov nilS nilS) 18 75 4 (hs.map (fun h : HoldD × Value => (h.1.cells h.2).toList)) rp1 uv) := Lib.hid hP
          have c2 : wr1.cell? ⟨xb, 2, none⟩ = some (.int .i64 rp1.err) := hP.rd.rd.c2
          have HX1 : Hid (HXs wr1 wa1.heap.size hs ps1 uv) := Lib.hid hX
          have HLX : Hid (hs.length = ps1.length) := Lib.hid (by have h := congrArg List.length hX.1; simpa using h)
          clear hP hkg hX
          by_cases he : rp1.err = 0
          · have hb : (rp1.err == 0) = true := by rw [he]; rfl
            have HS2 : Hid (manyRd holdRd (k + 1) r1 = (ps1 ++ [(holdRd rp1).1], (holdRd rp1).2)) := Lib.hid (by have := HSN.out; simp only at this; rw [if_pos he] at this; exact this)
            have OR1 : Hid (OkE rp1) := Lib.hid (.inl he)
            have BR1 : Hid (xb < wr1.heap.size ∧ w.heap.size ≤ wr1.heap.size) := Lib.hid (by have h1 := XR1.out.rd.lt; have h2 := XR1.out.rd.grow.size; exact ⟨by omega, h2⟩)
            have EE1 := Lib.hid (hold_int rp1)
            clear he HSN HST
            go_upto_region 27 with (fail)
            clear hb hk c2
            go_upto_region 28 with (go_at_call 63; go_must (refine (rg_int XR1.out.rd OR1.out).mono ?_); rintro e u ⟨rfl, hr, hg⟩; have U := Lib.hid (And.intro hr hg); clear hr hg)
            obtain ⟨j10, q10, hq⟩ : ∃ i q, (rp1).int = (i, q) := ⟨_, _, rfl⟩
            have P10 : Hid (OkE q10) := Lib.hid (by have := ok_int OR1.out; rw [hq] at this; exact this)
            rw [hq] at EE1 U ⊢
            simp only at EE1
            clear hq
            change Code.wp _ _ _ _ (u.alloc (.cells (((HoldD.mk j10 [] 0 0).cells nilS)) 75))
            have L10 : Hid (LS w wr1 (u.alloc (.cells (((HoldD.mk j10 [] 0 0).cells nilS)) 75)) xb u.heap.size bv zs q10 75 (((HoldD.mk j10 [] 0 0).cells nilS))) := Lib.hid (LS.new _ _ U.out.1 U.out.2 BR1.out.1 BR1.out.2)
            generalize u.alloc (.cells (((HoldD.mk j10 [] 0 0).cells nilS)) 75) = W10 at *
            generalize u.heap.size = eb1 at *
            clear U OR1
            have FX : Hid True := Lib.hid trivial
            go_upto_block 4 with (go_at_call 64; go_must (refine (rg_u8 L10.out.rd P10.out).mono ?_); rintro e wa3 ⟨rfl, hr, hg⟩; have Y3 := Lib.hid (And.intro hr (And.intro (L10.out.ebk.grow hg L10.out.ne) hg)); clear hr hg)
            obtain ⟨N3, hN, hM3⟩ : ∃ N : Nat, (q10).one.1 = N ∧ N ≤ 255 := ⟨(q10).one.1.toNat, (reone_cast (q10)).1, (reone_cast (q10)).2⟩
            have E3 : Hid (manyRd partRd q10.one.1.toNat q10.one.2 = manyRd partRd N3 (q10).one.2) := Lib.hid (by rw [hN, Int.toNat_natCast])
            rw [hN]
            have OA3 : Hid (OkE (q10).one.2) := Lib.hid (ok_one P10.out)
            generalize hr : (q10).one.2 = r3 at *
            clear hN hr
            have BD3 : Hid (xb < wa3.heap.size ∧ eb1 < wa3.heap.size ∧ w.heap.size ≤ wa3.heap.size ∧ w.heap.size ≤ eb1 ∧ eb1 ≠ xb) := Lib.hid (by have h1 := Y3.out.1.lt; have h2 := Y3.out.1.grow.size; have h3 := Y3.out.2.1.lt; have h4 := Nat.le_trans L10.out.le L10.out.lo; exact ⟨by omega, h3, h2, h4, L10.out.ne⟩)
            go_cut [10, 11] (fun s10 s11 wx => ∃ uv, LA w wa3 wx xb eb1 bv zs 75 ((HoldD.mk j10 [] 0 0).cells nilS) 1 86 2 ((manyRd partRd N3 r3).1.map (fun l : PartD => l.cells.toList)) (manyRd partRd N3 r3).2 uv)
            case first =>
              go_wp2_with fail
              go_loopg [10, 11] N3 (fun g s10 s11 wr => ∃ k : Nat, k + g = N3 ∧ s10 = .int .i64 k ∧ ∃ uv, LA w wa3 wr xb eb1 bv zs 75 ((HoldD.mk j10 [] 0 0).cells nilS) 1 86 2 ((manyRd partRd k r3).1.map (fun l : PartD => l.cells.toList)) (manyRd partRd k r3).2 uv)
              case atStart => exact ⟨0, by omega, rfl, nilS, by rw [many_zero]; exact ⟨Y3.out.1, by rw [show ((HoldD.mk j10 [] 0 0).cells nilS).setIfInBounds 1 nilS = ((HoldD.mk j10 [] 0 0).cells nilS) from rfl]; exact Y3.out.2.1, MX.refl _ _ _, OwnI.nil _ _ _ _, Nat.zero_le _⟩⟩
              case round =>
                obtain ⟨k, hkg, rfl, uv, hP⟩ := hrel
                cases gk with
                | zero =>
                  have hk : ¬ ((k : Int) < (N3 : Int)) := by omega
                  have FP : Hid (LA w wa3 wr xb eb1 bv zs 75 ((HoldD.mk j10 [] 0 0).cells nilS) 1 86 2 ((manyRd partRd N3 r3).1.map (fun l : PartD => l.cells.toList)) (manyRd partRd N3 r3).2 uv) := Lib.hid (by rw [show N3 = k by omega]; exact hP)
                  clear hP hkg
                  go_wp2
                  clear hk
                  go_meet
                  exact ⟨uv, FP.out⟩
                | succ g =>
                  have hk : (k : Int) < (N3 : Int) := by omega
                  have hk2 : (k : Int) + 1 ≤ 255 := by omega
                  have HKG := Lib.hid hkg
                  have HSN : Hid (manyRd partRd (k + 1) r3 = if (manyRd partRd k r3).2.err = 0 then ((manyRd partRd k r3).1 ++ [(partRd (manyRd partRd k r3).2).1], (partRd (manyRd partRd k r3).2).2) else manyRd partRd k r3) := Lib.hid (many_snoc _ _ _)
                  have HST : Hid ((manyRd partRd k r3).2.err ≠ 0 → manyRd partRd N3 r3 = manyRd partRd k r3) := Lib.hid (fun h => by
                    have := many_stop partRd k r3 h (g + 1)
                    rwa [show k + (g + 1) = N3 by omega] at this)
                  have HLN : Hid ((manyRd partRd k r3).1.length < 255) := Lib.hid (by have := many_length partRd k r3; omega)
                  generalize manyRd partRd k r3 = p at *
                  obtain ⟨ps3, rp3⟩ := p
                  obtain ⟨wr3, rfl⟩ : ∃ x : World, x = wr := ⟨_, rfl⟩
                  have XR3 : Hid (LA w wa3 wr3 xb eb1 bv zs 75 ((HoldD.mk j10 [] 0 0).cells nilS) 1 86 2 (ps3.map (fun l : PartD => l.cells.toList)) rp3 uv) := Lib.hid hP
                  have c2 : wr3.cell? ⟨xb, 2, none⟩ = some (.int .i64 rp3.err) := hP.rd.rd.c2
                  skip
                  clear hP hkg
                  by_cases he : rp3.err = 0
                  · have hb : (rp3.err == 0) = true := by rw [he]; rfl
                    have HS2 : Hid (manyRd partRd (k + 1) r3 = (ps3 ++ [(partRd rp3).1], (partRd rp3).2)) := Lib.hid (by have := HSN.out; simp only at this; rw [if_pos he] at this; exact this)
                    have OR3 : Hid (OkE rp3) := Lib.hid (.inl he)
                    have BR3 : Hid (xb < wr3.heap.size ∧ w.heap.size ≤ wr3.heap.size) := Lib.hid (by have h1 := XR3.out.rd.lt; have h2 := XR3.out.rd.grow.size; exact ⟨by omega, h2⟩)
                    have EE3 := Lib.hid (part_eq rp3)
                    clear he HSN HST
                    go_upto_region 32 with (fail)
                    clear hb hk c2
                    go_upto_region 33 with (go_at_call 63; go_must (refine (rg_int XR3.out.rd OR3.out).mono ?_); rintro e u ⟨rfl, hr, hg⟩; have U := Lib.hid (And.intro hr hg); clear hr hg)
                    obtain ⟨j30, q30, hq⟩ : ∃ i q, (rp3).int = (i, q) := ⟨_, _, rfl⟩
                    have P30 : Hid (OkE q30) := Lib.hid (by have := ok_int OR3.out; rw [hq] at this; exact this)
                    rw [hq] at EE3 U ⊢
                    simp only at EE3
                    clear hq
                    change Code.wp _ _ _ _ (u.alloc (.cells ((PartD.mk j30 0).cells) 86))
                    have L30 : Hid (LS w wr3 (u.alloc (.cells ((PartD.mk j30 0).cells) 86)) xb u.heap.size bv zs q30 86 ((PartD.mk j30 0).cells)) := Lib.hid (LS.new _ _ U.out.1 U.out.2 BR3.out.1 BR3.out.2)
                    generalize u.alloc (.cells ((PartD.mk j30 0).cells) 86) = W30 at *
                    generalize u.heap.size = eb3 at *
                    clear U OR3
                    go_upto_region 34 with (go_at_call 63; go_must (refine (rg_int L30.out.rd P30.out).mono ?_); rintro e u ⟨rfl, hr, hg⟩; have cx : u.cell? ⟨eb3, 1, none⟩ = some (.int .i64 0) := ((L30.out.ebk.grow hg L30.out.ne).cell 1).trans rfl; have fx : u.frozen? ⟨eb3, 1, none⟩ = false := (L30.out.ebk.grow hg L30.out.ne).frz 1; have U := Lib.hid (And.intro hr hg); clear hr hg)
                    clear cx fx
                    obtain ⟨j31, q31, hq⟩ : ∃ i q, (q30).int = (i, q) := ⟨_, _, rfl⟩
                    have P31 : Hid (OkE q31) := Lib.hid (by have := ok_int P30.out; rw [hq] at this; exact this)
                    rw [hq] at EE3 U ⊢
                    simp only at EE3
                    clear hq
                    have L31 : Hid (LS w wr3 (u.setCell ⟨eb3, 1, none⟩ (.int .i64 j31)) xb eb3 bv zs q31 86 ((PartD.mk j30 j31).cells)) := Lib.hid (L30.out.put U.out.1 U.out.2 1 _ (by show 1 < (PartD.mk j30 j31).cells.size; simp only [LotD.cells, PartD.cells, HoldD.cells, EntryD.cells, List.size_toArray, List.length_cons, List.length_nil]; omega))
                    generalize u.setCell ⟨eb3, 1, none⟩ (.int .i64 j31) = W31 at *
                    clear U L30 P30
                    -- the append
                    have EQ3 : Hid (partRd rp3 = ((PartD.mk j30 j31), q31)) := Lib.hid EE3.out
                    rw [EQ3.out] at HS2
                    have t6 : Blk W31 eb1 75 (((HoldD.mk j10 [] 0 0).cells nilS).setIfInBounds 1 uv) := XR3.out.tbk.grow L31.out.g BD3.out.2.2.2.2
                    have cu : W31.cell? ⟨eb1, 1, none⟩ = some uv := (t6.cell 1).trans rfl
                    have fu : W31.frozen? ⟨eb1, 1, none⟩ = false := t6.frz 1
                    have T6 := Lib.hid t6
                    have htlt : eb1 < W31.heap.size := t6.lt
                    have huw : Hid (uv.ownBlock ≠ some eb1) := Lib.hid (fun e => by have := (XR3.out.own.base _ e).1; have := BD3.out.2.1; omega)
                    have O6 : OwnI W31 wa3.heap.size 86 2 uv (ps3.map (fun l : PartD => l.cells.toList)) := XR3.out.own.of_block (fun k hk hlt => L31.out.g.block k hlt (fun e => by have := (XR3.out.own.base _ hk).1; have := BD3.out.1; omega))
                    have hown : W31.ownsRow wa3.heap.size 86 2 uv ps3.length (ps3.map (fun l : PartD => l.cells.toList)).flatten := by have := O6.1; rwa [List.length_map] at this
                    have hps : ps3.length < 255 := HLN.out
                    have hsz6 : wa3.heap.size ≤ W31.heap.size := by have h1 := XR3.out.mx.size; have h2 := L31.out.g.size; omega
                    have hne6 : W31.heap.size ≠ eb1 := by omega
                    have hne7 : W31.heap.size + 1 ≠ eb1 := by omega
                    have e0 : W31.cell? ⟨eb3, 0, none⟩ = some (.int .i64 j30) := (L31.out.cell 0).trans rfl
                    have e1 : W31.cell? ⟨eb3, 1, none⟩ = some (.int .i64 j31) := (L31.out.cell 1).trans rfl
                    clear t6 O6
                    go_wp2_with (at_builtin; refine wpList_append_lies _ rfl (.tmp 123) (.tmp 125) 73 rfl wa3.heap.size 86 ti3 (.agg #[.int .i64 0, .int .i64 0]) 2 16 Tryd.underlying73 hi3 hz30 hz31 hz32 rfl (by decide) uv ps3.length (ps3.map (fun l : PartD => l.cells.toList)).flatten rfl (hown.alloc _) ⟨W31.heap.size, 0, none⟩ 1 1 (((PartD.mk j30 j31)).cells).toList rfl rfl (news_row _ _ _) (one_cells_mem (part_one_cells _)) (by decide) (by unfold maxLen; omega) (by omega) (by simp; omega) (W31.heap.size + 1) (by simp) ?_)
                    intro g' cap w8 hown8 hgrow hg hlt8
                    have c8 : w8.cell? ⟨eb1, 1, none⟩ = some uv := (World.cell?_of_block (a := ⟨eb1, 1, none⟩) ((hgrow.block eb1 (by simp; omega) (fun e => huw.out e.symm)).trans ((below_alloc W31 _).block eb1 htlt))).trans cu
                    have f8 : w8.frozen? ⟨eb1, 1, none⟩ = false := (World.frozen?_of_block (a := ⟨eb1, 1, none⟩) ((hgrow.block eb1 (by simp; omega) (fun e => huw.out e.symm)).trans ((below_alloc W31 _).block eb1 htlt))).trans fu
                    have F8 := Lib.hid (XR3.out.app (wb := W31.alloc _) L31.out BD3.out.1 BD3.out.2.1 BD3.out.2.2.2.1 BD3.out.2.2.2.2 (by show 1 < ((HoldD.mk j10 [] 0 0).cells nilS).size; exact (by show 1 < 4; omega)) (by rw [List.length_map]; exact hps) rfl (below_alloc _ _) hgrow (by rw [List.length_map]; exact hown8))
                    clear hown8 hgrow hg
                    all_goals clear hown cu fu e0 e1
                    all_goals go_wp2
                    all_goals go_roundg g
                    all_goals first
                      | (case measure => omega)
                      | skip
                    all_goals exact ⟨k + 1, by have := HKG.out; omega, by first | rfl | go_num, _, by rw [HS2.out, List.map_append]; exact F8.out⟩
                  · have hb : (rp3.err == 0) = false := by simp [he]
                    have HS2 : Hid (manyRd partRd N3 r3 = (ps3, rp3)) := Lib.hid (HST.out he)
                    clear he
                    go_wp2
                    clear hk
                    go_meet
                    rw [HS2.out]
                    exact ⟨uv, XR3.out⟩
            case rest =>
              obtain ⟨wl3, rfl⟩ : ∃ x : World, x = wc := ⟨_, rfl⟩
              obtain ⟨uv3, hP⟩ := hcut
              have A3 : Hid (LA w wa3 wl3 xb eb1 bv zs 75 ((HoldD.mk j10 [] 0 0).cells nilS) 1 86 2 ((manyRd partRd N3 r3).1.map (fun l : PartD => l.cells.toList)) (manyRd partRd N3 r3).2 uv3) := Lib.hid hP
              rw [← E3.out] at A3
              clear hP
              have L11 : Hid (LS w wr1 wl3 xb eb1 bv zs (manyRd partRd q10.one.1.toNat r3).2 75 ((HoldD.mk j10 [] 0 0).cells uv3)) := Lib.hid (LS.of_la L10.out Y3.out.2.2 XR1.out.rd A3.out)
              have P11 : Hid (OkE (manyRd partRd q10.one.1.toNat r3).2) := Lib.hid (ok_many _ ok_part _ _ OA3.out)
              have V11 : Hid (RdParts wl3 uv3 (manyRd partRd q10.one.1.toNat r3).1 ∧ Fr wa3.heap.size uv3 ∧ wr1.heap.size ≤ wa3.heap.size ∧ eb1 < wa3.heap.size ∧ xb < wa3.heap.size) := Lib.hid ⟨OwnI.items A3.out.own, fun k hk => (A3.out.own.base k hk).1, (L10.out.g.trans Y3.out.2.2).size, BD3.out.2.1, BD3.out.1⟩
              clear L10 Y3 A3 P10 BD3 E3 OA3
              generalize manyRd partRd q10.one.1.toNat r3 = prt at *
              obtain ⟨pps, q11⟩ := prt
              simp only at EE1 L11 P11 V11
              go_upto_region 36 with (go_at_call 63; go_must (refine (rg_int L11.out.rd P11.out).mono ?_); rintro e u ⟨rfl, hr, hg⟩; have cx : u.cell? ⟨eb1, 2, none⟩ = some (.int .i64 0) := ((L11.out.ebk.grow hg L11.out.ne).cell 2).trans rfl; have fx : u.frozen? ⟨eb1, 2, none⟩ = false := (L11.out.ebk.grow hg L11.out.ne).frz 2; have U := Lib.hid (And.intro hr hg); have VU := V11.out.1.mx (MX.of (tb := eb1) hg) V11.out.2.1 V11.out.2.2.2.2 V11.out.2.2.2.1; clear hr hg)
              clear cx fx
              obtain ⟨j12, q12, hq⟩ : ∃ i q, (q11).int = (i, q) := ⟨_, _, rfl⟩
              have P12 : Hid (OkE q12) := Lib.hid (by have := ok_int P11.out; rw [hq] at this; exact this)
              rw [hq] at EE1 U ⊢
              simp only at EE1
              clear hq
              have L12 : Hid (LS w wr1 (u.setCell ⟨eb1, 2, none⟩ (.int .i64 j12)) xb eb1 bv zs q12 75 (((HoldD.mk j10 [] j12 0).cells uv3))) := Lib.hid (L11.out.put U.out.1 U.out.2 2 _ (by show 2 < ((HoldD.mk j10 [] j12 0).cells uv3).size; simp only [LotD.cells, PartD.cells, HoldD.cells, EntryD.cells, List.size_toArray, List.length_cons, List.length_nil]; omega))
              have V12 : Hid (RdParts (u.setCell ⟨eb1, 2, none⟩ (.int .i64 j12)) uv3 pps ∧ Fr wa3.heap.size uv3 ∧ wr1.heap.size ≤ wa3.heap.size ∧ eb1 < wa3.heap.size ∧ xb < wa3.heap.size) := Lib.hid ⟨VU.mx (MX.set u xb eb1 2 _) V11.out.2.1 V11.out.2.2.2.2 V11.out.2.2.2.1, V11.out.2⟩
              clear VU V11
              generalize u.setCell ⟨eb1, 2, none⟩ (.int .i64 j12) = W12 at *
              clear U L11 P11
              go_upto_region 37 with (go_at_call 63; go_must (refine (rg_int L12.out.rd P12.out).mono ?_); rintro e u ⟨rfl, hr, hg⟩; have cx : u.cell? ⟨eb1, 3, none⟩ = some (.int .i64 0) := ((L12.out.ebk.grow hg L12.out.ne).cell 3).trans rfl; have fx : u.frozen? ⟨eb1, 3, none⟩ = false := (L12.out.ebk.grow hg L12.out.ne).frz 3; have U := Lib.hid (And.intro hr hg); have VU := V12.out.1.mx (MX.of (tb := eb1) hg) V12.out.2.1 V12.out.2.2.2.2 V12.out.2.2.2.1; clear hr hg)
              clear cx fx
              obtain ⟨j13, q13, hq⟩ : ∃ i q, (q12).int = (i, q) := ⟨_, _, rfl⟩
              have P13 : Hid (OkE q13) := Lib.hid (by have := ok_int P12.out; rw [hq] at this; exact this)
              rw [hq] at EE1 U ⊢
              simp only at EE1
              clear hq
              have L13 : Hid (LS w wr1 (u.setCell ⟨eb1, 3, none⟩ (.int .i64 j13)) xb eb1 bv zs q13 75 (((HoldD.mk j10 [] j12 j13).cells uv3))) := Lib.hid (L12.out.put U.out.1 U.out.2 3 _ (by show 3 < ((HoldD.mk j10 [] j12 j13).cells uv3).size; simp only [LotD.cells, PartD.cells, HoldD.cells, EntryD.cells, List.size_toArray, List.length_cons, List.length_nil]; omega))
              have V13 : Hid (RdParts (u.setCell ⟨eb1, 3, none⟩ (.int .i64 j13)) uv3 pps ∧ Fr wa3.heap.size uv3 ∧ wr1.heap.size ≤ wa3.heap.size ∧ eb1 < wa3.heap.size ∧ xb < wa3.heap.size) := Lib.hid ⟨VU.mx (MX.set u xb eb1 3 _) V12.out.2.1 V12.out.2.2.2.2 V12.out.2.2.2.1, V12.out.2⟩
              clear VU V12
              generalize u.setCell ⟨eb1, 3, none⟩ (.int .i64 j13) = W13 at *
              clear U L12 P12
              -- the append
              have EQ1 : Hid (holdRd rp1 = ((HoldD.mk j10 pps j12 j13), q13)) := Lib.hid EE1.out
              rw [EQ1.out] at HS2
              have t6 : Blk W13 ab 45 ((accC (strB nm) (strB key) pl i3 i4 i5 uv0 nx ov nilS nilS).setIfInBounds 18 uv) := XR1.out.tbk.grow L13.out.g BD1.out.2.2.2.2
              have cu : W13.cell? ⟨ab, 18, none⟩ = some uv := (t6.cell 18).trans rfl
              have fu : W13.frozen? ⟨ab, 18, none⟩ = false := t6.frz 18
              have T6 := Lib.hid t6
              have htlt : ab < W13.heap.size := t6.lt
              have huw : Hid (uv.ownBlock ≠ some ab) := Lib.hid (fun e => by have := (XR1.out.own.base _ e).1; have := BD1.out.2.1; omega)
              have O6 : OwnI W13 wa1.heap.size 75 4 uv (hs.map (fun h : HoldD × Value => (h.1.cells h.2).toList)) := XR1.out.own.of_block (fun k hk hlt => L13.out.g.block k hlt (fun e => by have := (XR1.out.own.base _ hk).1; have := BD1.out.1; omega))
              have hown : W13.ownsRow wa1.heap.size 75 4 uv hs.length (hs.map (fun h : HoldD × Value => (h.1.cells h.2).toList)).flatten := by have := O6.1; rwa [List.length_map] at this
              have hps : hs.length < 255 := by have := HLN.out; have := HLX.out; omega
              have hsz6 : wa1.heap.size ≤ W13.heap.size := by have h1 := XR1.out.mx.size; have h2 := L13.out.g.size; omega
              have hne6 : W13.heap.size ≠ ab := by omega
              have hne7 : W13.heap.size + 1 ≠ ab := by omega
              have HPV : Hid (uv3.oneCell' = true) := Lib.hid (items_one V13.out.1)
              have PV1 : Hid (RdParts W13 uv3 (HoldD.mk j10 pps j12 j13).parts ∧ Fr wr1.heap.size uv3) := Lib.hid ⟨V13.out.1, V13.out.2.1.lower V13.out.2.2.1⟩
              have e0 : W13.cell? ⟨eb1, 0, none⟩ = some (.int .i64 j10) := (L13.out.cell 0).trans rfl
              have e1 : W13.cell? ⟨eb1, 1, none⟩ = some uv3 := (L13.out.cell 1).trans rfl
              have e2 : W13.cell? ⟨eb1, 2, none⟩ = some (.int .i64 j12) := (L13.out.cell 2).trans rfl
              have e3 : W13.cell? ⟨eb1, 3, none⟩ = some (.int .i64 j13) := (L13.out.cell 3).trans rfl
              clear t6 O6
              go_wp2_with (at_builtin; refine wpList_append_lies _ rfl (.tmp 135) (.tmp 137) 42 rfl wa1.heap.size 75 ti1 (.agg (holdZ.cells (.slice none 0 0))) 4 48 Tryd.underlying42 hi1 hz10 hz11 hz12 rfl (by decide) uv hs.length (hs.map (fun h : HoldD × Value => (h.1.cells h.2).toList)).flatten rfl (hown.alloc _) ⟨W13.heap.size, 0, none⟩ 1 1 ((HoldD.mk j10 pps j12 j13).cells uv3).toList rfl rfl (news_row _ _ _) (one_cells_mem (hold_one_cells_v _ _ HPV.out)) (by decide) (by unfold maxLen; omega) (by omega) (by simp; omega) (W13.heap.size + 1) (by simp) ?_)
              intro g' cap w8 hown8 hgrow hg hlt8
              have c8 : w8.cell? ⟨ab, 18, none⟩ = some uv := (World.cell?_of_block (a := ⟨ab, 18, none⟩) ((hgrow.block ab (by simp; omega) (fun e => huw.out e.symm)).trans ((below_alloc W13 _).block ab htlt))).trans cu
              have f8 : w8.frozen? ⟨ab, 18, none⟩ = false := (World.frozen?_of_block (a := ⟨ab, 18, none⟩) ((hgrow.block ab (by simp; omega) (fun e => huw.out e.symm)).trans ((below_alloc W13 _).block ab htlt))).trans fu
              have F8 := Lib.hid (XR1.out.app (wb := W13.alloc _) L13.out BD1.out.1 BD1.out.2.1 BD1.out.2.2.2.1 BD1.out.2.2.2.2 (by show 18 < (accC (strB nm) (strB key) pl i3 i4 i5 uv0 nx ov nilS nilS).size; exact (by rw [accC_size]; omega)) (by rw [List.length_map]; exact hps) rfl (below_alloc _ _) hgrow (by rw [List.length_map]; exact hown8))
              have F9 := Lib.hid (HXs.app (pd := (HoldD.mk j10 pps j12 j13)) (n := hs.length + 1) (cap := cap) (ci := 18) (v := .slice (some ⟨g', 0, none⟩) (hs.length + 1) cap) HX1.out BD1.out.1 BD1.out.2.1 XR1.out.mx.size (fun k hk => (XR1.out.own.base k hk).2) L13.out.g PV1.out.1 PV1.out.2 hgrow hg)
              clear hown8 hgrow hg
              all_goals clear hown cu fu e0 e1 e2 e3
              all_goals go_wp2
              all_goals go_roundg g
              all_goals first
                | (case measure => omega)
                | skip
              all_goals exact ⟨k + 1, by have := HKG.out; omega, by first | rfl | go_num, _, _, by rw [HS2.out]; exact ⟨by rw [List.map_append]; exact F8.out, F9.out⟩⟩
          · have hb : (rp1.err == 0) = false := by simp [he]
            have HS2 : Hid (manyRd holdRd N1 r1 = (ps1, rp1)) := Lib.hid (HST.out he)
            clear he
            go_wp2
            clear hk
            go_meet
            rw [HS2.out]
            exact ⟨uv, hs, XR1.out, HX1.out⟩
    case rest =>
      obtain ⟨wl1, rfl⟩ : ∃ x : World, x = wc := ⟨_, rfl⟩
      obtain ⟨uv1, hs1, hP, hX⟩ := hcut
      have A1 : Hid (LA w wa1 wl1 xb ab bv zs 45 (accC (strB nm) (strB key) pl i3 i4 i5 uv0 nx ov nilS nilS) 18 75 4 (hs1.map (fun h : HoldD × Value => (h.1.cells h.2).toList)) (manyRd holdRd N1 r1).2 uv1 ∧ HXs wl1 wa1.heap.size hs1 (manyRd holdRd N1 r1).1 uv1) := Lib.hid ⟨hP, hX⟩
      rw [← E1.out] at A1
      clear hP hX
      have O9 : Hid (OkE (holdsRd q8).2) := Lib.hid (ok_holds _ O8.out)
      generalize holdsRd q8 = hr0 at *
      obtain ⟨hl0, q9⟩ := hr0
      obtain ⟨W9, rfl⟩ : ∃ x : World, x = wl1 := ⟨_, rfl⟩
      have S9 : Hid (Rdg w W9 xb bv zs q9 ∧ Blk W9 sb 45 accZc ∧ Blk W9 ab 45 (accC (strB nm) (strB key) pl i3 i4 i5 uv0 nx ov uv1 nilS)) := Lib.hid ⟨A1.out.1.rd, A1.out.1.mx.blk Y1.out.2.1 NX.out.2.1 NX.out.2.2.2.2, A1.out.1.tbk⟩
      have G9 : Hid (RdLots W9 uv0 ls ∧ Fr wa0.heap.size uv0 ∧ RdHolds W9 uv1 hs1 ∧ hs1.map (·.1) = hl0 ∧ Fr wa0.heap.size uv1 ∧ (∀ h ∈ hs1, Fr wa0.heap.size h.2) ∧ wa0.heap.size ≤ W9.heap.size) := Lib.hid (by
        have hb : wa0.heap.size ≤ wa1.heap.size := Nat.le_trans G8.out.2.2 Y1.out.2.2.2.2
        exact ⟨Y1.out.2.2.2.1.mx A1.out.1.mx G8.out.2.1 SBL.out.1 SBL.out.2.1, G8.out.2.1, ⟨OwnI.items A1.out.1.own, fun x hx => (A1.out.2.2 x hx).1⟩, A1.out.2.1, fun k hk => Nat.le_trans hb (A1.out.1.own.base k hk).1, fun x hx => (A1.out.2.2 x hx).2.1.lower hb, Nat.le_trans hb A1.out.1.mx.size⟩)
      clear A1 Y1 BD1 E1 OA1 G8 S8 O8
      go_upto_block 6 with (go_at_call 64; go_must (refine (rg_u8 S9.out.1 O9.out).mono ?_); rintro e wa2 ⟨rfl, hr, hg⟩; have Y2 := Lib.hid (And.intro hr (And.intro (S9.out.2.1.grow hg NX.out.2.1) (And.intro (S9.out.2.2.grow hg NX.out.1) (And.intro (G9.out.1.mx (MX.of (tb := ab) hg) G9.out.2.1 SBL.out.1 SBL.out.2.1) (And.intro (holds_mx G9.out.2.2.1 (MX.of (tb := ab) hg) G9.out.2.2.2.2.1 G9.out.2.2.2.2.2.1 SBL.out.1 SBL.out.2.1) hg.size))))); clear hr hg)
      obtain ⟨N2, hN, hM2⟩ : ∃ N : Nat, (q9).one.1 = N ∧ N ≤ 255 := ⟨(q9).one.1.toNat, (reone_cast (q9)).1, (reone_cast (q9)).2⟩
      have E2 : Hid (winRd q9 = manyRd entryRd N2 (q9).one.2) := Lib.hid (by rw [win_def, hN, Int.toNat_natCast])
      rw [hN]
      have OA2 : Hid (OkE (q9).one.2) := Lib.hid (ok_one O9.out)
      generalize hr : (q9).one.2 = r2 at *
      clear hN hr
      have BD2 : Hid (xb < wa2.heap.size ∧ ab < wa2.heap.size ∧ w.heap.size ≤ wa2.heap.size ∧ w.heap.size ≤ ab ∧ ab ≠ xb) := Lib.hid (by have h1 := Y2.out.1.lt; have h2 := Y2.out.1.grow.size; have h3 := Y2.out.2.2.1.lt; have h4 := NX.out.2.2.2.1; exact ⟨by omega, h3, h2, h4, NX.out.1⟩)
      go_cut [12, 13] (fun s12 s13 wx => ∃ uv, LA w wa2 wx xb ab bv zs 45 (accC (strB nm) (strB key) pl i3 i4 i5 uv0 nx ov uv1 nilS) 19 77 14 ((manyRd entryRd N2 r2).1.map (fun l : EntryD => l.cells.toList)) (manyRd entryRd N2 r2).2 uv)
      case first =>
        go_wp2_with fail
        go_loopg [12, 13] N2 (fun g s12 s13 wr => ∃ k : Nat, k + g = N2 ∧ s12 = .int .i64 k ∧ ∃ uv, LA w wa2 wr xb ab bv zs 45 (accC (strB nm) (strB key) pl i3 i4 i5 uv0 nx ov uv1 nilS) 19 77 14 ((manyRd entryRd k r2).1.map (fun l : EntryD => l.cells.toList)) (manyRd entryRd k r2).2 uv)
        case atStart => exact ⟨0, by omega, rfl, nilS, by rw [many_zero]; exact ⟨Y2.out.1, by rw [show (accC (strB nm) (strB key) pl i3 i4 i5 uv0 nx ov uv1 nilS).setIfInBounds 19 nilS = (accC (strB nm) (strB key) pl i3 i4 i5 uv0 nx ov uv1 nilS) from rfl]; exact Y2.out.2.2.1, MX.refl _ _ _, OwnI.nil _ _ _ _, Nat.zero_le _⟩⟩
        case round =>
          obtain ⟨k, hkg, rfl, uv, hP⟩ := hrel
          cases gk with
          | zero =>
            have hk : ¬ ((k : Int) < (N2 : Int)) := by omega
            have FP : Hid (LA w wa2 wr xb ab bv zs 45 (accC (strB nm) (strB key) pl i3 i4 i5 uv0 nx ov uv1 nilS) 19 77 14 ((manyRd entryRd N2 r2).1.map (fun l : EntryD => l.cells.toList)) (manyRd entryRd N2 r2).2 uv) := Lib.hid (by rw [show N2 = k by omega]; exact hP)
            clear hP hkg
            go_wp2
            clear hk
            go_meet
            exact ⟨uv, FP.out⟩
          | succ g =>
            have hk : (k : Int) < (N2 : Int) := by omega
            have hk2 : (k : Int) + 1 ≤ 255 := by omega
            have HKG := Lib.hid hkg
            have HSN : Hid (manyRd entryRd (k + 1) r2 = if (manyRd entryRd k r2).2.err = 0 then ((manyRd entryRd k r2).1 ++ [(entryRd (manyRd entryRd k r2).2).1], (entryRd (manyRd entryRd k r2).2).2) else manyRd entryRd k r2) := Lib.hid (many_snoc _ _ _)
            have HST : Hid ((manyRd entryRd k r2).2.err ≠ 0 → manyRd entryRd N2 r2 = manyRd entryRd k r2) := Lib.hid (fun h => by
              have := many_stop entryRd k r2 h (g + 1)
              rwa [show k + (g + 1) = N2 by omega] at this)
            have HLN : Hid ((manyRd entryRd k r2).1.length < 255) := Lib.hid (by have := many_length entryRd k r2; omega)
            generalize manyRd entryRd k r2 = p at *
            obtain ⟨ps2, rp2⟩ := p
            obtain ⟨wr2, rfl⟩ : ∃ x : World, x = wr := ⟨_, rfl⟩
            have XR2 : Hid (LA w wa2 wr2 xb ab bv zs 45 (accC (strB nm) (strB key) pl i3 i4 i5 uv0 nx ov uv1 nilS) 19 77 14 (ps2.map (fun l : EntryD => l.cells.toList)) rp2 uv) := Lib.hid hP
            have c2 : wr2.cell? ⟨xb, 2, none⟩ = some (.int .i64 rp2.err) := hP.rd.rd.c2
            skip
            clear hP hkg
            by_cases he : rp2.err = 0
            · have hb : (rp2.err == 0) = true := by rw [he]; rfl
              have HS2 : Hid (manyRd entryRd (k + 1) r2 = (ps2 ++ [(entryRd rp2).1], (entryRd rp2).2)) := Lib.hid (by have := HSN.out; simp only at this; rw [if_pos he] at this; exact this)
              have OR2 : Hid (OkE rp2) := Lib.hid (.inl he)
              have BR2 : Hid (xb < wr2.heap.size ∧ w.heap.size ≤ wr2.heap.size) := Lib.hid (by have h1 := XR2.out.rd.lt; have h2 := XR2.out.rd.grow.size; exact ⟨by omega, h2⟩)
              have EE2 := Lib.hid (entry_eq rp2)
              clear he HSN HST
              go_upto_region 42 with (fail)
              clear hb hk c2
              go_upto_region 43 with (go_at_call 63; go_must (refine (rg_int XR2.out.rd OR2.out).mono ?_); rintro e u ⟨rfl, hr, hg⟩; have U := Lib.hid (And.intro hr hg); clear hr hg)
              obtain ⟨j20, q20, hq⟩ : ∃ i q, (rp2).int = (i, q) := ⟨_, _, rfl⟩
              have P20 : Hid (OkE q20) := Lib.hid (by have := ok_int OR2.out; rw [hq] at this; exact this)
              rw [hq] at EE2 U ⊢
              simp only at EE2
              clear hq
              change Code.wp _ _ _ _ (u.alloc (.cells ((EntryD.mk j20 ansZ).cells) 77))
              have L20 : Hid (LS w wr2 (u.alloc (.cells ((EntryD.mk j20 ansZ).cells) 77)) xb u.heap.size bv zs q20 77 ((EntryD.mk j20 ansZ).cells)) := Lib.hid (LS.new _ _ U.out.1 U.out.2 BR2.out.1 BR2.out.2)
              generalize u.alloc (.cells ((EntryD.mk j20 ansZ).cells) 77) = W20 at *
              generalize u.heap.size = eb2 at *
              clear U OR2
              have hth : Hid (∀ (W : World), Blk W eb2 77 ((EntryD.mk j20 ansZ).cells) → W.there eb2 1 13) := Lib.hid (fun W hB j hj => ⟨by rw [hB.cell]; rw [Array.getElem?_eq_getElem (by show 1 + j < 14; omega)]; rfl, hB.frz _⟩)
              go_upto_region 44 with (first
                | (go_at_call 65; go_must (refine (ref_rans6 xb bv zs q20 W20 L20.out.rd.rd P20.out).mono ?_); rintro e u ⟨rfl, hr, hg⟩; have U := Lib.hid (And.intro (show Rdg w u xb bv zs (ansRd q20).2 from ⟨hr, L20.out.rd.grow.trans hg, L20.out.rd.own, L20.out.rd.lt⟩) hg); clear hr hg)
                | (refine wpList_store_mid rfl 70 (.tmp 159) (.tmp 158) rfl eb2 1 (ansRd q20).1.cells rfl rfl (hth.out _ (L20.out.ebk.grow U.out.2 L20.out.ne)) (by kernel_rfl) (ans_one_cells _) ?_))
              clear hth
              generalize ansRd q20 = ar at *
              obtain ⟨an, q21⟩ := ar
              simp only at U EE2 ⊢
              change Code.wp _ _ _ _ (u.setCells eb2 1 an.cells.toList)
              have L21 : Hid (LS w wr2 (u.setCells eb2 1 an.cells.toList) xb eb2 bv zs q21 77 ((EntryD.mk j20 an).cells)) := Lib.hid (by
                obtain ⟨cs', k1, k2, k3, k4⟩ := L20.out.puts U.out.1 U.out.2 1 an.cells.toList (by show 1 + 13 ≤ 14; omega)
                rw [set_ans_cells j20 an ansZ cs' k2 k3 k4] at k1
                exact k1)
              generalize u.setCells eb2 1 an.cells.toList = W21 at *
              clear U L20 P20
              -- the append
              have EQ2 : Hid (entryRd rp2 = ((EntryD.mk j20 an), q21)) := Lib.hid EE2.out
              rw [EQ2.out] at HS2
              have t6 : Blk W21 ab 45 ((accC (strB nm) (strB key) pl i3 i4 i5 uv0 nx ov uv1 nilS).setIfInBounds 19 uv) := XR2.out.tbk.grow L21.out.g BD2.out.2.2.2.2
              have cu : W21.cell? ⟨ab, 19, none⟩ = some uv := (t6.cell 19).trans rfl
              have fu : W21.frozen? ⟨ab, 19, none⟩ = false := t6.frz 19
              have T6 := Lib.hid t6
              have htlt : ab < W21.heap.size := t6.lt
              have huw : Hid (uv.ownBlock ≠ some ab) := Lib.hid (fun e => by have := (XR2.out.own.base _ e).1; have := BD2.out.2.1; omega)
              have O6 : OwnI W21 wa2.heap.size 77 14 uv (ps2.map (fun l : EntryD => l.cells.toList)) := XR2.out.own.of_block (fun k hk hlt => L21.out.g.block k hlt (fun e => by have := (XR2.out.own.base _ hk).1; have := BD2.out.1; omega))
              have hown : W21.ownsRow wa2.heap.size 77 14 uv ps2.length (ps2.map (fun l : EntryD => l.cells.toList)).flatten := by have := O6.1; rwa [List.length_map] at this
              have hps : ps2.length < 255 := HLN.out
              have hsz6 : wa2.heap.size ≤ W21.heap.size := by have h1 := XR2.out.mx.size; have h2 := L21.out.g.size; omega
              have hne6 : W21.heap.size ≠ ab := by omega
              have hne7 : W21.heap.size + 1 ≠ ab := by omega
              have e0 : W21.cell? ⟨eb2, 0, none⟩ = some (.int .i64 j20) := (L21.out.cell 0).trans rfl
              have e1 : W21.cell? ⟨eb2, 1, none⟩ = some (.int .i64 an.err) := (L21.out.cell 1).trans rfl
              have e2 : W21.cell? ⟨eb2, 2, none⟩ = some (.int .i64 an.left) := (L21.out.cell 2).trans rfl
              have e3 : W21.cell? ⟨eb2, 3, none⟩ = some (.int .i64 an.over) := (L21.out.cell 3).trans rfl
              have e4 : W21.cell? ⟨eb2, 4, none⟩ = some (.int .i64 an.n) := (L21.out.cell 4).trans rfl
              have e5 : W21.cell? ⟨eb2, 5, none⟩ = some (.string an.stmt.name) := (L21.out.cell 5).trans rfl
              have e6 : W21.cell? ⟨eb2, 6, none⟩ = some (.int .i64 an.stmt.term) := (L21.out.cell 6).trans rfl
              have e7 : W21.cell? ⟨eb2, 7, none⟩ = some (.int .i64 an.stmt.frm) := (L21.out.cell 7).trans rfl
              have e8 : W21.cell? ⟨eb2, 8, none⟩ = some (.int .i64 an.stmt.till) := (L21.out.cell 8).trans rfl
              have e9 : W21.cell? ⟨eb2, 9, none⟩ = some (.int .i64 an.stmt.granted) := (L21.out.cell 9).trans rfl
              have e10 : W21.cell? ⟨eb2, 10, none⟩ = some (.int .i64 an.stmt.consumed) := (L21.out.cell 10).trans rfl
              have e11 : W21.cell? ⟨eb2, 11, none⟩ = some (.int .i64 an.stmt.expired) := (L21.out.cell 11).trans rfl
              have e12 : W21.cell? ⟨eb2, 12, none⟩ = some (.int .i64 an.stmt.rolled) := (L21.out.cell 12).trans rfl
              have e13 : W21.cell? ⟨eb2, 13, none⟩ = some (.int .i64 an.stmt.over) := (L21.out.cell 13).trans rfl
              clear t6 O6
              go_wp2_with (at_builtin; refine wpList_append_lies _ rfl (.tmp 161) (.tmp 163) 43 rfl wa2.heap.size 77 ti2 (.agg entryZ.cells) 14 120 Tryd.underlying43 hi2 hz20 hz21 hz22 rfl (by decide) uv ps2.length (ps2.map (fun l : EntryD => l.cells.toList)).flatten rfl (hown.alloc _) ⟨W21.heap.size, 0, none⟩ 1 1 (((EntryD.mk j20 an)).cells).toList rfl rfl (news_row _ _ _) (one_cells_mem (entry_one_cells _)) (by decide) (by unfold maxLen; omega) (by omega) (by simp; omega) (W21.heap.size + 1) (by simp) ?_)
              intro g' cap w8 hown8 hgrow hg hlt8
              have c8 : w8.cell? ⟨ab, 19, none⟩ = some uv := (World.cell?_of_block (a := ⟨ab, 19, none⟩) ((hgrow.block ab (by simp; omega) (fun e => huw.out e.symm)).trans ((below_alloc W21 _).block ab htlt))).trans cu
              have f8 : w8.frozen? ⟨ab, 19, none⟩ = false := (World.frozen?_of_block (a := ⟨ab, 19, none⟩) ((hgrow.block ab (by simp; omega) (fun e => huw.out e.symm)).trans ((below_alloc W21 _).block ab htlt))).trans fu
              have F8 := Lib.hid (XR2.out.app (wb := W21.alloc _) L21.out BD2.out.1 BD2.out.2.1 BD2.out.2.2.2.1 BD2.out.2.2.2.2 (by show 19 < (accC (strB nm) (strB key) pl i3 i4 i5 uv0 nx ov uv1 nilS).size; exact (by rw [accC_size]; omega)) (by rw [List.length_map]; exact hps) rfl (below_alloc _ _) hgrow (by rw [List.length_map]; exact hown8))
              clear hown8 hgrow hg
              all_goals clear hown cu fu e0 e1 e2 e3 e4 e5 e6 e7 e8 e9 e10 e11 e12 e13
              all_goals go_wp2
              all_goals go_roundg g
              all_goals first
                | (case measure => omega)
                | skip
              all_goals exact ⟨k + 1, by have := HKG.out; omega, by first | rfl | go_num, _, by rw [HS2.out, List.map_append]; exact F8.out⟩
            · have hb : (rp2.err == 0) = false := by simp [he]
              have HS2 : Hid (manyRd entryRd N2 r2 = (ps2, rp2)) := Lib.hid (HST.out he)
              clear he
              go_wp2
              clear hk
              go_meet
              rw [HS2.out]
              exact ⟨uv, XR2.out⟩
      case rest =>
        obtain ⟨wl2, rfl⟩ : ∃ x : World, x = wc := ⟨_, rfl⟩
        obtain ⟨uv2, hP⟩ := hcut
        have A2 : Hid (LA w wa2 wl2 xb ab bv zs 45 (accC (strB nm) (strB key) pl i3 i4 i5 uv0 nx ov uv1 nilS) 19 77 14 ((manyRd entryRd N2 r2).1.map (fun l : EntryD => l.cells.toList)) (manyRd entryRd N2 r2).2 uv2) := Lib.hid hP
        rw [← E2.out] at A2
        clear hP
        generalize winRd q9 = wr0 at *
        obtain ⟨wl0, q10⟩ := wr0
        have FEE := FE.out
        simp only at FEE
        have SZ : Hid (Rdg w wl2 xb bv zs q10 ∧ Blk wl2 sb 45 accZc ∧ Blk wl2 ab 45 (accC (strB nm) (strB key) pl i3 i4 i5 uv0 nx ov uv1 uv2)) := Lib.hid ⟨A2.out.rd, A2.out.mx.blk Y2.out.2.1 NX.out.2.1 NX.out.2.2.2.2, A2.out.tbk⟩
        have AO : Hid (AccOut wl2 wa0.heap.size (accRd q).1 uv0 uv1 uv2 hs1) := Lib.hid (by
          rw [FEE]
          have hb : wa0.heap.size ≤ wa2.heap.size := Nat.le_trans G9.out.2.2.2.2.2.2 Y2.out.2.2.2.2.2
          exact ⟨Y2.out.2.2.2.1.mx A2.out.mx G9.out.2.1 SBL.out.1 SBL.out.2.1, holds_mx Y2.out.2.2.2.2.1 A2.out.mx G9.out.2.2.2.2.1 G9.out.2.2.2.2.2.1 SBL.out.1 SBL.out.2.1, G9.out.2.2.2.1, OwnI.items A2.out.own, G9.out.2.1, G9.out.2.2.2.2.1, fun k hk => Nat.le_trans hb (A2.out.own.base k hk).1, G9.out.2.2.2.2.2.1⟩)
        have HBW : Hid (w.heap.size ≤ wa0.heap.size) := Lib.hid (by have := SBL.out.2.2; have := HSB.out; omega)
        have FE2 := Lib.hid FEE
        clear FEE FE A2 Y2 BD2 E2 OA2 G9 S9 O9
        go_wp2_with (first
          | (refine wpList_load_row rfl 45 (.tmp 3) rfl ab rfl 45 (accC (strB nm) (strB key) pl i3 i4 i5 uv0 nx ov uv1 uv2) (0, 0) _ SZ.out.2.2 Tryd.underlying45 (by kernel_rfl) (by kernel_rfl) ?_)
          | (refine wpList_store_row rfl 45 (.tmp 2) (.tmp 166) rfl sb (accC (strB nm) (strB key) pl i3 i4 i5 uv0 nx ov uv1 uv2) rfl rfl 45 accZc SZ.out.2.1 (by kernel_rfl) rfl (acc_one_cells _ (items_one AO.out.lots) (items_one AO.out.holds.1) (items_one AO.out.win)) ?_))
        (try simp only [Exit.inBlock, Exit.then])
        refine bodyPost_ret (results_cell_row rfl _ _ sb 45 (accC (strB nm) (strB key) pl i3 i4 i5 uv0 nx ov uv1 uv2) (0, 0) _ rfl (setRow_heap _ _ _ _ _ _ SZ.out.2.1) Tryd.underlying45 (by kernel_rfl) (by kernel_rfl)) rfl ?_
        unfold RaccPost
        refine ⟨uv0, uv1, uv2, hs1, ?_, (AO.out.mx (MX.setRow wl2 xb sb _) SBL.out.1 SBL.out.2.2).lower HBW.out, ?_, (SZ.out.1.setRow NX.out.2.2.1 _).grow⟩
        · rw [FE2.out]; rfl
        · rw [FE2.out]; exact (SZ.out.1.setRow NX.out.2.2.1 _).rd
end Go.Proofs.YtehkgcmdndehaaaDoor

