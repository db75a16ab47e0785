import Derived.Test.YtehkgcmdndehaaaRefB
import Derived.Test.YtehkgcmdndehaaaRePP
import Derived.Test.YtehkgcmdndehaaaRefC
import Derived.Test.YtehkgcmdndehaaaRefEA
import Derived.Test.YtehkgcmdndehaaaPrq
namespace Go.Proofs.Ytehkgcmdndehaaa
set_option linter.unusedSimpArgs false
set_option linter.unusedVariables false
open Go.RowKit

set_option maxHeartbeats 3200000 in
set_option maxRecDepth 100000 in
theorem ref_rplan (xb : Nat) (bv : Value) (zs : List UInt8) (r : Rd) (w : World) (h : RefAt w xb bv zs r) :
    Calls Try.prog 61 #[.pointer (some ⟨xb, 0, none⟩)] w (RsPost w xb bv zs (planOf r.str.1 (Rd.ints 9 r.str.2).1).cells (Rd.ints 9 r.str.2).2) := by
  have H := Lib.hid h
  clear h
  go_enter Try.func61, Try.ntmps61
  go_upto_region 1 with (fail)
  change Code.wp _ _ _ _ (w.alloc (.cells plan0.cells 23))
  have hB0 := below_alloc w (.cells plan0.cells 23)
  have res0 : (w.alloc (.cells plan0.cells 23)).heap[w.heap.size]? = some (.cells plan0.cells 23 (0, 0)) := heap_alloc_new _ _
  have hrd0 := H.out.of_below hB0
  have hs0 : (w.alloc (.cells plan0.cells 23)).heap.size = w.heap.size + 1 := by simp
  generalize w.alloc (.cells plan0.cells 23) = W0 at *
  have H0 := Lib.hid (And.intro hB0 (And.intro res0 (And.intro hrd0 hs0)))
  clear hB0 res0 hrd0 hs0
  go_upto_region 2 with (go_at_call 59; refine (ref_text xb bv zs r W0 H0.out.2.2.1).mono ?_; rintro e w2 ⟨rfl, hr2, hs2⟩; have H2 := Lib.hid (And.intro hr2 hs2); clear hr2 hs2)
  generalize hstr : r.str = s at *
  have HSTR := Lib.hid hstr
  clear hstr
  change Code.wp _ _ _ _ (w2.alloc (.cells (PlanD.mk (strB s.1) 0 0 0 0 0 0 0 0 0).cells 23))
  have S : BkAt w (w2.alloc (.cells (PlanD.mk (strB s.1) 0 0 0 0 0 0 0 0 0).cells 23)) xb w.heap.size w2.heap.size 23 plan0.cells bv zs s.2 (PlanD.mk (strB s.1) 0 0 0 0 0 0 0 0 0).cells := by
    have hab := heap_alloc_new w2 (.cells (PlanD.mk (strB s.1) 0 0 0 0 0 0 0 0 0).cells 23)
    have hal := below_alloc w2 (.cells (PlanD.mk (strB s.1) 0 0 0 0 0 0 0 0 0).cells 23)
    have hsz3 : (w2.alloc (.cells (PlanD.mk (strB s.1) 0 0 0 0 0 0 0 0 0).cells 23)).heap.size = w2.heap.size + 1 := by simp
    have hx := H.out.lt
    have h0 := H0.out.2.2.2
    have hs2 := H2.out.2.size
    refine ⟨⟨hx, Nat.le_refl _, by omega, by omega⟩, H.out.reads.own_lt, ?_, ?_, H2.out.1.of_below hal, fun o u h => ?_, fun o => frozen_of_row _ _ _ _ _ hab⟩
    · exact ((RefG.of_below (H0.out.1)).trans H2.out.2.grow).trans (RefG.of_below hal)
    · exact (hal.block _ (by omega)).trans ((H2.out.2.block _ (by omega)).trans H0.out.2.1)
    · rw [cell_of_row _ _ _ _ _ _ hab]; exact h
  have T0 := Lib.hid S
  generalize w2.alloc (.cells (PlanD.mk (strB s.1) 0 0 0 0 0 0 0 0 0).cells 23) = v0 at *
  generalize w2.heap.size = ab at *
  have hG : Hid (w.heap.size = w.heap.size) := Lib.hid rfl
  generalize hsb : w.heap.size = sb at T0 ⊢
  have HSB := Lib.hid hsb
  clear S H0 H2 hsb hG
  go_upto_region 3 with (go_at_call 60; refine (bk_int T0.out).mono ?_; generalize hi1 : Rd.int s.2 = i1 at *; have HI1 := Lib.hid hi1; clear hi1; rintro e u1 ⟨rfl, S⟩; have k1 : u1.cell? ⟨ab, 1, none⟩ = some (.int .i64 0) := S.cells 1 _ rfl; have kf := S.frz 1; have Q1 := Lib.hid S; clear S)
  have S := Q1.out.set 1 (.int .i64 i1.1) (by show 1 < 10; decide)
  generalize u1.setCell ⟨ab, 1, none⟩ (.int .i64 i1.1) = v1 at *
  have T1 : Hid (BkAt w v1 xb sb ab 23 plan0.cells bv zs i1.2 (PlanD.mk (strB s.1) i1.1 0 0 0 0 0 0 0 0).cells) := Lib.hid S
  clear S k1 kf Q1 T0
  go_upto_region 4 with (go_at_call 60; refine (bk_int T1.out).mono ?_; generalize hi2 : Rd.int i1.2 = i2 at *; have HI2 := Lib.hid hi2; clear hi2; rintro e u2 ⟨rfl, S⟩; have k1 : u2.cell? ⟨ab, 2, none⟩ = some (.int .i64 0) := S.cells 2 _ rfl; have kf := S.frz 2; have Q2 := Lib.hid S; clear S)
  have S := Q2.out.set 2 (.int .i64 i2.1) (by show 2 < 10; decide)
  generalize u2.setCell ⟨ab, 2, none⟩ (.int .i64 i2.1) = v2 at *
  have T2 : Hid (BkAt w v2 xb sb ab 23 plan0.cells bv zs i2.2 (PlanD.mk (strB s.1) i1.1 i2.1 0 0 0 0 0 0 0).cells) := Lib.hid S
  clear S k1 kf Q2 T1
  go_upto_region 5 with (go_at_call 60; refine (bk_int T2.out).mono ?_; generalize hi3 : Rd.int i2.2 = i3 at *; have HI3 := Lib.hid hi3; clear hi3; rintro e u3 ⟨rfl, S⟩; have k1 : u3.cell? ⟨ab, 3, none⟩ = some (.int .i64 0) := S.cells 3 _ rfl; have kf := S.frz 3; have Q3 := Lib.hid S; clear S)
  have S := Q3.out.set 3 (.int .i64 i3.1) (by show 3 < 10; decide)
  generalize u3.setCell ⟨ab, 3, none⟩ (.int .i64 i3.1) = v3 at *
  have T3 : Hid (BkAt w v3 xb sb ab 23 plan0.cells bv zs i3.2 (PlanD.mk (strB s.1) i1.1 i2.1 i3.1 0 0 0 0 0 0).cells) := Lib.hid S
  clear S k1 kf Q3 T2
  go_upto_region 6 with (go_at_call 60; refine (bk_int T3.out).mono ?_; generalize hi4 : Rd.int i3.2 = i4 at *; have HI4 := Lib.hid hi4; clear hi4; rintro e u4 ⟨rfl, S⟩; have k1 : u4.cell? ⟨ab, 4, none⟩ = some (.int .i64 0) := S.cells 4 _ rfl; have kf := S.frz 4; have Q4 := Lib.hid S; clear S)
  have S := Q4.out.set 4 (.int .i64 i4.1) (by show 4 < 10; decide)
  generalize u4.setCell ⟨ab, 4, none⟩ (.int .i64 i4.1) = v4 at *
  have T4 : Hid (BkAt w v4 xb sb ab 23 plan0.cells bv zs i4.2 (PlanD.mk (strB s.1) i1.1 i2.1 i3.1 i4.1 0 0 0 0 0).cells) := Lib.hid S
  clear S k1 kf Q4 T3
  go_upto_region 7 with (go_at_call 60; refine (bk_int T4.out).mono ?_; generalize hi5 : Rd.int i4.2 = i5 at *; have HI5 := Lib.hid hi5; clear hi5; rintro e u5 ⟨rfl, S⟩; have k1 : u5.cell? ⟨ab, 5, none⟩ = some (.int .i64 0) := S.cells 5 _ rfl; have kf := S.frz 5; have Q5 := Lib.hid S; clear S)
  have S := Q5.out.set 5 (.int .i64 i5.1) (by show 5 < 10; decide)
  generalize u5.setCell ⟨ab, 5, none⟩ (.int .i64 i5.1) = v5 at *
  have T5 : Hid (BkAt w v5 xb sb ab 23 plan0.cells bv zs i5.2 (PlanD.mk (strB s.1) i1.1 i2.1 i3.1 i4.1 i5.1 0 0 0 0).cells) := Lib.hid S
  clear S k1 kf Q5 T4
  go_upto_region 8 with (go_at_call 60; refine (bk_int T5.out).mono ?_; generalize hi6 : Rd.int i5.2 = i6 at *; have HI6 := Lib.hid hi6; clear hi6; rintro e u6 ⟨rfl, S⟩; have k1 : u6.cell? ⟨ab, 6, none⟩ = some (.int .i64 0) := S.cells 6 _ rfl; have kf := S.frz 6; have Q6 := Lib.hid S; clear S)
  have S := Q6.out.set 6 (.int .i64 i6.1) (by show 6 < 10; decide)
  generalize u6.setCell ⟨ab, 6, none⟩ (.int .i64 i6.1) = v6 at *
  have T6 : Hid (BkAt w v6 xb sb ab 23 plan0.cells bv zs i6.2 (PlanD.mk (strB s.1) i1.1 i2.1 i3.1 i4.1 i5.1 i6.1 0 0 0).cells) := Lib.hid S
  clear S k1 kf Q6 T5
  go_upto_region 9 with (go_at_call 60; refine (bk_int T6.out).mono ?_; generalize hi7 : Rd.int i6.2 = i7 at *; have HI7 := Lib.hid hi7; clear hi7; rintro e u7 ⟨rfl, S⟩; have k1 : u7.cell? ⟨ab, 7, none⟩ = some (.int .i64 0) := S.cells 7 _ rfl; have kf := S.frz 7; have Q7 := Lib.hid S; clear S)
  have S := Q7.out.set 7 (.int .i64 i7.1) (by show 7 < 10; decide)
  generalize u7.setCell ⟨ab, 7, none⟩ (.int .i64 i7.1) = v7 at *
  have T7 : Hid (BkAt w v7 xb sb ab 23 plan0.cells bv zs i7.2 (PlanD.mk (strB s.1) i1.1 i2.1 i3.1 i4.1 i5.1 i6.1 i7.1 0 0).cells) := Lib.hid S
  clear S k1 kf Q7 T6
  go_upto_region 10 with (go_at_call 60; refine (bk_int T7.out).mono ?_; generalize hi8 : Rd.int i7.2 = i8 at *; have HI8 := Lib.hid hi8; clear hi8; rintro e u8 ⟨rfl, S⟩; have k1 : u8.cell? ⟨ab, 8, none⟩ = some (.int .i64 0) := S.cells 8 _ rfl; have kf := S.frz 8; have Q8 := Lib.hid S; clear S)
  have S := Q8.out.set 8 (.int .i64 i8.1) (by show 8 < 10; decide)
  generalize u8.setCell ⟨ab, 8, none⟩ (.int .i64 i8.1) = v8 at *
  have T8 : Hid (BkAt w v8 xb sb ab 23 plan0.cells bv zs i8.2 (PlanD.mk (strB s.1) i1.1 i2.1 i3.1 i4.1 i5.1 i6.1 i7.1 i8.1 0).cells) := Lib.hid S
  clear S k1 kf Q8 T7
  go_upto_region 11 with (go_at_call 60; refine (bk_int T8.out).mono ?_; generalize hi9 : Rd.int i8.2 = i9 at *; have HI9 := Lib.hid hi9; clear hi9; rintro e u9 ⟨rfl, S⟩; have k1 : u9.cell? ⟨ab, 9, none⟩ = some (.int .i64 0) := S.cells 9 _ rfl; have kf := S.frz 9; have Q9 := Lib.hid S; clear S)
  have S := Q9.out.set 9 (.int .i64 i9.1) (by show 9 < 10; decide)
  generalize u9.setCell ⟨ab, 9, none⟩ (.int .i64 i9.1) = v9 at *
  have T9 : Hid (BkAt w v9 xb sb ab 23 plan0.cells bv zs i9.2 (PlanD.mk (strB s.1) i1.1 i2.1 i3.1 i4.1 i5.1 i6.1 i7.1 i8.1 i9.1).cells) := Lib.hid S
  clear S k1 kf Q9 T8
  have E : Rd.ints 9 s.2 = ([i1.1, i2.1, i3.1, i4.1, i5.1, i6.1, i7.1, i8.1, i9.1], i9.2) := by
    simp only [Rd.ints, HI1.out, HI2.out, HI3.out, HI4.out, HI5.out, HI6.out, HI7.out, HI8.out, HI9.out]
  rw [E]
  have TE := Lib.hid E
  clear E
  go_step
  refine wpList_load_mid rfl 23 (.tmp 3) rfl ab 0 rfl ((PlanD.mk (strB s.1) i1.1 i2.1 i3.1 i4.1 i5.1 i6.1 i7.1 i8.1 i9.1).cells).toList _ (fun j u hj => by rw [Nat.zero_add]; exact T9.out.cells j u (by simpa using hj)) Try.underlying23 rfl (by kernel_rfl) ?_
  refine wpList_store_row rfl 23 (.tmp 2) (.tmp 34) rfl sb ((PlanD.mk (strB s.1) i1.1 i2.1 i3.1 i4.1 i5.1 i6.1 i7.1 i8.1 i9.1).cells) rfl rfl 23 plan0.cells T9.out.res (by kernel_rfl) rfl (plan_one_cells _) ?_
  go_wp2
  (try simp only [Exit.inBlock, Exit.then])
  refine bodyPost_ret (results_cell_row rfl _ _ sb 23 ((PlanD.mk (strB s.1) i1.1 i2.1 i3.1 i4.1 i5.1 i6.1 i7.1 i8.1 i9.1).cells) (0, 0) _ rfl (setRow_heap _ _ _ _ _ _ T9.out.res) Try.underlying23 rfl (by kernel_rfl)) rfl ?_
  rw [TE.out]
  have L := T9.out.last ((PlanD.mk (strB s.1) i1.1 i2.1 i3.1 i4.1 i5.1 i6.1 i7.1 i8.1 i9.1).cells)
  exact ⟨rfl, L.1, L.2⟩

theorem bl_drewN2 {B : Nat} {w w' : World} (h : Below B w w') (n : Nat) : Below B w (w'.drewN n) := ⟨h.os, h.tape, h.output, h.size, h.block⟩
/-- What End answers. -/
def endE (r : Rd) : Int := if r.cut = true then 8 else if 0 < r.bs.length then 9 else 0
/-- rec's reader where this one stands. -/
def reOf (r : Rd) : Re := ⟨r.bs, if r.cut = true then 8 else 0⟩
theorem re_take (r : Rd) (n : Nat) : (reOf r).take n = ((r.take n).1, reOf (r.take n).2) := by
  unfold Re.take Rd.take reOf
  cases hc : r.cut with
  | true => simp [Re.fail]
  | false =>
    by_cases hs : r.bs.length < n
    · simp [hs, Re.fail]
    · simp [hs]
theorem re_one (r : Rd) : (reOf r).one = (r.one.1, reOf r.one.2) := by unfold Re.one Rd.one; rw [re_take]
theorem re_int (r : Rd) : (reOf r).int = (r.int.1, reOf r.int.2) := by unfold Re.int Rd.int; rw [re_take]
theorem re_str (r : Rd) : (reOf r).str = (r.str.1, reOf r.str.2) := by
  unfold Re.str Rd.str
  rw [re_one]
  simp only [re_take]
  congr 1
  unfold reOf
  cases (r.one.2.take r.one.1.toNat).2.cut <;> simp
theorem re_ints : ∀ (n : Nat) (r : Rd), Re.ints n (reOf r) = ((Rd.ints n r).1, reOf (Rd.ints n r).2)
  | 0, r => rfl
  | n + 1, r => by
    rw [Re.ints, re_int]
    simp only [re_ints n r.int.2]
    rfl
theorem re_end (r : Rd) : planEnd (reOf r) = endE r := by
  unfold planEnd reOf endE
  cases r.cut <;> simp
theorem rd_take_cut (r : Rd) (n : Nat) (h : r.cut = true) : (r.take n).2.cut = true := by unfold Rd.take; rw [if_pos (.inl h)]
theorem rd_ints_cut : ∀ (n : Nat) (r : Rd), r.cut = true → (Rd.ints n r).2.cut = true
  | 0, r, h => h
  | n + 1, r, h => rd_ints_cut n r.int.2 (rd_take_cut r 8 h)
theorem rd_str_cut (r : Rd) (h : r.cut = true) : r.str.2.cut = true := rd_take_cut _ _ (rd_take_cut r 1 h)
theorem plan_end (cs : List Value) (r : Rd) (q0 : ReqD) (hcs : cs = q0.cells.toList) (s : List UInt8 × Rd) (i : List Int × Rd) (hs : r.str = s) (hi : Rd.ints 9 s.2 = i) (pp : PlanD) (hpp : planOf s.1 i.1 = pp) :
    prEnd 16 cs r = if endE i.2 = 0 then (({ q0 with plan := pp } : ReqD).cells.toList, 0) else (reqZ0.cells.toList, endE i.2) := by
  subst hs hi hpp
  rw [prEnd_eq]
  cases hc : r.cut with
  | true =>
    have h1 := rd_ints_cut 9 r.str.2 (rd_str_cut r hc)
    have h2 : endE (Rd.ints 9 r.str.2).2 = 8 := by unfold endE; rw [if_pos h1]
    rw [if_neg (by simp), if_pos rfl, h2, if_neg (by decide)]
  | false =>
    have e : (⟨r.bs, 0⟩ : Re) = reOf r := by unfold reOf; rw [hc]; rfl
    have e2 : planRd ⟨r.bs, 0⟩ = (planOf r.str.1 (Rd.ints 9 r.str.2).1, reOf (Rd.ints 9 r.str.2).2) := by
      rw [e]; unfold planRd; rw [re_str]; simp only [re_ints]
    rw [if_pos ⟨rfl, rfl⟩, parsePlan_eq, e2]
    simp only [re_end]
    by_cases h0 : endE (Rd.ints 9 r.str.2).2 = 0
    · simp only [h0, ne_eq, not_true, if_false, if_true]
      rw [hcs, putPlan_cells]
    · simp only [h0, ne_eq, not_false_eq_true, if_true, if_false]
attribute [local irreducible] Rd.ints Rd.strs parsePlan parseReqC Rd.str Rd.int
/-- A request's block ab that is filled from the reader xb: w0 the world behind the reader's making. -/
structure RqAt (w0 W : World) (xb ab : Nat) (bv : Value) (zs : List UInt8) (r : Rd) (q : ReqD) : Prop where
  lt : xb < w0.heap.size ∧ w0.heap.size ≤ ab ∧ ab < W.heap.size
  own : ∀ k, bv.ownBlock = some k → k < w0.heap.size
  grow : RefG w0 W xb
  rd : RefAt W xb bv zs r
  row : W.heap[ab]? = some (.cells q.cells 25 (0, 0))
theorem RqAt.cells {w0 W : World} {xb ab : Nat} {bv : Value} {zs : List UInt8} {r : Rd} {q : ReqD} (S : RqAt w0 W xb ab bv zs r q) (o : Nat) (u : Value) (h : q.cells[o]? = some u) : W.cell? ⟨ab, o, none⟩ = some u := by rw [cell_of_row W _ _ _ _ _ S.row]; exact h
theorem RqAt.frz {w0 W : World} {xb ab : Nat} {bv : Value} {zs : List UInt8} {r : Rd} {q : ReqD} (S : RqAt w0 W xb ab bv zs r q) (o : Nat) : W.frozen? ⟨ab, o, none⟩ = false := frozen_of_row _ _ _ _ _ S.row
def RqPost (w0 : World) (xb ab : Nat) (bv : Value) (zs : List UInt8) (val : Value) (r' : Rd) (q : ReqD) (e : Ending) (w' : World) : Prop := e = .returned val ∧ RqAt w0 w' xb ab bv zs r' q
theorem RqAt.refg {w0 W w' : World} {xb ab : Nat} {bv : Value} {zs : List UInt8} {r r' : Rd} {q : ReqD} (S : RqAt w0 W xb ab bv zs r q) (hs : RefG W w' xb) (hr : RefAt w' xb bv zs r') : RqAt w0 w' xb ab bv zs r' q := by
  have hlt := S.lt
  have hsz := hs.size
  exact ⟨⟨hlt.1, hlt.2.1, by omega⟩, S.own, S.grow.trans hs, hr, (hs.block ab hlt.2.2 (by omega)).trans S.row⟩
theorem rq_int {w0 W : World} {xb ab : Nat} {bv : Value} {zs : List UInt8} {r : Rd} {q : ReqD} (S : RqAt w0 W xb ab bv zs r q) :
    Calls Try.prog 60 #[.pointer (some ⟨xb, 0, none⟩)] W (RqPost w0 xb ab bv zs (.int .i64 r.int.1) r.int.2 q) := by
  refine (ref_rint xb bv zs r W S.rd).mono ?_
  rintro e w' ⟨rfl, hr, hs⟩
  exact ⟨rfl, S.refg hs.grow hr⟩
theorem rq_text {w0 W : World} {xb ab : Nat} {bv : Value} {zs : List UInt8} {r : Rd} {q : ReqD} (S : RqAt w0 W xb ab bv zs r q) :
    Calls Try.prog 59 #[.pointer (some ⟨xb, 0, none⟩)] W (RqPost w0 xb ab bv zs (.string (strB r.str.1)) r.str.2 q) := by
  refine (ref_text xb bv zs r W S.rd).mono ?_
  rintro e w' ⟨rfl, hr, hs⟩
  exact ⟨rfl, S.refg hs.grow hr⟩
theorem rq_plan {w0 W : World} {xb ab : Nat} {bv : Value} {zs : List UInt8} {r : Rd} {q : ReqD} (S : RqAt w0 W xb ab bv zs r q) :
    Calls Try.prog 61 #[.pointer (some ⟨xb, 0, none⟩)] W (RqPost w0 xb ab bv zs (.agg (planOf r.str.1 (Rd.ints 9 r.str.2).1).cells) (Rd.ints 9 r.str.2).2 q) := by
  refine (ref_rplan xb bv zs r W S.rd).mono ?_
  rintro e w' ⟨rfl, hr, hs⟩
  exact ⟨rfl, S.refg hs hr⟩
theorem heap_setCell_row {w : World} {b o : Nat} {v : Value} {cs : Array Value} {T : TypeId} (h : w.heap[b]? = some (.cells cs T (0, 0))) (ho : o < cs.size) : (w.setCell ⟨b, o, none⟩ v).heap[b]? = some (.cells (cs.setIfInBounds o v) T (0, 0)) := by
  have hb : b < w.heap.size := (Array.getElem?_eq_some_iff.1 h).1
  unfold World.setCell
  simp only [Array.getElem?_modify, h, if_true, Option.map_some]
  rfl
theorem RqAt.set {w0 W : World} {xb ab : Nat} {bv : Value} {zs : List UInt8} {r : Rd} {q : ReqD} (S : RqAt w0 W xb ab bv zs r q) (o : Nat) (x : Value) (q' : ReqD) (ho : o < 18) (hq : q.cells.setIfInBounds o x = q'.cells) : RqAt w0 (W.setCell ⟨ab, o, none⟩ x) xb ab bv zs r q' := by
  have hlt := S.lt
  have hsz : (W.setCell ⟨ab, o, none⟩ x).heap.size = W.heap.size := by simp [World.setCell]
  refine ⟨⟨hlt.1, hlt.2.1, by rw [hsz]; exact hlt.2.2⟩, S.own, ⟨S.grow.os, S.grow.tape, S.grow.output, by rw [hsz]; exact S.grow.size, fun k hk hx => (Below.heap_setCell _ _ _ _ (by show k ≠ ab; omega)).trans (S.grow.block k hk hx)⟩, S.rd.set (by show ab ≠ xb; omega) (fun e => by have := S.own _ e; have : ab < w0.heap.size := this; omega), ?_⟩
  rw [← hq]
  exact heap_setCell_row S.row ho
theorem RqAt.there {w0 W : World} {xb ab : Nat} {bv : Value} {zs : List UInt8} {r : Rd} {q : ReqD} (S : RqAt w0 W xb ab bv zs r q) : W.there ab 8 10 := by
  intro j hj
  refine ⟨?_, S.frz _⟩
  have hs : 8 + j < q.cells.size := by show 8 + j < 18; omega
  rw [S.cells (8 + j) _ (Array.getElem?_eq_getElem hs)]
  rfl
theorem RqAt.setCells : ∀ (vs : List Value) (o : Nat) {w0 W : World} {xb ab : Nat} {bv : Value} {zs : List UInt8} {r : Rd} {cs : Array Value}, o + vs.length ≤ cs.size → W.heap[ab]? = some (.cells cs 25 (0, 0)) →
    ∃ cs', cs'.size = cs.size ∧ (W.setCells ab o vs).heap[ab]? = some (.cells cs' 25 (0, 0)) ∧ cs'.toList = cs.toList.take o ++ vs ++ cs.toList.drop (o + vs.length)
  | [], o, _, W, _, ab, _, _, _, cs, hl, h => ⟨cs, rfl, h, by simp⟩
  | v :: vs, o, w0, W, xb, ab, bv, zs, r, cs, hl, h => by
    rw [List.length_cons] at hl
    obtain ⟨cs', h1, h2, h3⟩ := RqAt.setCells vs (o + 1) (w0 := w0) (xb := xb) (bv := bv) (zs := zs) (r := r) (cs := cs.setIfInBounds o v) (by simp; omega) (heap_setCell_row (v := v) h (by omega))
    refine ⟨cs', by simpa using h1, h2, ?_⟩
    rw [h3, Array.toList_setIfInBounds, List.length_cons]
    have hlen : o < cs.toList.length := by simp; omega
    rw [List.drop_set_of_lt (by omega), List.take_set, List.set_eq_take_append_cons_drop]
    rw [if_pos (by rw [List.length_take]; omega), List.take_take, Nat.min_eq_left (by omega), List.drop_of_length_le (i := o + 1) (by rw [List.length_take]; omega)]
    simp [Nat.add_assoc, Nat.add_comm 1]
theorem plan_put (q : ReqD) (p : PlanD) : q.cells.toList.take 8 ++ p.cells.toList ++ q.cells.toList.drop (8 + p.cells.toList.length) = ({ q with plan := p } : ReqD).cells.toList := by
  have e : p.cells.toList.length = 10 := rfl
  have e2 : q.cells.toList.drop (8 + 10) = [] := rfl
  rw [e, e2, List.append_nil]
  rfl
theorem RqAt.putCells {w0 W : World} {xb ab : Nat} {bv : Value} {zs : List UInt8} {r : Rd} {q : ReqD} (S : RqAt w0 W xb ab bv zs r q) (vs : List Value) (q' : ReqD) (hl8 : 8 + vs.length ≤ q.cells.size) (hq : q.cells.toList.take 8 ++ vs ++ q.cells.toList.drop (8 + vs.length) = q'.cells.toList) : RqAt w0 (W.setCells ab 8 vs) xb ab bv zs r q' := by
  have hlt := S.lt
  obtain ⟨h1, h2, h3, h4, h5⟩ := setCells_keep ab vs 8 W
  have hrow : (W.setCells ab 8 vs).heap[ab]? = some (.cells q'.cells 25 (0, 0)) := by
    obtain ⟨cs', e1, e2, e3⟩ := RqAt.setCells vs 8 (w0 := w0) (xb := xb) (bv := bv) (zs := zs) (r := r) (cs := q.cells) hl8 S.row
    have e4 : cs' = q'.cells := Array.ext' (e3.trans hq)
    rw [e2, e4]
  generalize W.setCells ab 8 vs = V at *
  have h := S.rd
  obtain ⟨n, hn, c1, hd⟩ := h.c1
  have hx : ab ≠ xb := by omega
  have cc : ∀ o, V.cell? ⟨xb, o, none⟩ = W.cell? ⟨xb, o, none⟩ := fun o => World.cell?_of_block (h5 xb (fun e => hx e.symm))
  refine ⟨⟨hlt.1, hlt.2.1, by rw [h4]; exact hlt.2.2⟩, S.own, ⟨h1.trans S.grow.os, h2.trans S.grow.tape, h3.trans S.grow.output, by rw [h4]; exact S.grow.size, fun k hk hx => (h5 k (by omega)).trans (S.grow.block k hk hx)⟩,
    ⟨by rw [h4]; exact h.lt, h.len, (cc 0).trans h.c0, ⟨n, hn, (cc 1).trans c1, hd⟩, (cc 2).trans h.c2, fun o => (World.frozen?_of_block (h5 xb (fun e => hx e.symm))).trans (h.frz o), ?_, h.apart⟩, hrow⟩
  rcases h.reads with h' | ⟨b, off, cap, rfl, hc, hb, hxs⟩
  · exact .inl h'
  · have hb2 := S.own b rfl
    exact .inr ⟨b, off, cap, rfl, hc, by rw [h4]; exact hb, fun i x hi => (World.cell?_of_block (a := ⟨b, off + i, none⟩) (h5 b (by omega))).trans (hxs i x hi)⟩
theorem RqAt.setPlan {w0 W : World} {xb ab : Nat} {bv : Value} {zs : List UInt8} {r : Rd} {q : ReqD} (S : RqAt w0 W xb ab bv zs r q) (p : PlanD) : RqAt w0 (W.setCells ab 8 p.cells.toList) xb ab bv zs r { q with plan := p } :=
  S.putCells p.cells.toList _ (by have e1 : p.cells.toList.length = 10 := rfl; have e2 : q.cells.size = 18 := rfl; omega) (plan_put q p)
theorem rq_end {w0 W : World} {xb ab : Nat} {bv : Value} {zs : List UInt8} {r : Rd} {q : ReqD} (S : RqAt w0 W xb ab bv zs r q) (k : Nat) :
    Calls Try.prog 49 #[.pointer (some ⟨xb, 0, none⟩)] (W.drewN k) (DrewPost (W.drewN k) (.int .i64 (endE r))) := by
  obtain ⟨n, hn, c1, hd⟩ := S.rd.c1
  obtain ⟨a0, k0, hbv⟩ := S.rd.reads.len
  have c0 := S.rd.c0
  rw [hbv] at c0
  have h := ref_end xb n zs.length a0 k0 _ (W.drewN k) S.rd.len hn c0 c1 S.rd.c2
  have e : (if (if r.cut then (8 : Int) else 0) = 0 ∧ n < zs.length then (9 : Int) else (if r.cut then 8 else 0)) = endE r := by
    unfold endE
    cases hc : r.cut with
    | true => simp
    | false =>
      have hb := hd hc
      have : r.bs.length = zs.length - n := by rw [hb, List.length_drop]
      by_cases h0 : 0 < r.bs.length
      · simp [h0]; omega
      · simp [h0]; omega
  rw [e] at h
  exact h
theorem rq_end0 {w0 W : World} {xb ab : Nat} {bv : Value} {zs : List UInt8} {r : Rd} {q : ReqD} (S : RqAt w0 W xb ab bv zs r q) (v : Int) (hv : endE r = v) :
    Calls Try.prog 49 #[.pointer (some ⟨xb, 0, none⟩)] W (DrewPost W (.int .i64 v)) := by
  subst hv
  exact rq_end S 0
theorem rq_end1 {w0 W : World} {xb ab : Nat} {bv : Value} {zs : List UInt8} {r : Rd} {q : ReqD} (S : RqAt w0 W xb ab bv zs r q) (v : Int) (hv : endE r = v) (k : Nat) :
    Calls Try.prog 49 #[.pointer (some ⟨xb, 0, none⟩)] (W.drewN k) (DrewPost (W.drewN k) (.int .i64 v)) := by
  subst hv
  exact rq_end S k
theorem prEnd_end (k : Int) (cs : List Value) (r : Rd) (hk : k ≠ 16) : prEnd k cs r = if endE r = 0 then (cs, 0) else (reqZ0.cells.toList, endE r) := by
  rw [prEnd_eq, if_neg (fun h => hk h.1)]
  unfold endE
  by_cases h1 : r.cut = true
  · rw [if_pos h1, if_pos h1]; simp
  · rw [if_neg h1, if_neg h1]
    by_cases h2 : 0 < r.bs.length
    · rw [if_pos h2, if_pos h2]; simp
    · rw [if_neg h2, if_neg h2]; simp
attribute [local irreducible] endE
set_option maxHeartbeats 3200000 in
set_option maxRecDepth 100000 in
theorem rq_0 (v : Value) (zs : List UInt8) (w : World) (h : Reads w v zs) (hl : zs.length ≤ 1000000) (hk : (Rd.one ⟨zs, false⟩).1 = 0) (hc : (Rd.one ⟨zs, false⟩).2.cut = true) :
    Calls Try.prog 30 #[v] w (PrPost w (parseReqC zs)) := by
  obtain ⟨a1, c1, rfl⟩ := h.len
  have H := Lib.hid h
  have HK := Lib.hid (And.intro hk hc)
  have HPR : Hid (parseReqC zs = prKind (Rd.one ⟨zs, false⟩).1 (Rd.one ⟨zs, false⟩).2) := Lib.hid (parseReqC_eq zs)
  clear h hk hc
  go_enter Try.func30, Try.ntmps30
  go_upto_region 2 with (fail)
  change Code.wp _ _ _ _ ((w.alloc (.cells reqZ0.cells 25)).alloc (.cells #[.slice a1 zs.length c1, .int .i64 0, .int .i64 0] 96))
  have S : RefAt ((w.alloc (.cells reqZ0.cells 25)).alloc (.cells #[.slice a1 zs.length c1, .int .i64 0, .int .i64 0] 96)) (w.heap.size + 1) (.slice a1 zs.length c1) zs ⟨zs, false⟩ := by
    have hrow := heap_alloc_new (w.alloc (.cells reqZ0.cells 25)) (.cells #[.slice a1 zs.length c1, .int .i64 0, .int .i64 0] 96)
    rw [show (w.alloc (.cells reqZ0.cells 25)).heap.size = w.heap.size + 1 by simp] at hrow
    refine ⟨by simp, hl, (cell_of_row _ _ _ _ _ _ hrow).trans rfl, ⟨0, Nat.zero_le _, (cell_of_row _ _ _ _ _ _ hrow).trans rfl, fun _ => rfl⟩, (cell_of_row _ _ _ _ _ _ hrow).trans rfl, fun o => frozen_of_row _ _ _ _ _ hrow, H.out.below (below_alloc2 _ _ _), fun e => ?_⟩
    have := H.out.own_lt _ e
    omega
  have hB := below_alloc2 w (.cells reqZ0.cells 25) (.cells #[.slice a1 zs.length c1, .int .i64 0, .int .i64 0] 96)
  have res0 : ((w.alloc (.cells reqZ0.cells 25)).alloc (.cells #[.slice a1 zs.length c1, .int .i64 0, .int .i64 0] 96)).heap[w.heap.size]? = some (.cells reqZ0.cells 25 (0, 0)) :=
    ((below_alloc _ _).block _ (by simp)).trans (heap_alloc_new _ _)
  have hsz : ((w.alloc (.cells reqZ0.cells 25)).alloc (.cells #[.slice a1 zs.length c1, .int .i64 0, .int .i64 0] 96)).heap.size = w.heap.size + 2 := by simp
  generalize (w.alloc (.cells reqZ0.cells 25)).alloc (.cells #[.slice a1 zs.length c1, .int .i64 0, .int .i64 0] 96) = W1 at *
  have H1 := Lib.hid (And.intro S (And.intro hB (And.intro res0 hsz)))
  clear S hB res0 hsz
  have HOW : Hid (∀ k, (Value.slice a1 zs.length c1).ownBlock = some k → k < W1.heap.size) := Lib.hid (fun k hk => by have := H.out.own_lt k hk; have := H1.out.2.2.2; omega)
  have hsx : w.heap.size < w.heap.size + 1 := by omega
  have HLT : Hid (w.heap.size + 1 < W1.heap.size) := Lib.hid (by have := H1.out.2.2.2; omega)
  generalize hxb : w.heap.size + 1 = xb at *
  have HXB := Lib.hid hxb
  clear hxb
  generalize hsb : w.heap.size = sb at *
  have HSB := Lib.hid hsb
  clear hsb
  go_upto_region 3 with (first
    | (go_at_call 58; refine (ref_u8 xb _ zs ⟨zs, false⟩ W1 H1.out.1).mono ?_; rintro e w2 ⟨rfl, hr2, hs2⟩; rw [HK.out.1]; have H2 := Lib.hid (And.intro hr2 hs2); clear hr2 hs2)
    | (refine wpList_build_at _ rfl 25 _ rfl ((ReqD.mk 0 ⟨#[]⟩ 0 0 0 0 ⟨#[]⟩ ⟨#[]⟩ (PlanD.mk ⟨#[]⟩ 0 0 0 0 0 0 0 0 0))).cells (by kernel_rfl) ?_)
    | (refine wpList_store_row rfl 25 (.tmp 5) (.tmp 11) rfl w2.heap.size ((ReqD.mk 0 ⟨#[]⟩ 0 0 0 0 ⟨#[]⟩ ⟨#[]⟩ (PlanD.mk ⟨#[]⟩ 0 0 0 0 0 0 0 0 0))).cells rfl rfl 25 reqZ0.cells (heap_alloc_new _ _) (by kernel_rfl) rfl (req_one_cells _) ?_))
  change Code.wp _ _ _ _ ((w2.alloc (.cells reqZ0.cells 25)).setRow w2.heap.size ((ReqD.mk 0 ⟨#[]⟩ 0 0 0 0 ⟨#[]⟩ ⟨#[]⟩ (PlanD.mk ⟨#[]⟩ 0 0 0 0 0 0 0 0 0))).cells)
  generalize hr1 : Rd.one ⟨zs, false⟩ = o1 at *
  have HR1 := Lib.hid hr1
  clear hr1
  obtain ⟨ok, r1⟩ := o1
  have hs2 := H2.out.2.size
  have T0 : Hid (RqAt W1 ((w2.alloc (.cells reqZ0.cells 25)).setRow w2.heap.size ((ReqD.mk 0 ⟨#[]⟩ 0 0 0 0 ⟨#[]⟩ ⟨#[]⟩ (PlanD.mk ⟨#[]⟩ 0 0 0 0 0 0 0 0 0))).cells) xb w2.heap.size (.slice a1 zs.length c1) zs r1 ((ReqD.mk 0 ⟨#[]⟩ 0 0 0 0 ⟨#[]⟩ ⟨#[]⟩ (PlanD.mk ⟨#[]⟩ 0 0 0 0 0 0 0 0 0)))) := Lib.hid (by
    have hrow : ((w2.alloc (.cells reqZ0.cells 25)).setRow w2.heap.size ((ReqD.mk 0 ⟨#[]⟩ 0 0 0 0 ⟨#[]⟩ ⟨#[]⟩ (PlanD.mk ⟨#[]⟩ 0 0 0 0 0 0 0 0 0))).cells).heap[w2.heap.size]? = some (.cells ((ReqD.mk 0 ⟨#[]⟩ 0 0 0 0 ⟨#[]⟩ ⟨#[]⟩ (PlanD.mk ⟨#[]⟩ 0 0 0 0 0 0 0 0 0))).cells 25 (0, 0)) := setRow_heap _ _ _ _ _ _ (heap_alloc_new _ _)
    have hB : Below w2.heap.size w2 ((w2.alloc (.cells reqZ0.cells 25)).setRow w2.heap.size ((ReqD.mk 0 ⟨#[]⟩ 0 0 0 0 ⟨#[]⟩ ⟨#[]⟩ (PlanD.mk ⟨#[]⟩ 0 0 0 0 0 0 0 0 0))).cells) := below_setRow (below_alloc _ _) (Nat.le_refl _) _
    have hl := HLT.out
    have hsr : ((w2.alloc (.cells reqZ0.cells 25)).setRow w2.heap.size ((ReqD.mk 0 ⟨#[]⟩ 0 0 0 0 ⟨#[]⟩ ⟨#[]⟩ (PlanD.mk ⟨#[]⟩ 0 0 0 0 0 0 0 0 0))).cells).heap.size = w2.heap.size + 1 := by simp
    exact ⟨⟨hl, by omega, by omega⟩, HOW.out, H2.out.2.grow.trans (RefG.of_below hB), H2.out.1.of_below hB, hrow⟩)
  generalize (w2.alloc (.cells reqZ0.cells 25)).setRow w2.heap.size ((ReqD.mk 0 ⟨#[]⟩ 0 0 0 0 ⟨#[]⟩ ⟨#[]⟩ (PlanD.mk ⟨#[]⟩ 0 0 0 0 0 0 0 0 0))).cells = v0 at *
  generalize hab : w2.heap.size = ab at *
  clear H2 hs2 hab
  have xc0 := T0.out.rd.c2
  rw [show r1.cut = true from HK.out.2] at xc0
  simp only [if_true, if_false, Bool.false_eq_true] at xc0
  have xk0 : v0.cell? ⟨ab, 0, none⟩ = some (.int .i64 0) := T0.out.cells 0 _ rfl
  go_upto_region 5 with (fail)
  clear xc0 xk0
  go_upto_region 35 with (go_at_call 59; refine (rq_text T0.out).mono ?_; generalize hp1 : Rd.str r1 = p1 at *; have HP1 := Lib.hid hp1; clear hp1; rintro e u1 ⟨rfl, S⟩; have xk0 : u1.cell? ⟨ab, 0, none⟩ = some (.int .i64 0) := S.cells 0 _ rfl; have xk1 : u1.cell? ⟨ab, 1, none⟩ = some (.string ⟨#[]⟩) := S.cells 1 _ rfl; have xkf := S.frz 1; have Q1 := Lib.hid S; clear S)
  have T1 : Hid (RqAt W1 (u1.setCell ⟨ab, 1, none⟩ (.string (strB p1.1))) xb ab (.slice a1 zs.length c1) zs p1.2 (ReqD.mk 0 (strB p1.1) 0 0 0 0 ⟨#[]⟩ ⟨#[]⟩ (PlanD.mk ⟨#[]⟩ 0 0 0 0 0 0 0 0 0))) := Lib.hid (Q1.out.set 1 (.string (strB p1.1)) _ (by decide) rfl)
  generalize u1.setCell ⟨ab, 1, none⟩ (.string (strB p1.1)) = v1 at *
  clear xk0 xk1 xkf Q1 T0
  have HRES : Hid (v1.heap[sb]? = some (.cells reqZ0.cells 25 (0, 0)) ∧ Below sb w v1) := Lib.hid (by
    have g := T1.out.grow
    have h1 := HLT.out
    refine ⟨(g.block sb (by omega) (by omega)).trans H1.out.2.2.1, H1.out.2.1.trans ⟨g.os, g.tape, g.output, g.size, fun k hk => g.block k (by omega) (by omega)⟩⟩)
  have HPC : Hid (parseReqC zs = if endE p1.2 = 0 then (((ReqD.mk 0 (strB p1.1) 0 0 0 0 ⟨#[]⟩ ⟨#[]⟩ (PlanD.mk ⟨#[]⟩ 0 0 0 0 0 0 0 0 0))).cells.toList, 0) else (reqZ0.cells.toList, endE p1.2)) := Lib.hid (by
    rw [HPR.out, show ok = 0 from HK.out.1, prKind_eq, if_neg (fun h => by cases HK.out.2.symm.trans h.1), prKey_eq, prNums_eq, prTexts_eq, prMore_eq]
    have E1 : (Rd.str r1) = p1 := HP1.out
    have EN : Rd.ints 0 p1.2 = ([], p1.2) := by simp only [Rd.ints]
    have ET : Rd.strs 0 p1.2 = ([], p1.2) := by simp only [Rd.strs]
    have EM : Rd.ints 0 p1.2 = ([], p1.2) := by simp only [Rd.ints]
    rw [E1, show (numOffs 0).length = 0 from rfl, show (textOffs 0).length = 0 from rfl, show (moreOffs 0).length = 0 from rfl, EN]
    simp only [ET, EM]
    rw [prEnd_end _ _ _ (by decide)]
    rfl)
  by_cases hz : endE p1.2 = 0
  · have HZ : Hid (parseReqC zs = (((ReqD.mk 0 (strB p1.1) 0 0 0 0 ⟨#[]⟩ ⟨#[]⟩ (PlanD.mk ⟨#[]⟩ 0 0 0 0 0 0 0 0 0))).cells.toList, 0)) := Lib.hid (by rw [HPC.out, if_pos hz])
    have HE0 := Lib.hid (rq_end0 T1.out 0 hz)
    go_upto_region 37 with (go_at_call 49; refine HE0.out.mono ?_; rintro ee w5 ⟨rfl, k, rfl⟩)
    go_step
    refine wpList_load_row rfl 25 (.tmp 5) rfl ab rfl 25 ((ReqD.mk 0 (strB p1.1) 0 0 0 0 ⟨#[]⟩ ⟨#[]⟩ (PlanD.mk ⟨#[]⟩ 0 0 0 0 0 0 0 0 0))).cells (0, 0) _ T1.out.row Try.underlying25 rfl (by kernel_rfl) ?_
    refine wpList_store_row rfl 25 (.tmp 2) (.tmp 113) rfl sb ((ReqD.mk 0 (strB p1.1) 0 0 0 0 ⟨#[]⟩ ⟨#[]⟩ (PlanD.mk ⟨#[]⟩ 0 0 0 0 0 0 0 0 0))).cells rfl rfl 25 reqZ0.cells HRES.out.1 (by kernel_rfl) rfl (req_one_cells _) ?_
    go_wp2
    (try simp only [Exit.inBlock, Exit.then])
    rw [HZ.out]
    refine bodyPost_ret (results_cell_row_tmp rfl _ _ sb rfl ((ReqD.mk 0 (strB p1.1) 0 0 0 0 ⟨#[]⟩ ⟨#[]⟩ (PlanD.mk ⟨#[]⟩ 0 0 0 0 0 0 0 0 0))).cells.toList _ (range_setRow HRES.out.1) Try.underlying25 rfl (by kernel_rfl)) rfl ?_
    exact ⟨rfl, by rw [HSB.out]; exact below_setRow (bl_drewN2 HRES.out.2 _) (Nat.le_refl _) _⟩
  · have HZ : Hid (parseReqC zs = (reqZ0.cells.toList, endE p1.2)) := Lib.hid (by rw [HPC.out, if_neg hz])
    have hzb : (endE p1.2 == 0) = false := by simp [hz]
    clear hz
    have HE0 := Lib.hid (rq_end0 T1.out _ rfl)
    have HE := Lib.hid (rq_end1 T1.out _ rfl)
    generalize endE p1.2 = ev at *
    go_upto_region 36 with (go_at_call 49; refine HE0.out.mono ?_; rintro ee w5 ⟨rfl, k, rfl⟩)
    go_wp2_with (first | (go_at_call 49; refine (HE.out _).mono ?_; rintro ee w5 ⟨rfl, k, rfl⟩) | (refine wpList_store_row rfl 25 (.tmp 2) (.tmp 110) rfl sb reqZ0.cells rfl rfl 25 reqZ0.cells HRES.out.1 (by kernel_rfl) rfl (req_one_cells _) ?_))
    (try simp only [Exit.inBlock, Exit.then])
    rw [HZ.out]
    refine bodyPost_ret (results_cell_row_tmp rfl _ _ sb rfl reqZ0.cells.toList _ (range_setRow HRES.out.1) Try.underlying25 rfl (by kernel_rfl)) rfl ?_
    exact ⟨rfl, by rw [HSB.out]; exact below_setRow (bl_drewN2 HRES.out.2 _) (Nat.le_refl _) _⟩
set_option maxHeartbeats 3200000 in
set_option maxRecDepth 100000 in
theorem rq_1 (v : Value) (zs : List UInt8) (w : World) (h : Reads w v zs) (hl : zs.length ≤ 1000000) (hk : (Rd.one ⟨zs, false⟩).1 = 1) (hc : (Rd.one ⟨zs, false⟩).2.cut = false) :
    Calls Try.prog 30 #[v] w (PrPost w (parseReqC zs)) := by
  obtain ⟨a1, c1, rfl⟩ := h.len
  have H := Lib.hid h
  have HK := Lib.hid (And.intro hk hc)
  have HPR : Hid (parseReqC zs = prKind (Rd.one ⟨zs, false⟩).1 (Rd.one ⟨zs, false⟩).2) := Lib.hid (parseReqC_eq zs)
  clear h hk hc
  go_enter Try.func30, Try.ntmps30
  go_upto_region 2 with (fail)
  change Code.wp _ _ _ _ ((w.alloc (.cells reqZ0.cells 25)).alloc (.cells #[.slice a1 zs.length c1, .int .i64 0, .int .i64 0] 96))
  have S : RefAt ((w.alloc (.cells reqZ0.cells 25)).alloc (.cells #[.slice a1 zs.length c1, .int .i64 0, .int .i64 0] 96)) (w.heap.size + 1) (.slice a1 zs.length c1) zs ⟨zs, false⟩ := by
    have hrow := heap_alloc_new (w.alloc (.cells reqZ0.cells 25)) (.cells #[.slice a1 zs.length c1, .int .i64 0, .int .i64 0] 96)
    rw [show (w.alloc (.cells reqZ0.cells 25)).heap.size = w.heap.size + 1 by simp] at hrow
    refine ⟨by simp, hl, (cell_of_row _ _ _ _ _ _ hrow).trans rfl, ⟨0, Nat.zero_le _, (cell_of_row _ _ _ _ _ _ hrow).trans rfl, fun _ => rfl⟩, (cell_of_row _ _ _ _ _ _ hrow).trans rfl, fun o => frozen_of_row _ _ _ _ _ hrow, H.out.below (below_alloc2 _ _ _), fun e => ?_⟩
    have := H.out.own_lt _ e
    omega
  have hB := below_alloc2 w (.cells reqZ0.cells 25) (.cells #[.slice a1 zs.length c1, .int .i64 0, .int .i64 0] 96)
  have res0 : ((w.alloc (.cells reqZ0.cells 25)).alloc (.cells #[.slice a1 zs.length c1, .int .i64 0, .int .i64 0] 96)).heap[w.heap.size]? = some (.cells reqZ0.cells 25 (0, 0)) :=
    ((below_alloc _ _).block _ (by simp)).trans (heap_alloc_new _ _)
  have hsz : ((w.alloc (.cells reqZ0.cells 25)).alloc (.cells #[.slice a1 zs.length c1, .int .i64 0, .int .i64 0] 96)).heap.size = w.heap.size + 2 := by simp
  generalize (w.alloc (.cells reqZ0.cells 25)).alloc (.cells #[.slice a1 zs.length c1, .int .i64 0, .int .i64 0] 96) = W1 at *
  have H1 := Lib.hid (And.intro S (And.intro hB (And.intro res0 hsz)))
  clear S hB res0 hsz
  have HOW : Hid (∀ k, (Value.slice a1 zs.length c1).ownBlock = some k → k < W1.heap.size) := Lib.hid (fun k hk => by have := H.out.own_lt k hk; have := H1.out.2.2.2; omega)
  have hsx : w.heap.size < w.heap.size + 1 := by omega
  have HLT : Hid (w.heap.size + 1 < W1.heap.size) := Lib.hid (by have := H1.out.2.2.2; omega)
  generalize hxb : w.heap.size + 1 = xb at *
  have HXB := Lib.hid hxb
  clear hxb
  generalize hsb : w.heap.size = sb at *
  have HSB := Lib.hid hsb
  clear hsb
  go_upto_region 3 with (first
    | (go_at_call 58; refine (ref_u8 xb _ zs ⟨zs, false⟩ W1 H1.out.1).mono ?_; rintro e w2 ⟨rfl, hr2, hs2⟩; rw [HK.out.1]; have H2 := Lib.hid (And.intro hr2 hs2); clear hr2 hs2)
    | (refine wpList_build_at _ rfl 25 _ rfl ((ReqD.mk 1 ⟨#[]⟩ 0 0 0 0 ⟨#[]⟩ ⟨#[]⟩ (PlanD.mk ⟨#[]⟩ 0 0 0 0 0 0 0 0 0))).cells (by kernel_rfl) ?_)
    | (refine wpList_store_row rfl 25 (.tmp 5) (.tmp 11) rfl w2.heap.size ((ReqD.mk 1 ⟨#[]⟩ 0 0 0 0 ⟨#[]⟩ ⟨#[]⟩ (PlanD.mk ⟨#[]⟩ 0 0 0 0 0 0 0 0 0))).cells rfl rfl 25 reqZ0.cells (heap_alloc_new _ _) (by kernel_rfl) rfl (req_one_cells _) ?_))
  change Code.wp _ _ _ _ ((w2.alloc (.cells reqZ0.cells 25)).setRow w2.heap.size ((ReqD.mk 1 ⟨#[]⟩ 0 0 0 0 ⟨#[]⟩ ⟨#[]⟩ (PlanD.mk ⟨#[]⟩ 0 0 0 0 0 0 0 0 0))).cells)
  generalize hr1 : Rd.one ⟨zs, false⟩ = o1 at *
  have HR1 := Lib.hid hr1
  clear hr1
  obtain ⟨ok, r1⟩ := o1
  have hs2 := H2.out.2.size
  have T0 : Hid (RqAt W1 ((w2.alloc (.cells reqZ0.cells 25)).setRow w2.heap.size ((ReqD.mk 1 ⟨#[]⟩ 0 0 0 0 ⟨#[]⟩ ⟨#[]⟩ (PlanD.mk ⟨#[]⟩ 0 0 0 0 0 0 0 0 0))).cells) xb w2.heap.size (.slice a1 zs.length c1) zs r1 ((ReqD.mk 1 ⟨#[]⟩ 0 0 0 0 ⟨#[]⟩ ⟨#[]⟩ (PlanD.mk ⟨#[]⟩ 0 0 0 0 0 0 0 0 0)))) := Lib.hid (by
    have hrow : ((w2.alloc (.cells reqZ0.cells 25)).setRow w2.heap.size ((ReqD.mk 1 ⟨#[]⟩ 0 0 0 0 ⟨#[]⟩ ⟨#[]⟩ (PlanD.mk ⟨#[]⟩ 0 0 0 0 0 0 0 0 0))).cells).heap[w2.heap.size]? = some (.cells ((ReqD.mk 1 ⟨#[]⟩ 0 0 0 0 ⟨#[]⟩ ⟨#[]⟩ (PlanD.mk ⟨#[]⟩ 0 0 0 0 0 0 0 0 0))).cells 25 (0, 0)) := setRow_heap _ _ _ _ _ _ (heap_alloc_new _ _)
    have hB : Below w2.heap.size w2 ((w2.alloc (.cells reqZ0.cells 25)).setRow w2.heap.size ((ReqD.mk 1 ⟨#[]⟩ 0 0 0 0 ⟨#[]⟩ ⟨#[]⟩ (PlanD.mk ⟨#[]⟩ 0 0 0 0 0 0 0 0 0))).cells) := below_setRow (below_alloc _ _) (Nat.le_refl _) _
    have hl := HLT.out
    have hsr : ((w2.alloc (.cells reqZ0.cells 25)).setRow w2.heap.size ((ReqD.mk 1 ⟨#[]⟩ 0 0 0 0 ⟨#[]⟩ ⟨#[]⟩ (PlanD.mk ⟨#[]⟩ 0 0 0 0 0 0 0 0 0))).cells).heap.size = w2.heap.size + 1 := by simp
    exact ⟨⟨hl, by omega, by omega⟩, HOW.out, H2.out.2.grow.trans (RefG.of_below hB), H2.out.1.of_below hB, hrow⟩)
  generalize (w2.alloc (.cells reqZ0.cells 25)).setRow w2.heap.size ((ReqD.mk 1 ⟨#[]⟩ 0 0 0 0 ⟨#[]⟩ ⟨#[]⟩ (PlanD.mk ⟨#[]⟩ 0 0 0 0 0 0 0 0 0))).cells = v0 at *
  generalize hab : w2.heap.size = ab at *
  clear H2 hs2 hab
  have xc0 := T0.out.rd.c2
  rw [show r1.cut = false from HK.out.2] at xc0
  simp only [if_true, if_false, Bool.false_eq_true] at xc0
  have xk0 : v0.cell? ⟨ab, 0, none⟩ = some (.int .i64 1) := T0.out.cells 0 _ rfl
  go_upto_region 5 with (go_at_call 53; refine (ref_kind 1 _).mono ?_; rintro e w' ⟨rfl, rfl⟩; rw [show kindB 1 = true by decide])
  clear xc0 xk0
  go_upto_region 9 with (go_at_call 59; refine (rq_text T0.out).mono ?_; generalize hp1 : Rd.str r1 = p1 at *; have HP1 := Lib.hid hp1; clear hp1; rintro e u1 ⟨rfl, S⟩; have xk0 : u1.cell? ⟨ab, 0, none⟩ = some (.int .i64 1) := S.cells 0 _ rfl; have xk1 : u1.cell? ⟨ab, 1, none⟩ = some (.string ⟨#[]⟩) := S.cells 1 _ rfl; have xkf := S.frz 1; have Q1 := Lib.hid S; clear S)
  have T1 : Hid (RqAt W1 (u1.setCell ⟨ab, 1, none⟩ (.string (strB p1.1))) xb ab (.slice a1 zs.length c1) zs p1.2 (ReqD.mk 1 (strB p1.1) 0 0 0 0 ⟨#[]⟩ ⟨#[]⟩ (PlanD.mk ⟨#[]⟩ 0 0 0 0 0 0 0 0 0))) := Lib.hid (Q1.out.set 1 (.string (strB p1.1)) _ (by decide) rfl)
  generalize u1.setCell ⟨ab, 1, none⟩ (.string (strB p1.1)) = v1 at *
  clear xk0 xk1 xkf Q1 T0
  go_upto_region 10 with (go_at_call 60; refine (rq_int T1.out).mono ?_; generalize hp2 : Rd.int p1.2 = p2 at *; have HP2 := Lib.hid hp2; clear hp2; rintro e u2 ⟨rfl, S⟩; have xk0 : u2.cell? ⟨ab, 0, none⟩ = some (.int .i64 1) := S.cells 0 _ rfl; have xk1 : u2.cell? ⟨ab, 2, none⟩ = some (.int .i64 0) := S.cells 2 _ rfl; have xkf := S.frz 2; have Q2 := Lib.hid S; clear S)
  have T2 : Hid (RqAt W1 (u2.setCell ⟨ab, 2, none⟩ (.int .i64 p2.1)) xb ab (.slice a1 zs.length c1) zs p2.2 (ReqD.mk 1 (strB p1.1) p2.1 0 0 0 ⟨#[]⟩ ⟨#[]⟩ (PlanD.mk ⟨#[]⟩ 0 0 0 0 0 0 0 0 0))) := Lib.hid (Q2.out.set 2 (.int .i64 p2.1) _ (by decide) rfl)
  generalize u2.setCell ⟨ab, 2, none⟩ (.int .i64 p2.1) = v2 at *
  clear xk0 xk1 xkf Q2 T1
  go_upto_region 11 with (go_at_call 60; refine (rq_int T2.out).mono ?_; generalize hp3 : Rd.int p2.2 = p3 at *; have HP3 := Lib.hid hp3; clear hp3; rintro e u3 ⟨rfl, S⟩; have xk0 : u3.cell? ⟨ab, 0, none⟩ = some (.int .i64 1) := S.cells 0 _ rfl; have xk1 : u3.cell? ⟨ab, 3, none⟩ = some (.int .i64 0) := S.cells 3 _ rfl; have xkf := S.frz 3; have Q3 := Lib.hid S; clear S)
  have T3 : Hid (RqAt W1 (u3.setCell ⟨ab, 3, none⟩ (.int .i64 p3.1)) xb ab (.slice a1 zs.length c1) zs p3.2 (ReqD.mk 1 (strB p1.1) p2.1 p3.1 0 0 ⟨#[]⟩ ⟨#[]⟩ (PlanD.mk ⟨#[]⟩ 0 0 0 0 0 0 0 0 0))) := Lib.hid (Q3.out.set 3 (.int .i64 p3.1) _ (by decide) rfl)
  generalize u3.setCell ⟨ab, 3, none⟩ (.int .i64 p3.1) = v3 at *
  clear xk0 xk1 xkf Q3 T2
  go_upto_region 35 with (go_at_call 60; refine (rq_int T3.out).mono ?_; generalize hp4 : Rd.int p3.2 = p4 at *; have HP4 := Lib.hid hp4; clear hp4; rintro e u4 ⟨rfl, S⟩; have xk0 : u4.cell? ⟨ab, 0, none⟩ = some (.int .i64 1) := S.cells 0 _ rfl; have xk1 : u4.cell? ⟨ab, 4, none⟩ = some (.int .i64 0) := S.cells 4 _ rfl; have xkf := S.frz 4; have Q4 := Lib.hid S; clear S)
  have T4 : Hid (RqAt W1 (u4.setCell ⟨ab, 4, none⟩ (.int .i64 p4.1)) xb ab (.slice a1 zs.length c1) zs p4.2 (ReqD.mk 1 (strB p1.1) p2.1 p3.1 p4.1 0 ⟨#[]⟩ ⟨#[]⟩ (PlanD.mk ⟨#[]⟩ 0 0 0 0 0 0 0 0 0))) := Lib.hid (Q4.out.set 4 (.int .i64 p4.1) _ (by decide) rfl)
  generalize u4.setCell ⟨ab, 4, none⟩ (.int .i64 p4.1) = v4 at *
  clear xk0 xk1 xkf Q4 T3
  have HRES : Hid (v4.heap[sb]? = some (.cells reqZ0.cells 25 (0, 0)) ∧ Below sb w v4) := Lib.hid (by
    have g := T4.out.grow
    have h1 := HLT.out
    refine ⟨(g.block sb (by omega) (by omega)).trans H1.out.2.2.1, H1.out.2.1.trans ⟨g.os, g.tape, g.output, g.size, fun k hk => g.block k (by omega) (by omega)⟩⟩)
  have HPC : Hid (parseReqC zs = if endE p4.2 = 0 then (((ReqD.mk 1 (strB p1.1) p2.1 p3.1 p4.1 0 ⟨#[]⟩ ⟨#[]⟩ (PlanD.mk ⟨#[]⟩ 0 0 0 0 0 0 0 0 0))).cells.toList, 0) else (reqZ0.cells.toList, endE p4.2)) := Lib.hid (by
    rw [HPR.out, show ok = 1 from HK.out.1, prKind_eq, if_neg (fun h => absurd (show kindB 1 = false from h.2) (by decide)), prKey_eq, prNums_eq, prTexts_eq, prMore_eq]
    have E1 : (Rd.str r1) = p1 := HP1.out
    have EN : Rd.ints 3 p1.2 = ([p2.1, p3.1, p4.1], p4.2) := by simp only [Rd.ints, HP2.out, HP3.out, HP4.out]
    have ET : Rd.strs 0 p4.2 = ([], p4.2) := by simp only [Rd.strs]
    have EM : Rd.ints 0 p4.2 = ([], p4.2) := by simp only [Rd.ints]
    rw [E1, show (numOffs 1).length = 3 from rfl, show (textOffs 1).length = 0 from rfl, show (moreOffs 1).length = 0 from rfl, EN]
    simp only [ET, EM]
    rw [prEnd_end _ _ _ (by decide)]
    rfl)
  by_cases hz : endE p4.2 = 0
  · have HZ : Hid (parseReqC zs = (((ReqD.mk 1 (strB p1.1) p2.1 p3.1 p4.1 0 ⟨#[]⟩ ⟨#[]⟩ (PlanD.mk ⟨#[]⟩ 0 0 0 0 0 0 0 0 0))).cells.toList, 0)) := Lib.hid (by rw [HPC.out, if_pos hz])
    have HE0 := Lib.hid (rq_end0 T4.out 0 hz)
    go_upto_region 37 with (go_at_call 49; refine HE0.out.mono ?_; rintro ee w5 ⟨rfl, k, rfl⟩)
    go_step
    refine wpList_load_row rfl 25 (.tmp 5) rfl ab rfl 25 ((ReqD.mk 1 (strB p1.1) p2.1 p3.1 p4.1 0 ⟨#[]⟩ ⟨#[]⟩ (PlanD.mk ⟨#[]⟩ 0 0 0 0 0 0 0 0 0))).cells (0, 0) _ T4.out.row Try.underlying25 rfl (by kernel_rfl) ?_
    refine wpList_store_row rfl 25 (.tmp 2) (.tmp 113) rfl sb ((ReqD.mk 1 (strB p1.1) p2.1 p3.1 p4.1 0 ⟨#[]⟩ ⟨#[]⟩ (PlanD.mk ⟨#[]⟩ 0 0 0 0 0 0 0 0 0))).cells rfl rfl 25 reqZ0.cells HRES.out.1 (by kernel_rfl) rfl (req_one_cells _) ?_
    go_wp2
    (try simp only [Exit.inBlock, Exit.then])
    rw [HZ.out]
    refine bodyPost_ret (results_cell_row_tmp rfl _ _ sb rfl ((ReqD.mk 1 (strB p1.1) p2.1 p3.1 p4.1 0 ⟨#[]⟩ ⟨#[]⟩ (PlanD.mk ⟨#[]⟩ 0 0 0 0 0 0 0 0 0))).cells.toList _ (range_setRow HRES.out.1) Try.underlying25 rfl (by kernel_rfl)) rfl ?_
    exact ⟨rfl, by rw [HSB.out]; exact below_setRow (bl_drewN2 HRES.out.2 _) (Nat.le_refl _) _⟩
  · have HZ : Hid (parseReqC zs = (reqZ0.cells.toList, endE p4.2)) := Lib.hid (by rw [HPC.out, if_neg hz])
    have hzb : (endE p4.2 == 0) = false := by simp [hz]
    clear hz
    have HE0 := Lib.hid (rq_end0 T4.out _ rfl)
    have HE := Lib.hid (rq_end1 T4.out _ rfl)
    generalize endE p4.2 = ev at *
    go_upto_region 36 with (go_at_call 49; refine HE0.out.mono ?_; rintro ee w5 ⟨rfl, k, rfl⟩)
    go_wp2_with (first | (go_at_call 49; refine (HE.out _).mono ?_; rintro ee w5 ⟨rfl, k, rfl⟩) | (refine wpList_store_row rfl 25 (.tmp 2) (.tmp 110) rfl sb reqZ0.cells rfl rfl 25 reqZ0.cells HRES.out.1 (by kernel_rfl) rfl (req_one_cells _) ?_))
    (try simp only [Exit.inBlock, Exit.then])
    rw [HZ.out]
    refine bodyPost_ret (results_cell_row_tmp rfl _ _ sb rfl reqZ0.cells.toList _ (range_setRow HRES.out.1) Try.underlying25 rfl (by kernel_rfl)) rfl ?_
    exact ⟨rfl, by rw [HSB.out]; exact below_setRow (bl_drewN2 HRES.out.2 _) (Nat.le_refl _) _⟩
set_option maxHeartbeats 3200000 in
set_option maxRecDepth 100000 in
theorem rq_2 (v : Value) (zs : List UInt8) (w : World) (h : Reads w v zs) (hl : zs.length ≤ 1000000) (hk : (Rd.one ⟨zs, false⟩).1 = 2) (hc : (Rd.one ⟨zs, false⟩).2.cut = false) :
    Calls Try.prog 30 #[v] w (PrPost w (parseReqC zs)) := by
  obtain ⟨a1, c1, rfl⟩ := h.len
  have H := Lib.hid h
  have HK := Lib.hid (And.intro hk hc)
  have HPR : Hid (parseReqC zs = prKind (Rd.one ⟨zs, false⟩).1 (Rd.one ⟨zs, false⟩).2) := Lib.hid (parseReqC_eq zs)
  clear h hk hc
  go_enter Try.func30, Try.ntmps30
  go_upto_region 2 with (fail)
  change Code.wp _ _ _ _ ((w.alloc (.cells reqZ0.cells 25)).alloc (.cells #[.slice a1 zs.length c1, .int .i64 0, .int .i64 0] 96))
  have S : RefAt ((w.alloc (.cells reqZ0.cells 25)).alloc (.cells #[.slice a1 zs.length c1, .int .i64 0, .int .i64 0] 96)) (w.heap.size + 1) (.slice a1 zs.length c1) zs ⟨zs, false⟩ := by
    have hrow := heap_alloc_new (w.alloc (.cells reqZ0.cells 25)) (.cells #[.slice a1 zs.length c1, .int .i64 0, .int .i64 0] 96)
    rw [show (w.alloc (.cells reqZ0.cells 25)).heap.size = w.heap.size + 1 by simp] at hrow
    refine ⟨by simp, hl, (cell_of_row _ _ _ _ _ _ hrow).trans rfl, ⟨0, Nat.zero_le _, (cell_of_row _ _ _ _ _ _ hrow).trans rfl, fun _ => rfl⟩, (cell_of_row _ _ _ _ _ _ hrow).trans rfl, fun o => frozen_of_row _ _ _ _ _ hrow, H.out.below (below_alloc2 _ _ _), fun e => ?_⟩
    have := H.out.own_lt _ e
    omega
  have hB := below_alloc2 w (.cells reqZ0.cells 25) (.cells #[.slice a1 zs.length c1, .int .i64 0, .int .i64 0] 96)
  have res0 : ((w.alloc (.cells reqZ0.cells 25)).alloc (.cells #[.slice a1 zs.length c1, .int .i64 0, .int .i64 0] 96)).heap[w.heap.size]? = some (.cells reqZ0.cells 25 (0, 0)) :=
    ((below_alloc _ _).block _ (by simp)).trans (heap_alloc_new _ _)
  have hsz : ((w.alloc (.cells reqZ0.cells 25)).alloc (.cells #[.slice a1 zs.length c1, .int .i64 0, .int .i64 0] 96)).heap.size = w.heap.size + 2 := by simp
  generalize (w.alloc (.cells reqZ0.cells 25)).alloc (.cells #[.slice a1 zs.length c1, .int .i64 0, .int .i64 0] 96) = W1 at *
  have H1 := Lib.hid (And.intro S (And.intro hB (And.intro res0 hsz)))
  clear S hB res0 hsz
  have HOW : Hid (∀ k, (Value.slice a1 zs.length c1).ownBlock = some k → k < W1.heap.size) := Lib.hid (fun k hk => by have := H.out.own_lt k hk; have := H1.out.2.2.2; omega)
  have hsx : w.heap.size < w.heap.size + 1 := by omega
  have HLT : Hid (w.heap.size + 1 < W1.heap.size) := Lib.hid (by have := H1.out.2.2.2; omega)
  generalize hxb : w.heap.size + 1 = xb at *
  have HXB := Lib.hid hxb
  clear hxb
  generalize hsb : w.heap.size = sb at *
  have HSB := Lib.hid hsb
  clear hsb
  go_upto_region 3 with (first
    | (go_at_call 58; refine (ref_u8 xb _ zs ⟨zs, false⟩ W1 H1.out.1).mono ?_; rintro e w2 ⟨rfl, hr2, hs2⟩; rw [HK.out.1]; have H2 := Lib.hid (And.intro hr2 hs2); clear hr2 hs2)
    | (refine wpList_build_at _ rfl 25 _ rfl ((ReqD.mk 2 ⟨#[]⟩ 0 0 0 0 ⟨#[]⟩ ⟨#[]⟩ (PlanD.mk ⟨#[]⟩ 0 0 0 0 0 0 0 0 0))).cells (by kernel_rfl) ?_)
    | (refine wpList_store_row rfl 25 (.tmp 5) (.tmp 11) rfl w2.heap.size ((ReqD.mk 2 ⟨#[]⟩ 0 0 0 0 ⟨#[]⟩ ⟨#[]⟩ (PlanD.mk ⟨#[]⟩ 0 0 0 0 0 0 0 0 0))).cells rfl rfl 25 reqZ0.cells (heap_alloc_new _ _) (by kernel_rfl) rfl (req_one_cells _) ?_))
  change Code.wp _ _ _ _ ((w2.alloc (.cells reqZ0.cells 25)).setRow w2.heap.size ((ReqD.mk 2 ⟨#[]⟩ 0 0 0 0 ⟨#[]⟩ ⟨#[]⟩ (PlanD.mk ⟨#[]⟩ 0 0 0 0 0 0 0 0 0))).cells)
  generalize hr1 : Rd.one ⟨zs, false⟩ = o1 at *
  have HR1 := Lib.hid hr1
  clear hr1
  obtain ⟨ok, r1⟩ := o1
  have hs2 := H2.out.2.size
  have T0 : Hid (RqAt W1 ((w2.alloc (.cells reqZ0.cells 25)).setRow w2.heap.size ((ReqD.mk 2 ⟨#[]⟩ 0 0 0 0 ⟨#[]⟩ ⟨#[]⟩ (PlanD.mk ⟨#[]⟩ 0 0 0 0 0 0 0 0 0))).cells) xb w2.heap.size (.slice a1 zs.length c1) zs r1 ((ReqD.mk 2 ⟨#[]⟩ 0 0 0 0 ⟨#[]⟩ ⟨#[]⟩ (PlanD.mk ⟨#[]⟩ 0 0 0 0 0 0 0 0 0)))) := Lib.hid (by
    have hrow : ((w2.alloc (.cells reqZ0.cells 25)).setRow w2.heap.size ((ReqD.mk 2 ⟨#[]⟩ 0 0 0 0 ⟨#[]⟩ ⟨#[]⟩ (PlanD.mk ⟨#[]⟩ 0 0 0 0 0 0 0 0 0))).cells).heap[w2.heap.size]? = some (.cells ((ReqD.mk 2 ⟨#[]⟩ 0 0 0 0 ⟨#[]⟩ ⟨#[]⟩ (PlanD.mk ⟨#[]⟩ 0 0 0 0 0 0 0 0 0))).cells 25 (0, 0)) := setRow_heap _ _ _ _ _ _ (heap_alloc_new _ _)
    have hB : Below w2.heap.size w2 ((w2.alloc (.cells reqZ0.cells 25)).setRow w2.heap.size ((ReqD.mk 2 ⟨#[]⟩ 0 0 0 0 ⟨#[]⟩ ⟨#[]⟩ (PlanD.mk ⟨#[]⟩ 0 0 0 0 0 0 0 0 0))).cells) := below_setRow (below_alloc _ _) (Nat.le_refl _) _
    have hl := HLT.out
    have hsr : ((w2.alloc (.cells reqZ0.cells 25)).setRow w2.heap.size ((ReqD.mk 2 ⟨#[]⟩ 0 0 0 0 ⟨#[]⟩ ⟨#[]⟩ (PlanD.mk ⟨#[]⟩ 0 0 0 0 0 0 0 0 0))).cells).heap.size = w2.heap.size + 1 := by simp
    exact ⟨⟨hl, by omega, by omega⟩, HOW.out, H2.out.2.grow.trans (RefG.of_below hB), H2.out.1.of_below hB, hrow⟩)
  generalize (w2.alloc (.cells reqZ0.cells 25)).setRow w2.heap.size ((ReqD.mk 2 ⟨#[]⟩ 0 0 0 0 ⟨#[]⟩ ⟨#[]⟩ (PlanD.mk ⟨#[]⟩ 0 0 0 0 0 0 0 0 0))).cells = v0 at *
  generalize hab : w2.heap.size = ab at *
  clear H2 hs2 hab
  have xc0 := T0.out.rd.c2
  rw [show r1.cut = false from HK.out.2] at xc0
  simp only [if_true, if_false, Bool.false_eq_true] at xc0
  have xk0 : v0.cell? ⟨ab, 0, none⟩ = some (.int .i64 2) := T0.out.cells 0 _ rfl
  go_upto_region 5 with (go_at_call 53; refine (ref_kind 2 _).mono ?_; rintro e w' ⟨rfl, rfl⟩; rw [show kindB 2 = true by decide])
  clear xc0 xk0
  go_upto_region 13 with (go_at_call 59; refine (rq_text T0.out).mono ?_; generalize hp1 : Rd.str r1 = p1 at *; have HP1 := Lib.hid hp1; clear hp1; rintro e u1 ⟨rfl, S⟩; have xk0 : u1.cell? ⟨ab, 0, none⟩ = some (.int .i64 2) := S.cells 0 _ rfl; have xk1 : u1.cell? ⟨ab, 1, none⟩ = some (.string ⟨#[]⟩) := S.cells 1 _ rfl; have xkf := S.frz 1; have Q1 := Lib.hid S; clear S)
  have T1 : Hid (RqAt W1 (u1.setCell ⟨ab, 1, none⟩ (.string (strB p1.1))) xb ab (.slice a1 zs.length c1) zs p1.2 (ReqD.mk 2 (strB p1.1) 0 0 0 0 ⟨#[]⟩ ⟨#[]⟩ (PlanD.mk ⟨#[]⟩ 0 0 0 0 0 0 0 0 0))) := Lib.hid (Q1.out.set 1 (.string (strB p1.1)) _ (by decide) rfl)
  generalize u1.setCell ⟨ab, 1, none⟩ (.string (strB p1.1)) = v1 at *
  clear xk0 xk1 xkf Q1 T0
  go_upto_region 14 with (go_at_call 60; refine (rq_int T1.out).mono ?_; generalize hp2 : Rd.int p1.2 = p2 at *; have HP2 := Lib.hid hp2; clear hp2; rintro e u2 ⟨rfl, S⟩; have xk0 : u2.cell? ⟨ab, 0, none⟩ = some (.int .i64 2) := S.cells 0 _ rfl; have xk1 : u2.cell? ⟨ab, 2, none⟩ = some (.int .i64 0) := S.cells 2 _ rfl; have xkf := S.frz 2; have Q2 := Lib.hid S; clear S)
  have T2 : Hid (RqAt W1 (u2.setCell ⟨ab, 2, none⟩ (.int .i64 p2.1)) xb ab (.slice a1 zs.length c1) zs p2.2 (ReqD.mk 2 (strB p1.1) p2.1 0 0 0 ⟨#[]⟩ ⟨#[]⟩ (PlanD.mk ⟨#[]⟩ 0 0 0 0 0 0 0 0 0))) := Lib.hid (Q2.out.set 2 (.int .i64 p2.1) _ (by decide) rfl)
  generalize u2.setCell ⟨ab, 2, none⟩ (.int .i64 p2.1) = v2 at *
  clear xk0 xk1 xkf Q2 T1
  go_upto_region 15 with (go_at_call 60; refine (rq_int T2.out).mono ?_; generalize hp3 : Rd.int p2.2 = p3 at *; have HP3 := Lib.hid hp3; clear hp3; rintro e u3 ⟨rfl, S⟩; have xk0 : u3.cell? ⟨ab, 0, none⟩ = some (.int .i64 2) := S.cells 0 _ rfl; have xk1 : u3.cell? ⟨ab, 5, none⟩ = some (.int .i64 0) := S.cells 5 _ rfl; have xkf := S.frz 5; have Q3 := Lib.hid S; clear S)
  have T3 : Hid (RqAt W1 (u3.setCell ⟨ab, 5, none⟩ (.int .i64 p3.1)) xb ab (.slice a1 zs.length c1) zs p3.2 (ReqD.mk 2 (strB p1.1) p2.1 0 0 p3.1 ⟨#[]⟩ ⟨#[]⟩ (PlanD.mk ⟨#[]⟩ 0 0 0 0 0 0 0 0 0))) := Lib.hid (Q3.out.set 5 (.int .i64 p3.1) _ (by decide) rfl)
  generalize u3.setCell ⟨ab, 5, none⟩ (.int .i64 p3.1) = v3 at *
  clear xk0 xk1 xkf Q3 T2
  go_upto_region 35 with (go_at_call 60; refine (rq_int T3.out).mono ?_; generalize hp4 : Rd.int p3.2 = p4 at *; have HP4 := Lib.hid hp4; clear hp4; rintro e u4 ⟨rfl, S⟩; have xk0 : u4.cell? ⟨ab, 0, none⟩ = some (.int .i64 2) := S.cells 0 _ rfl; have xk1 : u4.cell? ⟨ab, 3, none⟩ = some (.int .i64 0) := S.cells 3 _ rfl; have xkf := S.frz 3; have Q4 := Lib.hid S; clear S)
  have T4 : Hid (RqAt W1 (u4.setCell ⟨ab, 3, none⟩ (.int .i64 p4.1)) xb ab (.slice a1 zs.length c1) zs p4.2 (ReqD.mk 2 (strB p1.1) p2.1 p4.1 0 p3.1 ⟨#[]⟩ ⟨#[]⟩ (PlanD.mk ⟨#[]⟩ 0 0 0 0 0 0 0 0 0))) := Lib.hid (Q4.out.set 3 (.int .i64 p4.1) _ (by decide) rfl)
  generalize u4.setCell ⟨ab, 3, none⟩ (.int .i64 p4.1) = v4 at *
  clear xk0 xk1 xkf Q4 T3
  have HRES : Hid (v4.heap[sb]? = some (.cells reqZ0.cells 25 (0, 0)) ∧ Below sb w v4) := Lib.hid (by
    have g := T4.out.grow
    have h1 := HLT.out
    refine ⟨(g.block sb (by omega) (by omega)).trans H1.out.2.2.1, H1.out.2.1.trans ⟨g.os, g.tape, g.output, g.size, fun k hk => g.block k (by omega) (by omega)⟩⟩)
  have HPC : Hid (parseReqC zs = if endE p4.2 = 0 then (((ReqD.mk 2 (strB p1.1) p2.1 p4.1 0 p3.1 ⟨#[]⟩ ⟨#[]⟩ (PlanD.mk ⟨#[]⟩ 0 0 0 0 0 0 0 0 0))).cells.toList, 0) else (reqZ0.cells.toList, endE p4.2)) := Lib.hid (by
    rw [HPR.out, show ok = 2 from HK.out.1, prKind_eq, if_neg (fun h => absurd (show kindB 2 = false from h.2) (by decide)), prKey_eq, prNums_eq, prTexts_eq, prMore_eq]
    have E1 : (Rd.str r1) = p1 := HP1.out
    have EN : Rd.ints 3 p1.2 = ([p2.1, p3.1, p4.1], p4.2) := by simp only [Rd.ints, HP2.out, HP3.out, HP4.out]
    have ET : Rd.strs 0 p4.2 = ([], p4.2) := by simp only [Rd.strs]
    have EM : Rd.ints 0 p4.2 = ([], p4.2) := by simp only [Rd.ints]
    rw [E1, show (numOffs 2).length = 3 from rfl, show (textOffs 2).length = 0 from rfl, show (moreOffs 2).length = 0 from rfl, EN]
    simp only [ET, EM]
    rw [prEnd_end _ _ _ (by decide)]
    rfl)
  by_cases hz : endE p4.2 = 0
  · have HZ : Hid (parseReqC zs = (((ReqD.mk 2 (strB p1.1) p2.1 p4.1 0 p3.1 ⟨#[]⟩ ⟨#[]⟩ (PlanD.mk ⟨#[]⟩ 0 0 0 0 0 0 0 0 0))).cells.toList, 0)) := Lib.hid (by rw [HPC.out, if_pos hz])
    have HE0 := Lib.hid (rq_end0 T4.out 0 hz)
    go_upto_region 37 with (go_at_call 49; refine HE0.out.mono ?_; rintro ee w5 ⟨rfl, k, rfl⟩)
    go_step
    refine wpList_load_row rfl 25 (.tmp 5) rfl ab rfl 25 ((ReqD.mk 2 (strB p1.1) p2.1 p4.1 0 p3.1 ⟨#[]⟩ ⟨#[]⟩ (PlanD.mk ⟨#[]⟩ 0 0 0 0 0 0 0 0 0))).cells (0, 0) _ T4.out.row Try.underlying25 rfl (by kernel_rfl) ?_
    refine wpList_store_row rfl 25 (.tmp 2) (.tmp 113) rfl sb ((ReqD.mk 2 (strB p1.1) p2.1 p4.1 0 p3.1 ⟨#[]⟩ ⟨#[]⟩ (PlanD.mk ⟨#[]⟩ 0 0 0 0 0 0 0 0 0))).cells rfl rfl 25 reqZ0.cells HRES.out.1 (by kernel_rfl) rfl (req_one_cells _) ?_
    go_wp2
    (try simp only [Exit.inBlock, Exit.then])
    rw [HZ.out]
    refine bodyPost_ret (results_cell_row_tmp rfl _ _ sb rfl ((ReqD.mk 2 (strB p1.1) p2.1 p4.1 0 p3.1 ⟨#[]⟩ ⟨#[]⟩ (PlanD.mk ⟨#[]⟩ 0 0 0 0 0 0 0 0 0))).cells.toList _ (range_setRow HRES.out.1) Try.underlying25 rfl (by kernel_rfl)) rfl ?_
    exact ⟨rfl, by rw [HSB.out]; exact below_setRow (bl_drewN2 HRES.out.2 _) (Nat.le_refl _) _⟩
  · have HZ : Hid (parseReqC zs = (reqZ0.cells.toList, endE p4.2)) := Lib.hid (by rw [HPC.out, if_neg hz])
    have hzb : (endE p4.2 == 0) = false := by simp [hz]
    clear hz
    have HE0 := Lib.hid (rq_end0 T4.out _ rfl)
    have HE := Lib.hid (rq_end1 T4.out _ rfl)
    generalize endE p4.2 = ev at *
    go_upto_region 36 with (go_at_call 49; refine HE0.out.mono ?_; rintro ee w5 ⟨rfl, k, rfl⟩)
    go_wp2_with (first | (go_at_call 49; refine (HE.out _).mono ?_; rintro ee w5 ⟨rfl, k, rfl⟩) | (refine wpList_store_row rfl 25 (.tmp 2) (.tmp 110) rfl sb reqZ0.cells rfl rfl 25 reqZ0.cells HRES.out.1 (by kernel_rfl) rfl (req_one_cells _) ?_))
    (try simp only [Exit.inBlock, Exit.then])
    rw [HZ.out]
    refine bodyPost_ret (results_cell_row_tmp rfl _ _ sb rfl reqZ0.cells.toList _ (range_setRow HRES.out.1) Try.underlying25 rfl (by kernel_rfl)) rfl ?_
    exact ⟨rfl, by rw [HSB.out]; exact below_setRow (bl_drewN2 HRES.out.2 _) (Nat.le_refl _) _⟩
set_option maxHeartbeats 3200000 in
set_option maxRecDepth 100000 in
theorem rq_3 (v : Value) (zs : List UInt8) (w : World) (h : Reads w v zs) (hl : zs.length ≤ 1000000) (hk : (Rd.one ⟨zs, false⟩).1 = 3) (hc : (Rd.one ⟨zs, false⟩).2.cut = false) :
    Calls Try.prog 30 #[v] w (PrPost w (parseReqC zs)) := by
  obtain ⟨a1, c1, rfl⟩ := h.len
  have H := Lib.hid h
  have HK := Lib.hid (And.intro hk hc)
  have HPR : Hid (parseReqC zs = prKind (Rd.one ⟨zs, false⟩).1 (Rd.one ⟨zs, false⟩).2) := Lib.hid (parseReqC_eq zs)
  clear h hk hc
  go_enter Try.func30, Try.ntmps30
  go_upto_region 2 with (fail)
  change Code.wp _ _ _ _ ((w.alloc (.cells reqZ0.cells 25)).alloc (.cells #[.slice a1 zs.length c1, .int .i64 0, .int .i64 0] 96))
  have S : RefAt ((w.alloc (.cells reqZ0.cells 25)).alloc (.cells #[.slice a1 zs.length c1, .int .i64 0, .int .i64 0] 96)) (w.heap.size + 1) (.slice a1 zs.length c1) zs ⟨zs, false⟩ := by
    have hrow := heap_alloc_new (w.alloc (.cells reqZ0.cells 25)) (.cells #[.slice a1 zs.length c1, .int .i64 0, .int .i64 0] 96)
    rw [show (w.alloc (.cells reqZ0.cells 25)).heap.size = w.heap.size + 1 by simp] at hrow
    refine ⟨by simp, hl, (cell_of_row _ _ _ _ _ _ hrow).trans rfl, ⟨0, Nat.zero_le _, (cell_of_row _ _ _ _ _ _ hrow).trans rfl, fun _ => rfl⟩, (cell_of_row _ _ _ _ _ _ hrow).trans rfl, fun o => frozen_of_row _ _ _ _ _ hrow, H.out.below (below_alloc2 _ _ _), fun e => ?_⟩
    have := H.out.own_lt _ e
    omega
  have hB := below_alloc2 w (.cells reqZ0.cells 25) (.cells #[.slice a1 zs.length c1, .int .i64 0, .int .i64 0] 96)
  have res0 : ((w.alloc (.cells reqZ0.cells 25)).alloc (.cells #[.slice a1 zs.length c1, .int .i64 0, .int .i64 0] 96)).heap[w.heap.size]? = some (.cells reqZ0.cells 25 (0, 0)) :=
    ((below_alloc _ _).block _ (by simp)).trans (heap_alloc_new _ _)
  have hsz : ((w.alloc (.cells reqZ0.cells 25)).alloc (.cells #[.slice a1 zs.length c1, .int .i64 0, .int .i64 0] 96)).heap.size = w.heap.size + 2 := by simp
  generalize (w.alloc (.cells reqZ0.cells 25)).alloc (.cells #[.slice a1 zs.length c1, .int .i64 0, .int .i64 0] 96) = W1 at *
  have H1 := Lib.hid (And.intro S (And.intro hB (And.intro res0 hsz)))
  clear S hB res0 hsz
  have HOW : Hid (∀ k, (Value.slice a1 zs.length c1).ownBlock = some k → k < W1.heap.size) := Lib.hid (fun k hk => by have := H.out.own_lt k hk; have := H1.out.2.2.2; omega)
  have hsx : w.heap.size < w.heap.size + 1 := by omega
  have HLT : Hid (w.heap.size + 1 < W1.heap.size) := Lib.hid (by have := H1.out.2.2.2; omega)
  generalize hxb : w.heap.size + 1 = xb at *
  have HXB := Lib.hid hxb
  clear hxb
  generalize hsb : w.heap.size = sb at *
  have HSB := Lib.hid hsb
  clear hsb
  go_upto_region 3 with (first
    | (go_at_call 58; refine (ref_u8 xb _ zs ⟨zs, false⟩ W1 H1.out.1).mono ?_; rintro e w2 ⟨rfl, hr2, hs2⟩; rw [HK.out.1]; have H2 := Lib.hid (And.intro hr2 hs2); clear hr2 hs2)
    | (refine wpList_build_at _ rfl 25 _ rfl ((ReqD.mk 3 ⟨#[]⟩ 0 0 0 0 ⟨#[]⟩ ⟨#[]⟩ (PlanD.mk ⟨#[]⟩ 0 0 0 0 0 0 0 0 0))).cells (by kernel_rfl) ?_)
    | (refine wpList_store_row rfl 25 (.tmp 5) (.tmp 11) rfl w2.heap.size ((ReqD.mk 3 ⟨#[]⟩ 0 0 0 0 ⟨#[]⟩ ⟨#[]⟩ (PlanD.mk ⟨#[]⟩ 0 0 0 0 0 0 0 0 0))).cells rfl rfl 25 reqZ0.cells (heap_alloc_new _ _) (by kernel_rfl) rfl (req_one_cells _) ?_))
  change Code.wp _ _ _ _ ((w2.alloc (.cells reqZ0.cells 25)).setRow w2.heap.size ((ReqD.mk 3 ⟨#[]⟩ 0 0 0 0 ⟨#[]⟩ ⟨#[]⟩ (PlanD.mk ⟨#[]⟩ 0 0 0 0 0 0 0 0 0))).cells)
  generalize hr1 : Rd.one ⟨zs, false⟩ = o1 at *
  have HR1 := Lib.hid hr1
  clear hr1
  obtain ⟨ok, r1⟩ := o1
  have hs2 := H2.out.2.size
  have T0 : Hid (RqAt W1 ((w2.alloc (.cells reqZ0.cells 25)).setRow w2.heap.size ((ReqD.mk 3 ⟨#[]⟩ 0 0 0 0 ⟨#[]⟩ ⟨#[]⟩ (PlanD.mk ⟨#[]⟩ 0 0 0 0 0 0 0 0 0))).cells) xb w2.heap.size (.slice a1 zs.length c1) zs r1 ((ReqD.mk 3 ⟨#[]⟩ 0 0 0 0 ⟨#[]⟩ ⟨#[]⟩ (PlanD.mk ⟨#[]⟩ 0 0 0 0 0 0 0 0 0)))) := Lib.hid (by
    have hrow : ((w2.alloc (.cells reqZ0.cells 25)).setRow w2.heap.size ((ReqD.mk 3 ⟨#[]⟩ 0 0 0 0 ⟨#[]⟩ ⟨#[]⟩ (PlanD.mk ⟨#[]⟩ 0 0 0 0 0 0 0 0 0))).cells).heap[w2.heap.size]? = some (.cells ((ReqD.mk 3 ⟨#[]⟩ 0 0 0 0 ⟨#[]⟩ ⟨#[]⟩ (PlanD.mk ⟨#[]⟩ 0 0 0 0 0 0 0 0 0))).cells 25 (0, 0)) := setRow_heap _ _ _ _ _ _ (heap_alloc_new _ _)
    have hB : Below w2.heap.size w2 ((w2.alloc (.cells reqZ0.cells 25)).setRow w2.heap.size ((ReqD.mk 3 ⟨#[]⟩ 0 0 0 0 ⟨#[]⟩ ⟨#[]⟩ (PlanD.mk ⟨#[]⟩ 0 0 0 0 0 0 0 0 0))).cells) := below_setRow (below_alloc _ _) (Nat.le_refl _) _
    have hl := HLT.out
    have hsr : ((w2.alloc (.cells reqZ0.cells 25)).setRow w2.heap.size ((ReqD.mk 3 ⟨#[]⟩ 0 0 0 0 ⟨#[]⟩ ⟨#[]⟩ (PlanD.mk ⟨#[]⟩ 0 0 0 0 0 0 0 0 0))).cells).heap.size = w2.heap.size + 1 := by simp
    exact ⟨⟨hl, by omega, by omega⟩, HOW.out, H2.out.2.grow.trans (RefG.of_below hB), H2.out.1.of_below hB, hrow⟩)
  generalize (w2.alloc (.cells reqZ0.cells 25)).setRow w2.heap.size ((ReqD.mk 3 ⟨#[]⟩ 0 0 0 0 ⟨#[]⟩ ⟨#[]⟩ (PlanD.mk ⟨#[]⟩ 0 0 0 0 0 0 0 0 0))).cells = v0 at *
  generalize hab : w2.heap.size = ab at *
  clear H2 hs2 hab
  have xc0 := T0.out.rd.c2
  rw [show r1.cut = false from HK.out.2] at xc0
  simp only [if_true, if_false, Bool.false_eq_true] at xc0
  have xk0 : v0.cell? ⟨ab, 0, none⟩ = some (.int .i64 3) := T0.out.cells 0 _ rfl
  go_upto_region 5 with (go_at_call 53; refine (ref_kind 3 _).mono ?_; rintro e w' ⟨rfl, rfl⟩; rw [show kindB 3 = true by decide])
  clear xc0 xk0
  go_upto_region 17 with (go_at_call 59; refine (rq_text T0.out).mono ?_; generalize hp1 : Rd.str r1 = p1 at *; have HP1 := Lib.hid hp1; clear hp1; rintro e u1 ⟨rfl, S⟩; have xk0 : u1.cell? ⟨ab, 0, none⟩ = some (.int .i64 3) := S.cells 0 _ rfl; have xk1 : u1.cell? ⟨ab, 1, none⟩ = some (.string ⟨#[]⟩) := S.cells 1 _ rfl; have xkf := S.frz 1; have Q1 := Lib.hid S; clear S)
  have T1 : Hid (RqAt W1 (u1.setCell ⟨ab, 1, none⟩ (.string (strB p1.1))) xb ab (.slice a1 zs.length c1) zs p1.2 (ReqD.mk 3 (strB p1.1) 0 0 0 0 ⟨#[]⟩ ⟨#[]⟩ (PlanD.mk ⟨#[]⟩ 0 0 0 0 0 0 0 0 0))) := Lib.hid (Q1.out.set 1 (.string (strB p1.1)) _ (by decide) rfl)
  generalize u1.setCell ⟨ab, 1, none⟩ (.string (strB p1.1)) = v1 at *
  clear xk0 xk1 xkf Q1 T0
  go_upto_region 18 with (go_at_call 60; refine (rq_int T1.out).mono ?_; generalize hp2 : Rd.int p1.2 = p2 at *; have HP2 := Lib.hid hp2; clear hp2; rintro e u2 ⟨rfl, S⟩; have xk0 : u2.cell? ⟨ab, 0, none⟩ = some (.int .i64 3) := S.cells 0 _ rfl; have xk1 : u2.cell? ⟨ab, 2, none⟩ = some (.int .i64 0) := S.cells 2 _ rfl; have xkf := S.frz 2; have Q2 := Lib.hid S; clear S)
  have T2 : Hid (RqAt W1 (u2.setCell ⟨ab, 2, none⟩ (.int .i64 p2.1)) xb ab (.slice a1 zs.length c1) zs p2.2 (ReqD.mk 3 (strB p1.1) p2.1 0 0 0 ⟨#[]⟩ ⟨#[]⟩ (PlanD.mk ⟨#[]⟩ 0 0 0 0 0 0 0 0 0))) := Lib.hid (Q2.out.set 2 (.int .i64 p2.1) _ (by decide) rfl)
  generalize u2.setCell ⟨ab, 2, none⟩ (.int .i64 p2.1) = v2 at *
  clear xk0 xk1 xkf Q2 T1
  go_upto_region 35 with (go_at_call 60; refine (rq_int T2.out).mono ?_; generalize hp3 : Rd.int p2.2 = p3 at *; have HP3 := Lib.hid hp3; clear hp3; rintro e u3 ⟨rfl, S⟩; have xk0 : u3.cell? ⟨ab, 0, none⟩ = some (.int .i64 3) := S.cells 0 _ rfl; have xk1 : u3.cell? ⟨ab, 5, none⟩ = some (.int .i64 0) := S.cells 5 _ rfl; have xkf := S.frz 5; have Q3 := Lib.hid S; clear S)
  have T3 : Hid (RqAt W1 (u3.setCell ⟨ab, 5, none⟩ (.int .i64 p3.1)) xb ab (.slice a1 zs.length c1) zs p3.2 (ReqD.mk 3 (strB p1.1) p2.1 0 0 p3.1 ⟨#[]⟩ ⟨#[]⟩ (PlanD.mk ⟨#[]⟩ 0 0 0 0 0 0 0 0 0))) := Lib.hid (Q3.out.set 5 (.int .i64 p3.1) _ (by decide) rfl)
  generalize u3.setCell ⟨ab, 5, none⟩ (.int .i64 p3.1) = v3 at *
  clear xk0 xk1 xkf Q3 T2
  have HRES : Hid (v3.heap[sb]? = some (.cells reqZ0.cells 25 (0, 0)) ∧ Below sb w v3) := Lib.hid (by
    have g := T3.out.grow
    have h1 := HLT.out
    refine ⟨(g.block sb (by omega) (by omega)).trans H1.out.2.2.1, H1.out.2.1.trans ⟨g.os, g.tape, g.output, g.size, fun k hk => g.block k (by omega) (by omega)⟩⟩)
  have HPC : Hid (parseReqC zs = if endE p3.2 = 0 then (((ReqD.mk 3 (strB p1.1) p2.1 0 0 p3.1 ⟨#[]⟩ ⟨#[]⟩ (PlanD.mk ⟨#[]⟩ 0 0 0 0 0 0 0 0 0))).cells.toList, 0) else (reqZ0.cells.toList, endE p3.2)) := Lib.hid (by
    rw [HPR.out, show ok = 3 from HK.out.1, prKind_eq, if_neg (fun h => absurd (show kindB 3 = false from h.2) (by decide)), prKey_eq, prNums_eq, prTexts_eq, prMore_eq]
    have E1 : (Rd.str r1) = p1 := HP1.out
    have EN : Rd.ints 2 p1.2 = ([p2.1, p3.1], p3.2) := by simp only [Rd.ints, HP2.out, HP3.out]
    have ET : Rd.strs 0 p3.2 = ([], p3.2) := by simp only [Rd.strs]
    have EM : Rd.ints 0 p3.2 = ([], p3.2) := by simp only [Rd.ints]
    rw [E1, show (numOffs 3).length = 2 from rfl, show (textOffs 3).length = 0 from rfl, show (moreOffs 3).length = 0 from rfl, EN]
    simp only [ET, EM]
    rw [prEnd_end _ _ _ (by decide)]
    rfl)
  by_cases hz : endE p3.2 = 0
  · have HZ : Hid (parseReqC zs = (((ReqD.mk 3 (strB p1.1) p2.1 0 0 p3.1 ⟨#[]⟩ ⟨#[]⟩ (PlanD.mk ⟨#[]⟩ 0 0 0 0 0 0 0 0 0))).cells.toList, 0)) := Lib.hid (by rw [HPC.out, if_pos hz])
    have HE0 := Lib.hid (rq_end0 T3.out 0 hz)
    go_upto_region 37 with (go_at_call 49; refine HE0.out.mono ?_; rintro ee w5 ⟨rfl, k, rfl⟩)
    go_step
    refine wpList_load_row rfl 25 (.tmp 5) rfl ab rfl 25 ((ReqD.mk 3 (strB p1.1) p2.1 0 0 p3.1 ⟨#[]⟩ ⟨#[]⟩ (PlanD.mk ⟨#[]⟩ 0 0 0 0 0 0 0 0 0))).cells (0, 0) _ T3.out.row Try.underlying25 rfl (by kernel_rfl) ?_
    refine wpList_store_row rfl 25 (.tmp 2) (.tmp 113) rfl sb ((ReqD.mk 3 (strB p1.1) p2.1 0 0 p3.1 ⟨#[]⟩ ⟨#[]⟩ (PlanD.mk ⟨#[]⟩ 0 0 0 0 0 0 0 0 0))).cells rfl rfl 25 reqZ0.cells HRES.out.1 (by kernel_rfl) rfl (req_one_cells _) ?_
    go_wp2
    (try simp only [Exit.inBlock, Exit.then])
    rw [HZ.out]
    refine bodyPost_ret (results_cell_row_tmp rfl _ _ sb rfl ((ReqD.mk 3 (strB p1.1) p2.1 0 0 p3.1 ⟨#[]⟩ ⟨#[]⟩ (PlanD.mk ⟨#[]⟩ 0 0 0 0 0 0 0 0 0))).cells.toList _ (range_setRow HRES.out.1) Try.underlying25 rfl (by kernel_rfl)) rfl ?_
    exact ⟨rfl, by rw [HSB.out]; exact below_setRow (bl_drewN2 HRES.out.2 _) (Nat.le_refl _) _⟩
  · have HZ : Hid (parseReqC zs = (reqZ0.cells.toList, endE p3.2)) := Lib.hid (by rw [HPC.out, if_neg hz])
    have hzb : (endE p3.2 == 0) = false := by simp [hz]
    clear hz
    have HE0 := Lib.hid (rq_end0 T3.out _ rfl)
    have HE := Lib.hid (rq_end1 T3.out _ rfl)
    generalize endE p3.2 = ev at *
    go_upto_region 36 with (go_at_call 49; refine HE0.out.mono ?_; rintro ee w5 ⟨rfl, k, rfl⟩)
    go_wp2_with (first | (go_at_call 49; refine (HE.out _).mono ?_; rintro ee w5 ⟨rfl, k, rfl⟩) | (refine wpList_store_row rfl 25 (.tmp 2) (.tmp 110) rfl sb reqZ0.cells rfl rfl 25 reqZ0.cells HRES.out.1 (by kernel_rfl) rfl (req_one_cells _) ?_))
    (try simp only [Exit.inBlock, Exit.then])
    rw [HZ.out]
    refine bodyPost_ret (results_cell_row_tmp rfl _ _ sb rfl reqZ0.cells.toList _ (range_setRow HRES.out.1) Try.underlying25 rfl (by kernel_rfl)) rfl ?_
    exact ⟨rfl, by rw [HSB.out]; exact below_setRow (bl_drewN2 HRES.out.2 _) (Nat.le_refl _) _⟩
set_option maxHeartbeats 3200000 in
set_option maxRecDepth 100000 in
theorem rq_4 (v : Value) (zs : List UInt8) (w : World) (h : Reads w v zs) (hl : zs.length ≤ 1000000) (hk : (Rd.one ⟨zs, false⟩).1 = 4) (hc : (Rd.one ⟨zs, false⟩).2.cut = false) :
    Calls Try.prog 30 #[v] w (PrPost w (parseReqC zs)) := by
  obtain ⟨a1, c1, rfl⟩ := h.len
  have H := Lib.hid h
  have HK := Lib.hid (And.intro hk hc)
  have HPR : Hid (parseReqC zs = prKind (Rd.one ⟨zs, false⟩).1 (Rd.one ⟨zs, false⟩).2) := Lib.hid (parseReqC_eq zs)
  clear h hk hc
  go_enter Try.func30, Try.ntmps30
  go_upto_region 2 with (fail)
  change Code.wp _ _ _ _ ((w.alloc (.cells reqZ0.cells 25)).alloc (.cells #[.slice a1 zs.length c1, .int .i64 0, .int .i64 0] 96))
  have S : RefAt ((w.alloc (.cells reqZ0.cells 25)).alloc (.cells #[.slice a1 zs.length c1, .int .i64 0, .int .i64 0] 96)) (w.heap.size + 1) (.slice a1 zs.length c1) zs ⟨zs, false⟩ := by
    have hrow := heap_alloc_new (w.alloc (.cells reqZ0.cells 25)) (.cells #[.slice a1 zs.length c1, .int .i64 0, .int .i64 0] 96)
    rw [show (w.alloc (.cells reqZ0.cells 25)).heap.size = w.heap.size + 1 by simp] at hrow
    refine ⟨by simp, hl, (cell_of_row _ _ _ _ _ _ hrow).trans rfl, ⟨0, Nat.zero_le _, (cell_of_row _ _ _ _ _ _ hrow).trans rfl, fun _ => rfl⟩, (cell_of_row _ _ _ _ _ _ hrow).trans rfl, fun o => frozen_of_row _ _ _ _ _ hrow, H.out.below (below_alloc2 _ _ _), fun e => ?_⟩
    have := H.out.own_lt _ e
    omega
  have hB := below_alloc2 w (.cells reqZ0.cells 25) (.cells #[.slice a1 zs.length c1, .int .i64 0, .int .i64 0] 96)
  have res0 : ((w.alloc (.cells reqZ0.cells 25)).alloc (.cells #[.slice a1 zs.length c1, .int .i64 0, .int .i64 0] 96)).heap[w.heap.size]? = some (.cells reqZ0.cells 25 (0, 0)) :=
    ((below_alloc _ _).block _ (by simp)).trans (heap_alloc_new _ _)
  have hsz : ((w.alloc (.cells reqZ0.cells 25)).alloc (.cells #[.slice a1 zs.length c1, .int .i64 0, .int .i64 0] 96)).heap.size = w.heap.size + 2 := by simp
  generalize (w.alloc (.cells reqZ0.cells 25)).alloc (.cells #[.slice a1 zs.length c1, .int .i64 0, .int .i64 0] 96) = W1 at *
  have H1 := Lib.hid (And.intro S (And.intro hB (And.intro res0 hsz)))
  clear S hB res0 hsz
  have HOW : Hid (∀ k, (Value.slice a1 zs.length c1).ownBlock = some k → k < W1.heap.size) := Lib.hid (fun k hk => by have := H.out.own_lt k hk; have := H1.out.2.2.2; omega)
  have hsx : w.heap.size < w.heap.size + 1 := by omega
  have HLT : Hid (w.heap.size + 1 < W1.heap.size) := Lib.hid (by have := H1.out.2.2.2; omega)
  generalize hxb : w.heap.size + 1 = xb at *
  have HXB := Lib.hid hxb
  clear hxb
  generalize hsb : w.heap.size = sb at *
  have HSB := Lib.hid hsb
  clear hsb
  go_upto_region 3 with (first
    | (go_at_call 58; refine (ref_u8 xb _ zs ⟨zs, false⟩ W1 H1.out.1).mono ?_; rintro e w2 ⟨rfl, hr2, hs2⟩; rw [HK.out.1]; have H2 := Lib.hid (And.intro hr2 hs2); clear hr2 hs2)
    | (refine wpList_build_at _ rfl 25 _ rfl ((ReqD.mk 4 ⟨#[]⟩ 0 0 0 0 ⟨#[]⟩ ⟨#[]⟩ (PlanD.mk ⟨#[]⟩ 0 0 0 0 0 0 0 0 0))).cells (by kernel_rfl) ?_)
    | (refine wpList_store_row rfl 25 (.tmp 5) (.tmp 11) rfl w2.heap.size ((ReqD.mk 4 ⟨#[]⟩ 0 0 0 0 ⟨#[]⟩ ⟨#[]⟩ (PlanD.mk ⟨#[]⟩ 0 0 0 0 0 0 0 0 0))).cells rfl rfl 25 reqZ0.cells (heap_alloc_new _ _) (by kernel_rfl) rfl (req_one_cells _) ?_))
  change Code.wp _ _ _ _ ((w2.alloc (.cells reqZ0.cells 25)).setRow w2.heap.size ((ReqD.mk 4 ⟨#[]⟩ 0 0 0 0 ⟨#[]⟩ ⟨#[]⟩ (PlanD.mk ⟨#[]⟩ 0 0 0 0 0 0 0 0 0))).cells)
  generalize hr1 : Rd.one ⟨zs, false⟩ = o1 at *
  have HR1 := Lib.hid hr1
  clear hr1
  obtain ⟨ok, r1⟩ := o1
  have hs2 := H2.out.2.size
  have T0 : Hid (RqAt W1 ((w2.alloc (.cells reqZ0.cells 25)).setRow w2.heap.size ((ReqD.mk 4 ⟨#[]⟩ 0 0 0 0 ⟨#[]⟩ ⟨#[]⟩ (PlanD.mk ⟨#[]⟩ 0 0 0 0 0 0 0 0 0))).cells) xb w2.heap.size (.slice a1 zs.length c1) zs r1 ((ReqD.mk 4 ⟨#[]⟩ 0 0 0 0 ⟨#[]⟩ ⟨#[]⟩ (PlanD.mk ⟨#[]⟩ 0 0 0 0 0 0 0 0 0)))) := Lib.hid (by
    have hrow : ((w2.alloc (.cells reqZ0.cells 25)).setRow w2.heap.size ((ReqD.mk 4 ⟨#[]⟩ 0 0 0 0 ⟨#[]⟩ ⟨#[]⟩ (PlanD.mk ⟨#[]⟩ 0 0 0 0 0 0 0 0 0))).cells).heap[w2.heap.size]? = some (.cells ((ReqD.mk 4 ⟨#[]⟩ 0 0 0 0 ⟨#[]⟩ ⟨#[]⟩ (PlanD.mk ⟨#[]⟩ 0 0 0 0 0 0 0 0 0))).cells 25 (0, 0)) := setRow_heap _ _ _ _ _ _ (heap_alloc_new _ _)
    have hB : Below w2.heap.size w2 ((w2.alloc (.cells reqZ0.cells 25)).setRow w2.heap.size ((ReqD.mk 4 ⟨#[]⟩ 0 0 0 0 ⟨#[]⟩ ⟨#[]⟩ (PlanD.mk ⟨#[]⟩ 0 0 0 0 0 0 0 0 0))).cells) := below_setRow (below_alloc _ _) (Nat.le_refl _) _
    have hl := HLT.out
    have hsr : ((w2.alloc (.cells reqZ0.cells 25)).setRow w2.heap.size ((ReqD.mk 4 ⟨#[]⟩ 0 0 0 0 ⟨#[]⟩ ⟨#[]⟩ (PlanD.mk ⟨#[]⟩ 0 0 0 0 0 0 0 0 0))).cells).heap.size = w2.heap.size + 1 := by simp
    exact ⟨⟨hl, by omega, by omega⟩, HOW.out, H2.out.2.grow.trans (RefG.of_below hB), H2.out.1.of_below hB, hrow⟩)
  generalize (w2.alloc (.cells reqZ0.cells 25)).setRow w2.heap.size ((ReqD.mk 4 ⟨#[]⟩ 0 0 0 0 ⟨#[]⟩ ⟨#[]⟩ (PlanD.mk ⟨#[]⟩ 0 0 0 0 0 0 0 0 0))).cells = v0 at *
  generalize hab : w2.heap.size = ab at *
  clear H2 hs2 hab
  have xc0 := T0.out.rd.c2
  rw [show r1.cut = false from HK.out.2] at xc0
  simp only [if_true, if_false, Bool.false_eq_true] at xc0
  have xk0 : v0.cell? ⟨ab, 0, none⟩ = some (.int .i64 4) := T0.out.cells 0 _ rfl
  go_upto_region 5 with (go_at_call 53; refine (ref_kind 4 _).mono ?_; rintro e w' ⟨rfl, rfl⟩; rw [show kindB 4 = true by decide])
  clear xc0 xk0
  go_upto_region 9 with (go_at_call 59; refine (rq_text T0.out).mono ?_; generalize hp1 : Rd.str r1 = p1 at *; have HP1 := Lib.hid hp1; clear hp1; rintro e u1 ⟨rfl, S⟩; have xk0 : u1.cell? ⟨ab, 0, none⟩ = some (.int .i64 4) := S.cells 0 _ rfl; have xk1 : u1.cell? ⟨ab, 1, none⟩ = some (.string ⟨#[]⟩) := S.cells 1 _ rfl; have xkf := S.frz 1; have Q1 := Lib.hid S; clear S)
  have T1 : Hid (RqAt W1 (u1.setCell ⟨ab, 1, none⟩ (.string (strB p1.1))) xb ab (.slice a1 zs.length c1) zs p1.2 (ReqD.mk 4 (strB p1.1) 0 0 0 0 ⟨#[]⟩ ⟨#[]⟩ (PlanD.mk ⟨#[]⟩ 0 0 0 0 0 0 0 0 0))) := Lib.hid (Q1.out.set 1 (.string (strB p1.1)) _ (by decide) rfl)
  generalize u1.setCell ⟨ab, 1, none⟩ (.string (strB p1.1)) = v1 at *
  clear xk0 xk1 xkf Q1 T0
  go_upto_region 10 with (go_at_call 60; refine (rq_int T1.out).mono ?_; generalize hp2 : Rd.int p1.2 = p2 at *; have HP2 := Lib.hid hp2; clear hp2; rintro e u2 ⟨rfl, S⟩; have xk0 : u2.cell? ⟨ab, 0, none⟩ = some (.int .i64 4) := S.cells 0 _ rfl; have xk1 : u2.cell? ⟨ab, 2, none⟩ = some (.int .i64 0) := S.cells 2 _ rfl; have xkf := S.frz 2; have Q2 := Lib.hid S; clear S)
  have T2 : Hid (RqAt W1 (u2.setCell ⟨ab, 2, none⟩ (.int .i64 p2.1)) xb ab (.slice a1 zs.length c1) zs p2.2 (ReqD.mk 4 (strB p1.1) p2.1 0 0 0 ⟨#[]⟩ ⟨#[]⟩ (PlanD.mk ⟨#[]⟩ 0 0 0 0 0 0 0 0 0))) := Lib.hid (Q2.out.set 2 (.int .i64 p2.1) _ (by decide) rfl)
  generalize u2.setCell ⟨ab, 2, none⟩ (.int .i64 p2.1) = v2 at *
  clear xk0 xk1 xkf Q2 T1
  go_upto_region 11 with (go_at_call 60; refine (rq_int T2.out).mono ?_; generalize hp3 : Rd.int p2.2 = p3 at *; have HP3 := Lib.hid hp3; clear hp3; rintro e u3 ⟨rfl, S⟩; have xk0 : u3.cell? ⟨ab, 0, none⟩ = some (.int .i64 4) := S.cells 0 _ rfl; have xk1 : u3.cell? ⟨ab, 3, none⟩ = some (.int .i64 0) := S.cells 3 _ rfl; have xkf := S.frz 3; have Q3 := Lib.hid S; clear S)
  have T3 : Hid (RqAt W1 (u3.setCell ⟨ab, 3, none⟩ (.int .i64 p3.1)) xb ab (.slice a1 zs.length c1) zs p3.2 (ReqD.mk 4 (strB p1.1) p2.1 p3.1 0 0 ⟨#[]⟩ ⟨#[]⟩ (PlanD.mk ⟨#[]⟩ 0 0 0 0 0 0 0 0 0))) := Lib.hid (Q3.out.set 3 (.int .i64 p3.1) _ (by decide) rfl)
  generalize u3.setCell ⟨ab, 3, none⟩ (.int .i64 p3.1) = v3 at *
  clear xk0 xk1 xkf Q3 T2
  go_upto_region 35 with (go_at_call 60; refine (rq_int T3.out).mono ?_; generalize hp4 : Rd.int p3.2 = p4 at *; have HP4 := Lib.hid hp4; clear hp4; rintro e u4 ⟨rfl, S⟩; have xk0 : u4.cell? ⟨ab, 0, none⟩ = some (.int .i64 4) := S.cells 0 _ rfl; have xk1 : u4.cell? ⟨ab, 4, none⟩ = some (.int .i64 0) := S.cells 4 _ rfl; have xkf := S.frz 4; have Q4 := Lib.hid S; clear S)
  have T4 : Hid (RqAt W1 (u4.setCell ⟨ab, 4, none⟩ (.int .i64 p4.1)) xb ab (.slice a1 zs.length c1) zs p4.2 (ReqD.mk 4 (strB p1.1) p2.1 p3.1 p4.1 0 ⟨#[]⟩ ⟨#[]⟩ (PlanD.mk ⟨#[]⟩ 0 0 0 0 0 0 0 0 0))) := Lib.hid (Q4.out.set 4 (.int .i64 p4.1) _ (by decide) rfl)
  generalize u4.setCell ⟨ab, 4, none⟩ (.int .i64 p4.1) = v4 at *
  clear xk0 xk1 xkf Q4 T3
  have HRES : Hid (v4.heap[sb]? = some (.cells reqZ0.cells 25 (0, 0)) ∧ Below sb w v4) := Lib.hid (by
    have g := T4.out.grow
    have h1 := HLT.out
    refine ⟨(g.block sb (by omega) (by omega)).trans H1.out.2.2.1, H1.out.2.1.trans ⟨g.os, g.tape, g.output, g.size, fun k hk => g.block k (by omega) (by omega)⟩⟩)
  have HPC : Hid (parseReqC zs = if endE p4.2 = 0 then (((ReqD.mk 4 (strB p1.1) p2.1 p3.1 p4.1 0 ⟨#[]⟩ ⟨#[]⟩ (PlanD.mk ⟨#[]⟩ 0 0 0 0 0 0 0 0 0))).cells.toList, 0) else (reqZ0.cells.toList, endE p4.2)) := Lib.hid (by
    rw [HPR.out, show ok = 4 from HK.out.1, prKind_eq, if_neg (fun h => absurd (show kindB 4 = false from h.2) (by decide)), prKey_eq, prNums_eq, prTexts_eq, prMore_eq]
    have E1 : (Rd.str r1) = p1 := HP1.out
    have EN : Rd.ints 3 p1.2 = ([p2.1, p3.1, p4.1], p4.2) := by simp only [Rd.ints, HP2.out, HP3.out, HP4.out]
    have ET : Rd.strs 0 p4.2 = ([], p4.2) := by simp only [Rd.strs]
    have EM : Rd.ints 0 p4.2 = ([], p4.2) := by simp only [Rd.ints]
    rw [E1, show (numOffs 4).length = 3 from rfl, show (textOffs 4).length = 0 from rfl, show (moreOffs 4).length = 0 from rfl, EN]
    simp only [ET, EM]
    rw [prEnd_end _ _ _ (by decide)]
    rfl)
  by_cases hz : endE p4.2 = 0
  · have HZ : Hid (parseReqC zs = (((ReqD.mk 4 (strB p1.1) p2.1 p3.1 p4.1 0 ⟨#[]⟩ ⟨#[]⟩ (PlanD.mk ⟨#[]⟩ 0 0 0 0 0 0 0 0 0))).cells.toList, 0)) := Lib.hid (by rw [HPC.out, if_pos hz])
    have HE0 := Lib.hid (rq_end0 T4.out 0 hz)
    go_upto_region 37 with (go_at_call 49; refine HE0.out.mono ?_; rintro ee w5 ⟨rfl, k, rfl⟩)
    go_step
    refine wpList_load_row rfl 25 (.tmp 5) rfl ab rfl 25 ((ReqD.mk 4 (strB p1.1) p2.1 p3.1 p4.1 0 ⟨#[]⟩ ⟨#[]⟩ (PlanD.mk ⟨#[]⟩ 0 0 0 0 0 0 0 0 0))).cells (0, 0) _ T4.out.row Try.underlying25 rfl (by kernel_rfl) ?_
    refine wpList_store_row rfl 25 (.tmp 2) (.tmp 113) rfl sb ((ReqD.mk 4 (strB p1.1) p2.1 p3.1 p4.1 0 ⟨#[]⟩ ⟨#[]⟩ (PlanD.mk ⟨#[]⟩ 0 0 0 0 0 0 0 0 0))).cells rfl rfl 25 reqZ0.cells HRES.out.1 (by kernel_rfl) rfl (req_one_cells _) ?_
    go_wp2
    (try simp only [Exit.inBlock, Exit.then])
    rw [HZ.out]
    refine bodyPost_ret (results_cell_row_tmp rfl _ _ sb rfl ((ReqD.mk 4 (strB p1.1) p2.1 p3.1 p4.1 0 ⟨#[]⟩ ⟨#[]⟩ (PlanD.mk ⟨#[]⟩ 0 0 0 0 0 0 0 0 0))).cells.toList _ (range_setRow HRES.out.1) Try.underlying25 rfl (by kernel_rfl)) rfl ?_
    exact ⟨rfl, by rw [HSB.out]; exact below_setRow (bl_drewN2 HRES.out.2 _) (Nat.le_refl _) _⟩
  · have HZ : Hid (parseReqC zs = (reqZ0.cells.toList, endE p4.2)) := Lib.hid (by rw [HPC.out, if_neg hz])
    have hzb : (endE p4.2 == 0) = false := by simp [hz]
    clear hz
    have HE0 := Lib.hid (rq_end0 T4.out _ rfl)
    have HE := Lib.hid (rq_end1 T4.out _ rfl)
    generalize endE p4.2 = ev at *
    go_upto_region 36 with (go_at_call 49; refine HE0.out.mono ?_; rintro ee w5 ⟨rfl, k, rfl⟩)
    go_wp2_with (first | (go_at_call 49; refine (HE.out _).mono ?_; rintro ee w5 ⟨rfl, k, rfl⟩) | (refine wpList_store_row rfl 25 (.tmp 2) (.tmp 110) rfl sb reqZ0.cells rfl rfl 25 reqZ0.cells HRES.out.1 (by kernel_rfl) rfl (req_one_cells _) ?_))
    (try simp only [Exit.inBlock, Exit.then])
    rw [HZ.out]
    refine bodyPost_ret (results_cell_row_tmp rfl _ _ sb rfl reqZ0.cells.toList _ (range_setRow HRES.out.1) Try.underlying25 rfl (by kernel_rfl)) rfl ?_
    exact ⟨rfl, by rw [HSB.out]; exact below_setRow (bl_drewN2 HRES.out.2 _) (Nat.le_refl _) _⟩
set_option maxHeartbeats 3200000 in
set_option maxRecDepth 100000 in
theorem rq_5 (v : Value) (zs : List UInt8) (w : World) (h : Reads w v zs) (hl : zs.length ≤ 1000000) (hk : (Rd.one ⟨zs, false⟩).1 = 5) (hc : (Rd.one ⟨zs, false⟩).2.cut = false) :
    Calls Try.prog 30 #[v] w (PrPost w (parseReqC zs)) := by
  obtain ⟨a1, c1, rfl⟩ := h.len
  have H := Lib.hid h
  have HK := Lib.hid (And.intro hk hc)
  have HPR : Hid (parseReqC zs = prKind (Rd.one ⟨zs, false⟩).1 (Rd.one ⟨zs, false⟩).2) := Lib.hid (parseReqC_eq zs)
  clear h hk hc
  go_enter Try.func30, Try.ntmps30
  go_upto_region 2 with (fail)
  change Code.wp _ _ _ _ ((w.alloc (.cells reqZ0.cells 25)).alloc (.cells #[.slice a1 zs.length c1, .int .i64 0, .int .i64 0] 96))
  have S : RefAt ((w.alloc (.cells reqZ0.cells 25)).alloc (.cells #[.slice a1 zs.length c1, .int .i64 0, .int .i64 0] 96)) (w.heap.size + 1) (.slice a1 zs.length c1) zs ⟨zs, false⟩ := by
    have hrow := heap_alloc_new (w.alloc (.cells reqZ0.cells 25)) (.cells #[.slice a1 zs.length c1, .int .i64 0, .int .i64 0] 96)
    rw [show (w.alloc (.cells reqZ0.cells 25)).heap.size = w.heap.size + 1 by simp] at hrow
    refine ⟨by simp, hl, (cell_of_row _ _ _ _ _ _ hrow).trans rfl, ⟨0, Nat.zero_le _, (cell_of_row _ _ _ _ _ _ hrow).trans rfl, fun _ => rfl⟩, (cell_of_row _ _ _ _ _ _ hrow).trans rfl, fun o => frozen_of_row _ _ _ _ _ hrow, H.out.below (below_alloc2 _ _ _), fun e => ?_⟩
    have := H.out.own_lt _ e
    omega
  have hB := below_alloc2 w (.cells reqZ0.cells 25) (.cells #[.slice a1 zs.length c1, .int .i64 0, .int .i64 0] 96)
  have res0 : ((w.alloc (.cells reqZ0.cells 25)).alloc (.cells #[.slice a1 zs.length c1, .int .i64 0, .int .i64 0] 96)).heap[w.heap.size]? = some (.cells reqZ0.cells 25 (0, 0)) :=
    ((below_alloc _ _).block _ (by simp)).trans (heap_alloc_new _ _)
  have hsz : ((w.alloc (.cells reqZ0.cells 25)).alloc (.cells #[.slice a1 zs.length c1, .int .i64 0, .int .i64 0] 96)).heap.size = w.heap.size + 2 := by simp
  generalize (w.alloc (.cells reqZ0.cells 25)).alloc (.cells #[.slice a1 zs.length c1, .int .i64 0, .int .i64 0] 96) = W1 at *
  have H1 := Lib.hid (And.intro S (And.intro hB (And.intro res0 hsz)))
  clear S hB res0 hsz
  have HOW : Hid (∀ k, (Value.slice a1 zs.length c1).ownBlock = some k → k < W1.heap.size) := Lib.hid (fun k hk => by have := H.out.own_lt k hk; have := H1.out.2.2.2; omega)
  have hsx : w.heap.size < w.heap.size + 1 := by omega
  have HLT : Hid (w.heap.size + 1 < W1.heap.size) := Lib.hid (by have := H1.out.2.2.2; omega)
  generalize hxb : w.heap.size + 1 = xb at *
  have HXB := Lib.hid hxb
  clear hxb
  generalize hsb : w.heap.size = sb at *
  have HSB := Lib.hid hsb
  clear hsb
  go_upto_region 3 with (first
    | (go_at_call 58; refine (ref_u8 xb _ zs ⟨zs, false⟩ W1 H1.out.1).mono ?_; rintro e w2 ⟨rfl, hr2, hs2⟩; rw [HK.out.1]; have H2 := Lib.hid (And.intro hr2 hs2); clear hr2 hs2)
    | (refine wpList_build_at _ rfl 25 _ rfl ((ReqD.mk 5 ⟨#[]⟩ 0 0 0 0 ⟨#[]⟩ ⟨#[]⟩ (PlanD.mk ⟨#[]⟩ 0 0 0 0 0 0 0 0 0))).cells (by kernel_rfl) ?_)
    | (refine wpList_store_row rfl 25 (.tmp 5) (.tmp 11) rfl w2.heap.size ((ReqD.mk 5 ⟨#[]⟩ 0 0 0 0 ⟨#[]⟩ ⟨#[]⟩ (PlanD.mk ⟨#[]⟩ 0 0 0 0 0 0 0 0 0))).cells rfl rfl 25 reqZ0.cells (heap_alloc_new _ _) (by kernel_rfl) rfl (req_one_cells _) ?_))
  change Code.wp _ _ _ _ ((w2.alloc (.cells reqZ0.cells 25)).setRow w2.heap.size ((ReqD.mk 5 ⟨#[]⟩ 0 0 0 0 ⟨#[]⟩ ⟨#[]⟩ (PlanD.mk ⟨#[]⟩ 0 0 0 0 0 0 0 0 0))).cells)
  generalize hr1 : Rd.one ⟨zs, false⟩ = o1 at *
  have HR1 := Lib.hid hr1
  clear hr1
  obtain ⟨ok, r1⟩ := o1
  have hs2 := H2.out.2.size
  have T0 : Hid (RqAt W1 ((w2.alloc (.cells reqZ0.cells 25)).setRow w2.heap.size ((ReqD.mk 5 ⟨#[]⟩ 0 0 0 0 ⟨#[]⟩ ⟨#[]⟩ (PlanD.mk ⟨#[]⟩ 0 0 0 0 0 0 0 0 0))).cells) xb w2.heap.size (.slice a1 zs.length c1) zs r1 ((ReqD.mk 5 ⟨#[]⟩ 0 0 0 0 ⟨#[]⟩ ⟨#[]⟩ (PlanD.mk ⟨#[]⟩ 0 0 0 0 0 0 0 0 0)))) := Lib.hid (by
    have hrow : ((w2.alloc (.cells reqZ0.cells 25)).setRow w2.heap.size ((ReqD.mk 5 ⟨#[]⟩ 0 0 0 0 ⟨#[]⟩ ⟨#[]⟩ (PlanD.mk ⟨#[]⟩ 0 0 0 0 0 0 0 0 0))).cells).heap[w2.heap.size]? = some (.cells ((ReqD.mk 5 ⟨#[]⟩ 0 0 0 0 ⟨#[]⟩ ⟨#[]⟩ (PlanD.mk ⟨#[]⟩ 0 0 0 0 0 0 0 0 0))).cells 25 (0, 0)) := setRow_heap _ _ _ _ _ _ (heap_alloc_new _ _)
    have hB : Below w2.heap.size w2 ((w2.alloc (.cells reqZ0.cells 25)).setRow w2.heap.size ((ReqD.mk 5 ⟨#[]⟩ 0 0 0 0 ⟨#[]⟩ ⟨#[]⟩ (PlanD.mk ⟨#[]⟩ 0 0 0 0 0 0 0 0 0))).cells) := below_setRow (below_alloc _ _) (Nat.le_refl _) _
    have hl := HLT.out
    have hsr : ((w2.alloc (.cells reqZ0.cells 25)).setRow w2.heap.size ((ReqD.mk 5 ⟨#[]⟩ 0 0 0 0 ⟨#[]⟩ ⟨#[]⟩ (PlanD.mk ⟨#[]⟩ 0 0 0 0 0 0 0 0 0))).cells).heap.size = w2.heap.size + 1 := by simp
    exact ⟨⟨hl, by omega, by omega⟩, HOW.out, H2.out.2.grow.trans (RefG.of_below hB), H2.out.1.of_below hB, hrow⟩)
  generalize (w2.alloc (.cells reqZ0.cells 25)).setRow w2.heap.size ((ReqD.mk 5 ⟨#[]⟩ 0 0 0 0 ⟨#[]⟩ ⟨#[]⟩ (PlanD.mk ⟨#[]⟩ 0 0 0 0 0 0 0 0 0))).cells = v0 at *
  generalize hab : w2.heap.size = ab at *
  clear H2 hs2 hab
  have xc0 := T0.out.rd.c2
  rw [show r1.cut = false from HK.out.2] at xc0
  simp only [if_true, if_false, Bool.false_eq_true] at xc0
  have xk0 : v0.cell? ⟨ab, 0, none⟩ = some (.int .i64 5) := T0.out.cells 0 _ rfl
  go_upto_region 5 with (go_at_call 53; refine (ref_kind 5 _).mono ?_; rintro e w' ⟨rfl, rfl⟩; rw [show kindB 5 = true by decide])
  clear xc0 xk0
  go_upto_region 35 with (go_at_call 59; refine (rq_text T0.out).mono ?_; generalize hp1 : Rd.str r1 = p1 at *; have HP1 := Lib.hid hp1; clear hp1; rintro e u1 ⟨rfl, S⟩; have xk0 : u1.cell? ⟨ab, 0, none⟩ = some (.int .i64 5) := S.cells 0 _ rfl; have xk1 : u1.cell? ⟨ab, 1, none⟩ = some (.string ⟨#[]⟩) := S.cells 1 _ rfl; have xkf := S.frz 1; have Q1 := Lib.hid S; clear S)
  have T1 : Hid (RqAt W1 (u1.setCell ⟨ab, 1, none⟩ (.string (strB p1.1))) xb ab (.slice a1 zs.length c1) zs p1.2 (ReqD.mk 5 (strB p1.1) 0 0 0 0 ⟨#[]⟩ ⟨#[]⟩ (PlanD.mk ⟨#[]⟩ 0 0 0 0 0 0 0 0 0))) := Lib.hid (Q1.out.set 1 (.string (strB p1.1)) _ (by decide) rfl)
  generalize u1.setCell ⟨ab, 1, none⟩ (.string (strB p1.1)) = v1 at *
  clear xk0 xk1 xkf Q1 T0
  have HRES : Hid (v1.heap[sb]? = some (.cells reqZ0.cells 25 (0, 0)) ∧ Below sb w v1) := Lib.hid (by
    have g := T1.out.grow
    have h1 := HLT.out
    refine ⟨(g.block sb (by omega) (by omega)).trans H1.out.2.2.1, H1.out.2.1.trans ⟨g.os, g.tape, g.output, g.size, fun k hk => g.block k (by omega) (by omega)⟩⟩)
  have HPC : Hid (parseReqC zs = if endE p1.2 = 0 then (((ReqD.mk 5 (strB p1.1) 0 0 0 0 ⟨#[]⟩ ⟨#[]⟩ (PlanD.mk ⟨#[]⟩ 0 0 0 0 0 0 0 0 0))).cells.toList, 0) else (reqZ0.cells.toList, endE p1.2)) := Lib.hid (by
    rw [HPR.out, show ok = 5 from HK.out.1, prKind_eq, if_neg (fun h => absurd (show kindB 5 = false from h.2) (by decide)), prKey_eq, prNums_eq, prTexts_eq, prMore_eq]
    have E1 : (Rd.str r1) = p1 := HP1.out
    have EN : Rd.ints 0 p1.2 = ([], p1.2) := by simp only [Rd.ints]
    have ET : Rd.strs 0 p1.2 = ([], p1.2) := by simp only [Rd.strs]
    have EM : Rd.ints 0 p1.2 = ([], p1.2) := by simp only [Rd.ints]
    rw [E1, show (numOffs 5).length = 0 from rfl, show (textOffs 5).length = 0 from rfl, show (moreOffs 5).length = 0 from rfl, EN]
    simp only [ET, EM]
    rw [prEnd_end _ _ _ (by decide)]
    rfl)
  by_cases hz : endE p1.2 = 0
  · have HZ : Hid (parseReqC zs = (((ReqD.mk 5 (strB p1.1) 0 0 0 0 ⟨#[]⟩ ⟨#[]⟩ (PlanD.mk ⟨#[]⟩ 0 0 0 0 0 0 0 0 0))).cells.toList, 0)) := Lib.hid (by rw [HPC.out, if_pos hz])
    have HE0 := Lib.hid (rq_end0 T1.out 0 hz)
    go_upto_region 37 with (go_at_call 49; refine HE0.out.mono ?_; rintro ee w5 ⟨rfl, k, rfl⟩)
    go_step
    refine wpList_load_row rfl 25 (.tmp 5) rfl ab rfl 25 ((ReqD.mk 5 (strB p1.1) 0 0 0 0 ⟨#[]⟩ ⟨#[]⟩ (PlanD.mk ⟨#[]⟩ 0 0 0 0 0 0 0 0 0))).cells (0, 0) _ T1.out.row Try.underlying25 rfl (by kernel_rfl) ?_
    refine wpList_store_row rfl 25 (.tmp 2) (.tmp 113) rfl sb ((ReqD.mk 5 (strB p1.1) 0 0 0 0 ⟨#[]⟩ ⟨#[]⟩ (PlanD.mk ⟨#[]⟩ 0 0 0 0 0 0 0 0 0))).cells rfl rfl 25 reqZ0.cells HRES.out.1 (by kernel_rfl) rfl (req_one_cells _) ?_
    go_wp2
    (try simp only [Exit.inBlock, Exit.then])
    rw [HZ.out]
    refine bodyPost_ret (results_cell_row_tmp rfl _ _ sb rfl ((ReqD.mk 5 (strB p1.1) 0 0 0 0 ⟨#[]⟩ ⟨#[]⟩ (PlanD.mk ⟨#[]⟩ 0 0 0 0 0 0 0 0 0))).cells.toList _ (range_setRow HRES.out.1) Try.underlying25 rfl (by kernel_rfl)) rfl ?_
    exact ⟨rfl, by rw [HSB.out]; exact below_setRow (bl_drewN2 HRES.out.2 _) (Nat.le_refl _) _⟩
  · have HZ : Hid (parseReqC zs = (reqZ0.cells.toList, endE p1.2)) := Lib.hid (by rw [HPC.out, if_neg hz])
    have hzb : (endE p1.2 == 0) = false := by simp [hz]
    clear hz
    have HE0 := Lib.hid (rq_end0 T1.out _ rfl)
    have HE := Lib.hid (rq_end1 T1.out _ rfl)
    generalize endE p1.2 = ev at *
    go_upto_region 36 with (go_at_call 49; refine HE0.out.mono ?_; rintro ee w5 ⟨rfl, k, rfl⟩)
    go_wp2_with (first | (go_at_call 49; refine (HE.out _).mono ?_; rintro ee w5 ⟨rfl, k, rfl⟩) | (refine wpList_store_row rfl 25 (.tmp 2) (.tmp 110) rfl sb reqZ0.cells rfl rfl 25 reqZ0.cells HRES.out.1 (by kernel_rfl) rfl (req_one_cells _) ?_))
    (try simp only [Exit.inBlock, Exit.then])
    rw [HZ.out]
    refine bodyPost_ret (results_cell_row_tmp rfl _ _ sb rfl reqZ0.cells.toList _ (range_setRow HRES.out.1) Try.underlying25 rfl (by kernel_rfl)) rfl ?_
    exact ⟨rfl, by rw [HSB.out]; exact below_setRow (bl_drewN2 HRES.out.2 _) (Nat.le_refl _) _⟩
set_option maxHeartbeats 3200000 in
set_option maxRecDepth 100000 in
theorem rq_16 (v : Value) (zs : List UInt8) (w : World) (h : Reads w v zs) (hl : zs.length ≤ 1000000) (hk : (Rd.one ⟨zs, false⟩).1 = 16) (hc : (Rd.one ⟨zs, false⟩).2.cut = false) :
    Calls Try.prog 30 #[v] w (PrPost w (parseReqC zs)) := by
  obtain ⟨a1, c1, rfl⟩ := h.len
  have H := Lib.hid h
  have HK := Lib.hid (And.intro hk hc)
  have HPR : Hid (parseReqC zs = prKind (Rd.one ⟨zs, false⟩).1 (Rd.one ⟨zs, false⟩).2) := Lib.hid (parseReqC_eq zs)
  clear h hk hc
  go_enter Try.func30, Try.ntmps30
  go_upto_region 2 with (fail)
  change Code.wp _ _ _ _ ((w.alloc (.cells reqZ0.cells 25)).alloc (.cells #[.slice a1 zs.length c1, .int .i64 0, .int .i64 0] 96))
  have S : RefAt ((w.alloc (.cells reqZ0.cells 25)).alloc (.cells #[.slice a1 zs.length c1, .int .i64 0, .int .i64 0] 96)) (w.heap.size + 1) (.slice a1 zs.length c1) zs ⟨zs, false⟩ := by
    have hrow := heap_alloc_new (w.alloc (.cells reqZ0.cells 25)) (.cells #[.slice a1 zs.length c1, .int .i64 0, .int .i64 0] 96)
    rw [show (w.alloc (.cells reqZ0.cells 25)).heap.size = w.heap.size + 1 by simp] at hrow
    refine ⟨by simp, hl, (cell_of_row _ _ _ _ _ _ hrow).trans rfl, ⟨0, Nat.zero_le _, (cell_of_row _ _ _ _ _ _ hrow).trans rfl, fun _ => rfl⟩, (cell_of_row _ _ _ _ _ _ hrow).trans rfl, fun o => frozen_of_row _ _ _ _ _ hrow, H.out.below (below_alloc2 _ _ _), fun e => ?_⟩
    have := H.out.own_lt _ e
    omega
  have hB := below_alloc2 w (.cells reqZ0.cells 25) (.cells #[.slice a1 zs.length c1, .int .i64 0, .int .i64 0] 96)
  have res0 : ((w.alloc (.cells reqZ0.cells 25)).alloc (.cells #[.slice a1 zs.length c1, .int .i64 0, .int .i64 0] 96)).heap[w.heap.size]? = some (.cells reqZ0.cells 25 (0, 0)) :=
    ((below_alloc _ _).block _ (by simp)).trans (heap_alloc_new _ _)
  have hsz : ((w.alloc (.cells reqZ0.cells 25)).alloc (.cells #[.slice a1 zs.length c1, .int .i64 0, .int .i64 0] 96)).heap.size = w.heap.size + 2 := by simp
  generalize (w.alloc (.cells reqZ0.cells 25)).alloc (.cells #[.slice a1 zs.length c1, .int .i64 0, .int .i64 0] 96) = W1 at *
  have H1 := Lib.hid (And.intro S (And.intro hB (And.intro res0 hsz)))
  clear S hB res0 hsz
  have HOW : Hid (∀ k, (Value.slice a1 zs.length c1).ownBlock = some k → k < W1.heap.size) := Lib.hid (fun k hk => by have := H.out.own_lt k hk; have := H1.out.2.2.2; omega)
  have hsx : w.heap.size < w.heap.size + 1 := by omega
  have HLT : Hid (w.heap.size + 1 < W1.heap.size) := Lib.hid (by have := H1.out.2.2.2; omega)
  generalize hxb : w.heap.size + 1 = xb at *
  have HXB := Lib.hid hxb
  clear hxb
  generalize hsb : w.heap.size = sb at *
  have HSB := Lib.hid hsb
  clear hsb
  go_upto_region 3 with (first
    | (go_at_call 58; refine (ref_u8 xb _ zs ⟨zs, false⟩ W1 H1.out.1).mono ?_; rintro e w2 ⟨rfl, hr2, hs2⟩; rw [HK.out.1]; have H2 := Lib.hid (And.intro hr2 hs2); clear hr2 hs2)
    | (refine wpList_build_at _ rfl 25 _ rfl ((ReqD.mk 16 ⟨#[]⟩ 0 0 0 0 ⟨#[]⟩ ⟨#[]⟩ (PlanD.mk ⟨#[]⟩ 0 0 0 0 0 0 0 0 0))).cells (by kernel_rfl) ?_)
    | (refine wpList_store_row rfl 25 (.tmp 5) (.tmp 11) rfl w2.heap.size ((ReqD.mk 16 ⟨#[]⟩ 0 0 0 0 ⟨#[]⟩ ⟨#[]⟩ (PlanD.mk ⟨#[]⟩ 0 0 0 0 0 0 0 0 0))).cells rfl rfl 25 reqZ0.cells (heap_alloc_new _ _) (by kernel_rfl) rfl (req_one_cells _) ?_))
  change Code.wp _ _ _ _ ((w2.alloc (.cells reqZ0.cells 25)).setRow w2.heap.size ((ReqD.mk 16 ⟨#[]⟩ 0 0 0 0 ⟨#[]⟩ ⟨#[]⟩ (PlanD.mk ⟨#[]⟩ 0 0 0 0 0 0 0 0 0))).cells)
  generalize hr1 : Rd.one ⟨zs, false⟩ = o1 at *
  have HR1 := Lib.hid hr1
  clear hr1
  obtain ⟨ok, r1⟩ := o1
  have hs2 := H2.out.2.size
  have T0 : Hid (RqAt W1 ((w2.alloc (.cells reqZ0.cells 25)).setRow w2.heap.size ((ReqD.mk 16 ⟨#[]⟩ 0 0 0 0 ⟨#[]⟩ ⟨#[]⟩ (PlanD.mk ⟨#[]⟩ 0 0 0 0 0 0 0 0 0))).cells) xb w2.heap.size (.slice a1 zs.length c1) zs r1 ((ReqD.mk 16 ⟨#[]⟩ 0 0 0 0 ⟨#[]⟩ ⟨#[]⟩ (PlanD.mk ⟨#[]⟩ 0 0 0 0 0 0 0 0 0)))) := Lib.hid (by
    have hrow : ((w2.alloc (.cells reqZ0.cells 25)).setRow w2.heap.size ((ReqD.mk 16 ⟨#[]⟩ 0 0 0 0 ⟨#[]⟩ ⟨#[]⟩ (PlanD.mk ⟨#[]⟩ 0 0 0 0 0 0 0 0 0))).cells).heap[w2.heap.size]? = some (.cells ((ReqD.mk 16 ⟨#[]⟩ 0 0 0 0 ⟨#[]⟩ ⟨#[]⟩ (PlanD.mk ⟨#[]⟩ 0 0 0 0 0 0 0 0 0))).cells 25 (0, 0)) := setRow_heap _ _ _ _ _ _ (heap_alloc_new _ _)
    have hB : Below w2.heap.size w2 ((w2.alloc (.cells reqZ0.cells 25)).setRow w2.heap.size ((ReqD.mk 16 ⟨#[]⟩ 0 0 0 0 ⟨#[]⟩ ⟨#[]⟩ (PlanD.mk ⟨#[]⟩ 0 0 0 0 0 0 0 0 0))).cells) := below_setRow (below_alloc _ _) (Nat.le_refl _) _
    have hl := HLT.out
    have hsr : ((w2.alloc (.cells reqZ0.cells 25)).setRow w2.heap.size ((ReqD.mk 16 ⟨#[]⟩ 0 0 0 0 ⟨#[]⟩ ⟨#[]⟩ (PlanD.mk ⟨#[]⟩ 0 0 0 0 0 0 0 0 0))).cells).heap.size = w2.heap.size + 1 := by simp
    exact ⟨⟨hl, by omega, by omega⟩, HOW.out, H2.out.2.grow.trans (RefG.of_below hB), H2.out.1.of_below hB, hrow⟩)
  generalize (w2.alloc (.cells reqZ0.cells 25)).setRow w2.heap.size ((ReqD.mk 16 ⟨#[]⟩ 0 0 0 0 ⟨#[]⟩ ⟨#[]⟩ (PlanD.mk ⟨#[]⟩ 0 0 0 0 0 0 0 0 0))).cells = v0 at *
  generalize hab : w2.heap.size = ab at *
  clear H2 hs2 hab
  have xc0 := T0.out.rd.c2
  rw [show r1.cut = false from HK.out.2] at xc0
  simp only [if_true, if_false, Bool.false_eq_true] at xc0
  have xk0 : v0.cell? ⟨ab, 0, none⟩ = some (.int .i64 16) := T0.out.cells 0 _ rfl
  go_upto_region 5 with (go_at_call 53; refine (ref_kind 16 _).mono ?_; rintro e w' ⟨rfl, rfl⟩; rw [show kindB 16 = true by decide])
  clear xc0 xk0
  go_upto_region 20 with (go_at_call 59; refine (rq_text T0.out).mono ?_; generalize hp1 : Rd.str r1 = p1 at *; have HP1 := Lib.hid hp1; clear hp1; rintro e u1 ⟨rfl, S⟩; have xk0 : u1.cell? ⟨ab, 0, none⟩ = some (.int .i64 16) := S.cells 0 _ rfl; have xk1 : u1.cell? ⟨ab, 1, none⟩ = some (.string ⟨#[]⟩) := S.cells 1 _ rfl; have xkf := S.frz 1; have Q1 := Lib.hid S; clear S)
  have T1 : Hid (RqAt W1 (u1.setCell ⟨ab, 1, none⟩ (.string (strB p1.1))) xb ab (.slice a1 zs.length c1) zs p1.2 (ReqD.mk 16 (strB p1.1) 0 0 0 0 ⟨#[]⟩ ⟨#[]⟩ (PlanD.mk ⟨#[]⟩ 0 0 0 0 0 0 0 0 0))) := Lib.hid (Q1.out.set 1 (.string (strB p1.1)) _ (by decide) rfl)
  generalize u1.setCell ⟨ab, 1, none⟩ (.string (strB p1.1)) = v1 at *
  clear xk0 xk1 xkf Q1 T0
  go_upto_region 35 with (first | (go_at_call 61; refine (rq_plan T1.out).mono ?_; generalize hp2 : Rd.str p1.2 = p2 at *; have HP2 := Lib.hid hp2; clear hp2; generalize hi2 : Rd.ints 9 p2.2 = i2 at *; have HI2 := Lib.hid hi2; clear hi2; generalize hpp : planOf p2.1 i2.1 = pp at *; have HPP := Lib.hid hpp; clear hpp; rintro e u2 ⟨rfl, S⟩; have xth := Lib.hid S.there; have Q2 := Lib.hid S; clear S) | (refine wpList_store_mid rfl 23 (.tmp 64) (.tmp 63) rfl ab 8 pp.cells rfl rfl xth.out (by kernel_rfl) (plan_one_cells _) ?_))
  have T2 : Hid (RqAt W1 (u2.setCells ab 8 pp.cells.toList) xb ab (.slice a1 zs.length c1) zs i2.2 (ReqD.mk 16 (strB p1.1) 0 0 0 0 ⟨#[]⟩ ⟨#[]⟩ pp)) := Lib.hid (Q2.out.setPlan _)
  generalize u2.setCells ab 8 pp.cells.toList = v2 at *
  clear xth Q2 T1
  have HRES : Hid (v2.heap[sb]? = some (.cells reqZ0.cells 25 (0, 0)) ∧ Below sb w v2) := Lib.hid (by
    have g := T2.out.grow
    have h1 := HLT.out
    refine ⟨(g.block sb (by omega) (by omega)).trans H1.out.2.2.1, H1.out.2.1.trans ⟨g.os, g.tape, g.output, g.size, fun k hk => g.block k (by omega) (by omega)⟩⟩)
  have HPC : Hid (parseReqC zs = if endE i2.2 = 0 then (((ReqD.mk 16 (strB p1.1) 0 0 0 0 ⟨#[]⟩ ⟨#[]⟩ pp)).cells.toList, 0) else (reqZ0.cells.toList, endE i2.2)) := Lib.hid (by
    rw [HPR.out, show ok = 16 from HK.out.1, prKind_eq, if_neg (fun h => absurd (show kindB 16 = false from h.2) (by decide)), prKey_eq, prNums_eq, prTexts_eq, prMore_eq]
    have E1 : (Rd.str r1) = p1 := HP1.out
    have EN : Rd.ints 0 p1.2 = ([], p1.2) := by simp only [Rd.ints]
    have ET : Rd.strs 0 p1.2 = ([], p1.2) := by simp only [Rd.strs]
    have EM : Rd.ints 0 p1.2 = ([], p1.2) := by simp only [Rd.ints]
    rw [E1, show (numOffs 16).length = 0 from rfl, show (textOffs 16).length = 0 from rfl, show (moreOffs 16).length = 0 from rfl, EN]
    simp only [ET, EM]
    exact plan_end _ _ (ReqD.mk 16 (strB p1.1) 0 0 0 0 ⟨#[]⟩ ⟨#[]⟩ (PlanD.mk ⟨#[]⟩ 0 0 0 0 0 0 0 0 0)) rfl p2 i2 HP2.out HI2.out pp HPP.out)
  by_cases hz : endE i2.2 = 0
  · have HZ : Hid (parseReqC zs = (((ReqD.mk 16 (strB p1.1) 0 0 0 0 ⟨#[]⟩ ⟨#[]⟩ pp)).cells.toList, 0)) := Lib.hid (by rw [HPC.out, if_pos hz])
    have HE0 := Lib.hid (rq_end0 T2.out 0 hz)
    go_upto_region 37 with (go_at_call 49; refine HE0.out.mono ?_; rintro ee w5 ⟨rfl, k, rfl⟩)
    go_step
    refine wpList_load_row rfl 25 (.tmp 5) rfl ab rfl 25 ((ReqD.mk 16 (strB p1.1) 0 0 0 0 ⟨#[]⟩ ⟨#[]⟩ pp)).cells (0, 0) _ T2.out.row Try.underlying25 rfl (by kernel_rfl) ?_
    refine wpList_store_row rfl 25 (.tmp 2) (.tmp 113) rfl sb ((ReqD.mk 16 (strB p1.1) 0 0 0 0 ⟨#[]⟩ ⟨#[]⟩ pp)).cells rfl rfl 25 reqZ0.cells HRES.out.1 (by kernel_rfl) rfl (req_one_cells _) ?_
    go_wp2
    (try simp only [Exit.inBlock, Exit.then])
    rw [HZ.out]
    refine bodyPost_ret (results_cell_row_tmp rfl _ _ sb rfl ((ReqD.mk 16 (strB p1.1) 0 0 0 0 ⟨#[]⟩ ⟨#[]⟩ pp)).cells.toList _ (range_setRow HRES.out.1) Try.underlying25 rfl (by kernel_rfl)) rfl ?_
    exact ⟨rfl, by rw [HSB.out]; exact below_setRow (bl_drewN2 HRES.out.2 _) (Nat.le_refl _) _⟩
  · have HZ : Hid (parseReqC zs = (reqZ0.cells.toList, endE i2.2)) := Lib.hid (by rw [HPC.out, if_neg hz])
    have hzb : (endE i2.2 == 0) = false := by simp [hz]
    clear hz
    have HE0 := Lib.hid (rq_end0 T2.out _ rfl)
    have HE := Lib.hid (rq_end1 T2.out _ rfl)
    generalize endE i2.2 = ev at *
    go_upto_region 36 with (go_at_call 49; refine HE0.out.mono ?_; rintro ee w5 ⟨rfl, k, rfl⟩)
    go_wp2_with (first | (go_at_call 49; refine (HE.out _).mono ?_; rintro ee w5 ⟨rfl, k, rfl⟩) | (refine wpList_store_row rfl 25 (.tmp 2) (.tmp 110) rfl sb reqZ0.cells rfl rfl 25 reqZ0.cells HRES.out.1 (by kernel_rfl) rfl (req_one_cells _) ?_))
    (try simp only [Exit.inBlock, Exit.then])
    rw [HZ.out]
    refine bodyPost_ret (results_cell_row_tmp rfl _ _ sb rfl reqZ0.cells.toList _ (range_setRow HRES.out.1) Try.underlying25 rfl (by kernel_rfl)) rfl ?_
    exact ⟨rfl, by rw [HSB.out]; exact below_setRow (bl_drewN2 HRES.out.2 _) (Nat.le_refl _) _⟩
set_option maxHeartbeats 3200000 in
set_option maxRecDepth 100000 in
theorem rq_17 (v : Value) (zs : List UInt8) (w : World) (h : Reads w v zs) (hl : zs.length ≤ 1000000) (hk : (Rd.one ⟨zs, false⟩).1 = 17) (hc : (Rd.one ⟨zs, false⟩).2.cut = false) :
    Calls Try.prog 30 #[v] w (PrPost w (parseReqC zs)) := by
  obtain ⟨a1, c1, rfl⟩ := h.len
  have H := Lib.hid h
  have HK := Lib.hid (And.intro hk hc)
  have HPR : Hid (parseReqC zs = prKind (Rd.one ⟨zs, false⟩).1 (Rd.one ⟨zs, false⟩).2) := Lib.hid (parseReqC_eq zs)
  clear h hk hc
  go_enter Try.func30, Try.ntmps30
  go_upto_region 2 with (fail)
  change Code.wp _ _ _ _ ((w.alloc (.cells reqZ0.cells 25)).alloc (.cells #[.slice a1 zs.length c1, .int .i64 0, .int .i64 0] 96))
  have S : RefAt ((w.alloc (.cells reqZ0.cells 25)).alloc (.cells #[.slice a1 zs.length c1, .int .i64 0, .int .i64 0] 96)) (w.heap.size + 1) (.slice a1 zs.length c1) zs ⟨zs, false⟩ := by
    have hrow := heap_alloc_new (w.alloc (.cells reqZ0.cells 25)) (.cells #[.slice a1 zs.length c1, .int .i64 0, .int .i64 0] 96)
    rw [show (w.alloc (.cells reqZ0.cells 25)).heap.size = w.heap.size + 1 by simp] at hrow
    refine ⟨by simp, hl, (cell_of_row _ _ _ _ _ _ hrow).trans rfl, ⟨0, Nat.zero_le _, (cell_of_row _ _ _ _ _ _ hrow).trans rfl, fun _ => rfl⟩, (cell_of_row _ _ _ _ _ _ hrow).trans rfl, fun o => frozen_of_row _ _ _ _ _ hrow, H.out.below (below_alloc2 _ _ _), fun e => ?_⟩
    have := H.out.own_lt _ e
    omega
  have hB := below_alloc2 w (.cells reqZ0.cells 25) (.cells #[.slice a1 zs.length c1, .int .i64 0, .int .i64 0] 96)
  have res0 : ((w.alloc (.cells reqZ0.cells 25)).alloc (.cells #[.slice a1 zs.length c1, .int .i64 0, .int .i64 0] 96)).heap[w.heap.size]? = some (.cells reqZ0.cells 25 (0, 0)) :=
    ((below_alloc _ _).block _ (by simp)).trans (heap_alloc_new _ _)
  have hsz : ((w.alloc (.cells reqZ0.cells 25)).alloc (.cells #[.slice a1 zs.length c1, .int .i64 0, .int .i64 0] 96)).heap.size = w.heap.size + 2 := by simp
  generalize (w.alloc (.cells reqZ0.cells 25)).alloc (.cells #[.slice a1 zs.length c1, .int .i64 0, .int .i64 0] 96) = W1 at *
  have H1 := Lib.hid (And.intro S (And.intro hB (And.intro res0 hsz)))
  clear S hB res0 hsz
  have HOW : Hid (∀ k, (Value.slice a1 zs.length c1).ownBlock = some k → k < W1.heap.size) := Lib.hid (fun k hk => by have := H.out.own_lt k hk; have := H1.out.2.2.2; omega)
  have hsx : w.heap.size < w.heap.size + 1 := by omega
  have HLT : Hid (w.heap.size + 1 < W1.heap.size) := Lib.hid (by have := H1.out.2.2.2; omega)
  generalize hxb : w.heap.size + 1 = xb at *
  have HXB := Lib.hid hxb
  clear hxb
  generalize hsb : w.heap.size = sb at *
  have HSB := Lib.hid hsb
  clear hsb
  go_upto_region 3 with (first
    | (go_at_call 58; refine (ref_u8 xb _ zs ⟨zs, false⟩ W1 H1.out.1).mono ?_; rintro e w2 ⟨rfl, hr2, hs2⟩; rw [HK.out.1]; have H2 := Lib.hid (And.intro hr2 hs2); clear hr2 hs2)
    | (refine wpList_build_at _ rfl 25 _ rfl ((ReqD.mk 17 ⟨#[]⟩ 0 0 0 0 ⟨#[]⟩ ⟨#[]⟩ (PlanD.mk ⟨#[]⟩ 0 0 0 0 0 0 0 0 0))).cells (by kernel_rfl) ?_)
    | (refine wpList_store_row rfl 25 (.tmp 5) (.tmp 11) rfl w2.heap.size ((ReqD.mk 17 ⟨#[]⟩ 0 0 0 0 ⟨#[]⟩ ⟨#[]⟩ (PlanD.mk ⟨#[]⟩ 0 0 0 0 0 0 0 0 0))).cells rfl rfl 25 reqZ0.cells (heap_alloc_new _ _) (by kernel_rfl) rfl (req_one_cells _) ?_))
  change Code.wp _ _ _ _ ((w2.alloc (.cells reqZ0.cells 25)).setRow w2.heap.size ((ReqD.mk 17 ⟨#[]⟩ 0 0 0 0 ⟨#[]⟩ ⟨#[]⟩ (PlanD.mk ⟨#[]⟩ 0 0 0 0 0 0 0 0 0))).cells)
  generalize hr1 : Rd.one ⟨zs, false⟩ = o1 at *
  have HR1 := Lib.hid hr1
  clear hr1
  obtain ⟨ok, r1⟩ := o1
  have hs2 := H2.out.2.size
  have T0 : Hid (RqAt W1 ((w2.alloc (.cells reqZ0.cells 25)).setRow w2.heap.size ((ReqD.mk 17 ⟨#[]⟩ 0 0 0 0 ⟨#[]⟩ ⟨#[]⟩ (PlanD.mk ⟨#[]⟩ 0 0 0 0 0 0 0 0 0))).cells) xb w2.heap.size (.slice a1 zs.length c1) zs r1 ((ReqD.mk 17 ⟨#[]⟩ 0 0 0 0 ⟨#[]⟩ ⟨#[]⟩ (PlanD.mk ⟨#[]⟩ 0 0 0 0 0 0 0 0 0)))) := Lib.hid (by
    have hrow : ((w2.alloc (.cells reqZ0.cells 25)).setRow w2.heap.size ((ReqD.mk 17 ⟨#[]⟩ 0 0 0 0 ⟨#[]⟩ ⟨#[]⟩ (PlanD.mk ⟨#[]⟩ 0 0 0 0 0 0 0 0 0))).cells).heap[w2.heap.size]? = some (.cells ((ReqD.mk 17 ⟨#[]⟩ 0 0 0 0 ⟨#[]⟩ ⟨#[]⟩ (PlanD.mk ⟨#[]⟩ 0 0 0 0 0 0 0 0 0))).cells 25 (0, 0)) := setRow_heap _ _ _ _ _ _ (heap_alloc_new _ _)
    have hB : Below w2.heap.size w2 ((w2.alloc (.cells reqZ0.cells 25)).setRow w2.heap.size ((ReqD.mk 17 ⟨#[]⟩ 0 0 0 0 ⟨#[]⟩ ⟨#[]⟩ (PlanD.mk ⟨#[]⟩ 0 0 0 0 0 0 0 0 0))).cells) := below_setRow (below_alloc _ _) (Nat.le_refl _) _
    have hl := HLT.out
    have hsr : ((w2.alloc (.cells reqZ0.cells 25)).setRow w2.heap.size ((ReqD.mk 17 ⟨#[]⟩ 0 0 0 0 ⟨#[]⟩ ⟨#[]⟩ (PlanD.mk ⟨#[]⟩ 0 0 0 0 0 0 0 0 0))).cells).heap.size = w2.heap.size + 1 := by simp
    exact ⟨⟨hl, by omega, by omega⟩, HOW.out, H2.out.2.grow.trans (RefG.of_below hB), H2.out.1.of_below hB, hrow⟩)
  generalize (w2.alloc (.cells reqZ0.cells 25)).setRow w2.heap.size ((ReqD.mk 17 ⟨#[]⟩ 0 0 0 0 ⟨#[]⟩ ⟨#[]⟩ (PlanD.mk ⟨#[]⟩ 0 0 0 0 0 0 0 0 0))).cells = v0 at *
  generalize hab : w2.heap.size = ab at *
  clear H2 hs2 hab
  have xc0 := T0.out.rd.c2
  rw [show r1.cut = false from HK.out.2] at xc0
  simp only [if_true, if_false, Bool.false_eq_true] at xc0
  have xk0 : v0.cell? ⟨ab, 0, none⟩ = some (.int .i64 17) := T0.out.cells 0 _ rfl
  go_upto_region 5 with (go_at_call 53; refine (ref_kind 17 _).mono ?_; rintro e w' ⟨rfl, rfl⟩; rw [show kindB 17 = true by decide])
  clear xc0 xk0
  go_upto_region 22 with (go_at_call 59; refine (rq_text T0.out).mono ?_; generalize hp1 : Rd.str r1 = p1 at *; have HP1 := Lib.hid hp1; clear hp1; rintro e u1 ⟨rfl, S⟩; have xk0 : u1.cell? ⟨ab, 0, none⟩ = some (.int .i64 17) := S.cells 0 _ rfl; have xk1 : u1.cell? ⟨ab, 1, none⟩ = some (.string ⟨#[]⟩) := S.cells 1 _ rfl; have xkf := S.frz 1; have Q1 := Lib.hid S; clear S)
  have T1 : Hid (RqAt W1 (u1.setCell ⟨ab, 1, none⟩ (.string (strB p1.1))) xb ab (.slice a1 zs.length c1) zs p1.2 (ReqD.mk 17 (strB p1.1) 0 0 0 0 ⟨#[]⟩ ⟨#[]⟩ (PlanD.mk ⟨#[]⟩ 0 0 0 0 0 0 0 0 0))) := Lib.hid (Q1.out.set 1 (.string (strB p1.1)) _ (by decide) rfl)
  generalize u1.setCell ⟨ab, 1, none⟩ (.string (strB p1.1)) = v1 at *
  clear xk0 xk1 xkf Q1 T0
  go_upto_region 23 with (go_at_call 59; refine (rq_text T1.out).mono ?_; generalize hp2 : Rd.str p1.2 = p2 at *; have HP2 := Lib.hid hp2; clear hp2; rintro e u2 ⟨rfl, S⟩; have xk0 : u2.cell? ⟨ab, 0, none⟩ = some (.int .i64 17) := S.cells 0 _ rfl; have xk1 : u2.cell? ⟨ab, 6, none⟩ = some (.string ⟨#[]⟩) := S.cells 6 _ rfl; have xkf := S.frz 6; have Q2 := Lib.hid S; clear S)
  have T2 : Hid (RqAt W1 (u2.setCell ⟨ab, 6, none⟩ (.string (strB p2.1))) xb ab (.slice a1 zs.length c1) zs p2.2 (ReqD.mk 17 (strB p1.1) 0 0 0 0 (strB p2.1) ⟨#[]⟩ (PlanD.mk ⟨#[]⟩ 0 0 0 0 0 0 0 0 0))) := Lib.hid (Q2.out.set 6 (.string (strB p2.1)) _ (by decide) rfl)
  generalize u2.setCell ⟨ab, 6, none⟩ (.string (strB p2.1)) = v2 at *
  clear xk0 xk1 xkf Q2 T1
  go_upto_region 24 with (go_at_call 59; refine (rq_text T2.out).mono ?_; generalize hp3 : Rd.str p2.2 = p3 at *; have HP3 := Lib.hid hp3; clear hp3; rintro e u3 ⟨rfl, S⟩; have xk0 : u3.cell? ⟨ab, 0, none⟩ = some (.int .i64 17) := S.cells 0 _ rfl; have xk1 : u3.cell? ⟨ab, 7, none⟩ = some (.string ⟨#[]⟩) := S.cells 7 _ rfl; have xkf := S.frz 7; have Q3 := Lib.hid S; clear S)
  have T3 : Hid (RqAt W1 (u3.setCell ⟨ab, 7, none⟩ (.string (strB p3.1))) xb ab (.slice a1 zs.length c1) zs p3.2 (ReqD.mk 17 (strB p1.1) 0 0 0 0 (strB p2.1) (strB p3.1) (PlanD.mk ⟨#[]⟩ 0 0 0 0 0 0 0 0 0))) := Lib.hid (Q3.out.set 7 (.string (strB p3.1)) _ (by decide) rfl)
  generalize u3.setCell ⟨ab, 7, none⟩ (.string (strB p3.1)) = v3 at *
  clear xk0 xk1 xkf Q3 T2
  go_upto_region 25 with (go_at_call 59; refine (rq_text T3.out).mono ?_; generalize hp4 : Rd.str p3.2 = p4 at *; have HP4 := Lib.hid hp4; clear hp4; rintro e u4 ⟨rfl, S⟩; have xk0 : u4.cell? ⟨ab, 0, none⟩ = some (.int .i64 17) := S.cells 0 _ rfl; have xk1 : u4.cell? ⟨ab, 8, none⟩ = some (.string ⟨#[]⟩) := S.cells 8 _ rfl; have xkf := S.frz 8; have Q4 := Lib.hid S; clear S)
  have T4 : Hid (RqAt W1 (u4.setCell ⟨ab, 8, none⟩ (.string (strB p4.1))) xb ab (.slice a1 zs.length c1) zs p4.2 (ReqD.mk 17 (strB p1.1) 0 0 0 0 (strB p2.1) (strB p3.1) (PlanD.mk (strB p4.1) 0 0 0 0 0 0 0 0 0))) := Lib.hid (Q4.out.set 8 (.string (strB p4.1)) _ (by decide) rfl)
  generalize u4.setCell ⟨ab, 8, none⟩ (.string (strB p4.1)) = v4 at *
  clear xk0 xk1 xkf Q4 T3
  go_upto_region 35 with (go_at_call 60; refine (rq_int T4.out).mono ?_; generalize hp5 : Rd.int p4.2 = p5 at *; have HP5 := Lib.hid hp5; clear hp5; rintro e u5 ⟨rfl, S⟩; have xk0 : u5.cell? ⟨ab, 0, none⟩ = some (.int .i64 17) := S.cells 0 _ rfl; have xk1 : u5.cell? ⟨ab, 9, none⟩ = some (.int .i64 0) := S.cells 9 _ rfl; have xkf := S.frz 9; have Q5 := Lib.hid S; clear S)
  have T5 : Hid (RqAt W1 (u5.setCell ⟨ab, 9, none⟩ (.int .i64 p5.1)) xb ab (.slice a1 zs.length c1) zs p5.2 (ReqD.mk 17 (strB p1.1) 0 0 0 0 (strB p2.1) (strB p3.1) (PlanD.mk (strB p4.1) p5.1 0 0 0 0 0 0 0 0))) := Lib.hid (Q5.out.set 9 (.int .i64 p5.1) _ (by decide) rfl)
  generalize u5.setCell ⟨ab, 9, none⟩ (.int .i64 p5.1) = v5 at *
  clear xk0 xk1 xkf Q5 T4
  have HRES : Hid (v5.heap[sb]? = some (.cells reqZ0.cells 25 (0, 0)) ∧ Below sb w v5) := Lib.hid (by
    have g := T5.out.grow
    have h1 := HLT.out
    refine ⟨(g.block sb (by omega) (by omega)).trans H1.out.2.2.1, H1.out.2.1.trans ⟨g.os, g.tape, g.output, g.size, fun k hk => g.block k (by omega) (by omega)⟩⟩)
  have HPC : Hid (parseReqC zs = if endE p5.2 = 0 then (((ReqD.mk 17 (strB p1.1) 0 0 0 0 (strB p2.1) (strB p3.1) (PlanD.mk (strB p4.1) p5.1 0 0 0 0 0 0 0 0))).cells.toList, 0) else (reqZ0.cells.toList, endE p5.2)) := Lib.hid (by
    rw [HPR.out, show ok = 17 from HK.out.1, prKind_eq, if_neg (fun h => absurd (show kindB 17 = false from h.2) (by decide)), prKey_eq, prNums_eq, prTexts_eq, prMore_eq]
    have E1 : (Rd.str r1) = p1 := HP1.out
    have EN : Rd.ints 0 p1.2 = ([], p1.2) := by simp only [Rd.ints]
    have ET : Rd.strs 3 p1.2 = ([p2.1, p3.1, p4.1], p4.2) := by simp only [Rd.strs, HP2.out, HP3.out, HP4.out]
    have EM : Rd.ints 1 p4.2 = ([p5.1], p5.2) := by simp only [Rd.ints, HP5.out]
    rw [E1, show (numOffs 17).length = 0 from rfl, show (textOffs 17).length = 3 from rfl, show (moreOffs 17).length = 1 from rfl, EN]
    simp only [ET, EM]
    rw [prEnd_end _ _ _ (by decide)]
    rfl)
  by_cases hz : endE p5.2 = 0
  · have HZ : Hid (parseReqC zs = (((ReqD.mk 17 (strB p1.1) 0 0 0 0 (strB p2.1) (strB p3.1) (PlanD.mk (strB p4.1) p5.1 0 0 0 0 0 0 0 0))).cells.toList, 0)) := Lib.hid (by rw [HPC.out, if_pos hz])
    have HE0 := Lib.hid (rq_end0 T5.out 0 hz)
    go_upto_region 37 with (go_at_call 49; refine HE0.out.mono ?_; rintro ee w5 ⟨rfl, k, rfl⟩)
    go_step
    refine wpList_load_row rfl 25 (.tmp 5) rfl ab rfl 25 ((ReqD.mk 17 (strB p1.1) 0 0 0 0 (strB p2.1) (strB p3.1) (PlanD.mk (strB p4.1) p5.1 0 0 0 0 0 0 0 0))).cells (0, 0) _ T5.out.row Try.underlying25 rfl (by kernel_rfl) ?_
    refine wpList_store_row rfl 25 (.tmp 2) (.tmp 113) rfl sb ((ReqD.mk 17 (strB p1.1) 0 0 0 0 (strB p2.1) (strB p3.1) (PlanD.mk (strB p4.1) p5.1 0 0 0 0 0 0 0 0))).cells rfl rfl 25 reqZ0.cells HRES.out.1 (by kernel_rfl) rfl (req_one_cells _) ?_
    go_wp2
    (try simp only [Exit.inBlock, Exit.then])
    rw [HZ.out]
    refine bodyPost_ret (results_cell_row_tmp rfl _ _ sb rfl ((ReqD.mk 17 (strB p1.1) 0 0 0 0 (strB p2.1) (strB p3.1) (PlanD.mk (strB p4.1) p5.1 0 0 0 0 0 0 0 0))).cells.toList _ (range_setRow HRES.out.1) Try.underlying25 rfl (by kernel_rfl)) rfl ?_
    exact ⟨rfl, by rw [HSB.out]; exact below_setRow (bl_drewN2 HRES.out.2 _) (Nat.le_refl _) _⟩
  · have HZ : Hid (parseReqC zs = (reqZ0.cells.toList, endE p5.2)) := Lib.hid (by rw [HPC.out, if_neg hz])
    have hzb : (endE p5.2 == 0) = false := by simp [hz]
    clear hz
    have HE0 := Lib.hid (rq_end0 T5.out _ rfl)
    have HE := Lib.hid (rq_end1 T5.out _ rfl)
    generalize endE p5.2 = ev at *
    go_upto_region 36 with (go_at_call 49; refine HE0.out.mono ?_; rintro ee w5 ⟨rfl, k, rfl⟩)
    go_wp2_with (first | (go_at_call 49; refine (HE.out _).mono ?_; rintro ee w5 ⟨rfl, k, rfl⟩) | (refine wpList_store_row rfl 25 (.tmp 2) (.tmp 110) rfl sb reqZ0.cells rfl rfl 25 reqZ0.cells HRES.out.1 (by kernel_rfl) rfl (req_one_cells _) ?_))
    (try simp only [Exit.inBlock, Exit.then])
    rw [HZ.out]
    refine bodyPost_ret (results_cell_row_tmp rfl _ _ sb rfl reqZ0.cells.toList _ (range_setRow HRES.out.1) Try.underlying25 rfl (by kernel_rfl)) rfl ?_
    exact ⟨rfl, by rw [HSB.out]; exact below_setRow (bl_drewN2 HRES.out.2 _) (Nat.le_refl _) _⟩
set_option maxHeartbeats 3200000 in
set_option maxRecDepth 100000 in
theorem rq_18 (v : Value) (zs : List UInt8) (w : World) (h : Reads w v zs) (hl : zs.length ≤ 1000000) (hk : (Rd.one ⟨zs, false⟩).1 = 18) (hc : (Rd.one ⟨zs, false⟩).2.cut = false) :
    Calls Try.prog 30 #[v] w (PrPost w (parseReqC zs)) := by
  obtain ⟨a1, c1, rfl⟩ := h.len
  have H := Lib.hid h
  have HK := Lib.hid (And.intro hk hc)
  have HPR : Hid (parseReqC zs = prKind (Rd.one ⟨zs, false⟩).1 (Rd.one ⟨zs, false⟩).2) := Lib.hid (parseReqC_eq zs)
  clear h hk hc
  go_enter Try.func30, Try.ntmps30
  go_upto_region 2 with (fail)
  change Code.wp _ _ _ _ ((w.alloc (.cells reqZ0.cells 25)).alloc (.cells #[.slice a1 zs.length c1, .int .i64 0, .int .i64 0] 96))
  have S : RefAt ((w.alloc (.cells reqZ0.cells 25)).alloc (.cells #[.slice a1 zs.length c1, .int .i64 0, .int .i64 0] 96)) (w.heap.size + 1) (.slice a1 zs.length c1) zs ⟨zs, false⟩ := by
    have hrow := heap_alloc_new (w.alloc (.cells reqZ0.cells 25)) (.cells #[.slice a1 zs.length c1, .int .i64 0, .int .i64 0] 96)
    rw [show (w.alloc (.cells reqZ0.cells 25)).heap.size = w.heap.size + 1 by simp] at hrow
    refine ⟨by simp, hl, (cell_of_row _ _ _ _ _ _ hrow).trans rfl, ⟨0, Nat.zero_le _, (cell_of_row _ _ _ _ _ _ hrow).trans rfl, fun _ => rfl⟩, (cell_of_row _ _ _ _ _ _ hrow).trans rfl, fun o => frozen_of_row _ _ _ _ _ hrow, H.out.below (below_alloc2 _ _ _), fun e => ?_⟩
    have := H.out.own_lt _ e
    omega
  have hB := below_alloc2 w (.cells reqZ0.cells 25) (.cells #[.slice a1 zs.length c1, .int .i64 0, .int .i64 0] 96)
  have res0 : ((w.alloc (.cells reqZ0.cells 25)).alloc (.cells #[.slice a1 zs.length c1, .int .i64 0, .int .i64 0] 96)).heap[w.heap.size]? = some (.cells reqZ0.cells 25 (0, 0)) :=
    ((below_alloc _ _).block _ (by simp)).trans (heap_alloc_new _ _)
  have hsz : ((w.alloc (.cells reqZ0.cells 25)).alloc (.cells #[.slice a1 zs.length c1, .int .i64 0, .int .i64 0] 96)).heap.size = w.heap.size + 2 := by simp
  generalize (w.alloc (.cells reqZ0.cells 25)).alloc (.cells #[.slice a1 zs.length c1, .int .i64 0, .int .i64 0] 96) = W1 at *
  have H1 := Lib.hid (And.intro S (And.intro hB (And.intro res0 hsz)))
  clear S hB res0 hsz
  have HOW : Hid (∀ k, (Value.slice a1 zs.length c1).ownBlock = some k → k < W1.heap.size) := Lib.hid (fun k hk => by have := H.out.own_lt k hk; have := H1.out.2.2.2; omega)
  have hsx : w.heap.size < w.heap.size + 1 := by omega
  have HLT : Hid (w.heap.size + 1 < W1.heap.size) := Lib.hid (by have := H1.out.2.2.2; omega)
  generalize hxb : w.heap.size + 1 = xb at *
  have HXB := Lib.hid hxb
  clear hxb
  generalize hsb : w.heap.size = sb at *
  have HSB := Lib.hid hsb
  clear hsb
  go_upto_region 3 with (first
    | (go_at_call 58; refine (ref_u8 xb _ zs ⟨zs, false⟩ W1 H1.out.1).mono ?_; rintro e w2 ⟨rfl, hr2, hs2⟩; rw [HK.out.1]; have H2 := Lib.hid (And.intro hr2 hs2); clear hr2 hs2)
    | (refine wpList_build_at _ rfl 25 _ rfl ((ReqD.mk 18 ⟨#[]⟩ 0 0 0 0 ⟨#[]⟩ ⟨#[]⟩ (PlanD.mk ⟨#[]⟩ 0 0 0 0 0 0 0 0 0))).cells (by kernel_rfl) ?_)
    | (refine wpList_store_row rfl 25 (.tmp 5) (.tmp 11) rfl w2.heap.size ((ReqD.mk 18 ⟨#[]⟩ 0 0 0 0 ⟨#[]⟩ ⟨#[]⟩ (PlanD.mk ⟨#[]⟩ 0 0 0 0 0 0 0 0 0))).cells rfl rfl 25 reqZ0.cells (heap_alloc_new _ _) (by kernel_rfl) rfl (req_one_cells _) ?_))
  change Code.wp _ _ _ _ ((w2.alloc (.cells reqZ0.cells 25)).setRow w2.heap.size ((ReqD.mk 18 ⟨#[]⟩ 0 0 0 0 ⟨#[]⟩ ⟨#[]⟩ (PlanD.mk ⟨#[]⟩ 0 0 0 0 0 0 0 0 0))).cells)
  generalize hr1 : Rd.one ⟨zs, false⟩ = o1 at *
  have HR1 := Lib.hid hr1
  clear hr1
  obtain ⟨ok, r1⟩ := o1
  have hs2 := H2.out.2.size
  have T0 : Hid (RqAt W1 ((w2.alloc (.cells reqZ0.cells 25)).setRow w2.heap.size ((ReqD.mk 18 ⟨#[]⟩ 0 0 0 0 ⟨#[]⟩ ⟨#[]⟩ (PlanD.mk ⟨#[]⟩ 0 0 0 0 0 0 0 0 0))).cells) xb w2.heap.size (.slice a1 zs.length c1) zs r1 ((ReqD.mk 18 ⟨#[]⟩ 0 0 0 0 ⟨#[]⟩ ⟨#[]⟩ (PlanD.mk ⟨#[]⟩ 0 0 0 0 0 0 0 0 0)))) := Lib.hid (by
    have hrow : ((w2.alloc (.cells reqZ0.cells 25)).setRow w2.heap.size ((ReqD.mk 18 ⟨#[]⟩ 0 0 0 0 ⟨#[]⟩ ⟨#[]⟩ (PlanD.mk ⟨#[]⟩ 0 0 0 0 0 0 0 0 0))).cells).heap[w2.heap.size]? = some (.cells ((ReqD.mk 18 ⟨#[]⟩ 0 0 0 0 ⟨#[]⟩ ⟨#[]⟩ (PlanD.mk ⟨#[]⟩ 0 0 0 0 0 0 0 0 0))).cells 25 (0, 0)) := setRow_heap _ _ _ _ _ _ (heap_alloc_new _ _)
    have hB : Below w2.heap.size w2 ((w2.alloc (.cells reqZ0.cells 25)).setRow w2.heap.size ((ReqD.mk 18 ⟨#[]⟩ 0 0 0 0 ⟨#[]⟩ ⟨#[]⟩ (PlanD.mk ⟨#[]⟩ 0 0 0 0 0 0 0 0 0))).cells) := below_setRow (below_alloc _ _) (Nat.le_refl _) _
    have hl := HLT.out
    have hsr : ((w2.alloc (.cells reqZ0.cells 25)).setRow w2.heap.size ((ReqD.mk 18 ⟨#[]⟩ 0 0 0 0 ⟨#[]⟩ ⟨#[]⟩ (PlanD.mk ⟨#[]⟩ 0 0 0 0 0 0 0 0 0))).cells).heap.size = w2.heap.size + 1 := by simp
    exact ⟨⟨hl, by omega, by omega⟩, HOW.out, H2.out.2.grow.trans (RefG.of_below hB), H2.out.1.of_below hB, hrow⟩)
  generalize (w2.alloc (.cells reqZ0.cells 25)).setRow w2.heap.size ((ReqD.mk 18 ⟨#[]⟩ 0 0 0 0 ⟨#[]⟩ ⟨#[]⟩ (PlanD.mk ⟨#[]⟩ 0 0 0 0 0 0 0 0 0))).cells = v0 at *
  generalize hab : w2.heap.size = ab at *
  clear H2 hs2 hab
  have xc0 := T0.out.rd.c2
  rw [show r1.cut = false from HK.out.2] at xc0
  simp only [if_true, if_false, Bool.false_eq_true] at xc0
  have xk0 : v0.cell? ⟨ab, 0, none⟩ = some (.int .i64 18) := T0.out.cells 0 _ rfl
  go_upto_region 5 with (go_at_call 53; refine (ref_kind 18 _).mono ?_; rintro e w' ⟨rfl, rfl⟩; rw [show kindB 18 = true by decide])
  clear xc0 xk0
  go_upto_region 27 with (go_at_call 59; refine (rq_text T0.out).mono ?_; generalize hp1 : Rd.str r1 = p1 at *; have HP1 := Lib.hid hp1; clear hp1; rintro e u1 ⟨rfl, S⟩; have xk0 : u1.cell? ⟨ab, 0, none⟩ = some (.int .i64 18) := S.cells 0 _ rfl; have xk1 : u1.cell? ⟨ab, 1, none⟩ = some (.string ⟨#[]⟩) := S.cells 1 _ rfl; have xkf := S.frz 1; have Q1 := Lib.hid S; clear S)
  have T1 : Hid (RqAt W1 (u1.setCell ⟨ab, 1, none⟩ (.string (strB p1.1))) xb ab (.slice a1 zs.length c1) zs p1.2 (ReqD.mk 18 (strB p1.1) 0 0 0 0 ⟨#[]⟩ ⟨#[]⟩ (PlanD.mk ⟨#[]⟩ 0 0 0 0 0 0 0 0 0))) := Lib.hid (Q1.out.set 1 (.string (strB p1.1)) _ (by decide) rfl)
  generalize u1.setCell ⟨ab, 1, none⟩ (.string (strB p1.1)) = v1 at *
  clear xk0 xk1 xkf Q1 T0
  go_upto_region 28 with (go_at_call 59; refine (rq_text T1.out).mono ?_; generalize hp2 : Rd.str p1.2 = p2 at *; have HP2 := Lib.hid hp2; clear hp2; rintro e u2 ⟨rfl, S⟩; have xk0 : u2.cell? ⟨ab, 0, none⟩ = some (.int .i64 18) := S.cells 0 _ rfl; have xk1 : u2.cell? ⟨ab, 6, none⟩ = some (.string ⟨#[]⟩) := S.cells 6 _ rfl; have xkf := S.frz 6; have Q2 := Lib.hid S; clear S)
  have T2 : Hid (RqAt W1 (u2.setCell ⟨ab, 6, none⟩ (.string (strB p2.1))) xb ab (.slice a1 zs.length c1) zs p2.2 (ReqD.mk 18 (strB p1.1) 0 0 0 0 (strB p2.1) ⟨#[]⟩ (PlanD.mk ⟨#[]⟩ 0 0 0 0 0 0 0 0 0))) := Lib.hid (Q2.out.set 6 (.string (strB p2.1)) _ (by decide) rfl)
  generalize u2.setCell ⟨ab, 6, none⟩ (.string (strB p2.1)) = v2 at *
  clear xk0 xk1 xkf Q2 T1
  go_upto_region 29 with (go_at_call 59; refine (rq_text T2.out).mono ?_; generalize hp3 : Rd.str p2.2 = p3 at *; have HP3 := Lib.hid hp3; clear hp3; rintro e u3 ⟨rfl, S⟩; have xk0 : u3.cell? ⟨ab, 0, none⟩ = some (.int .i64 18) := S.cells 0 _ rfl; have xk1 : u3.cell? ⟨ab, 8, none⟩ = some (.string ⟨#[]⟩) := S.cells 8 _ rfl; have xkf := S.frz 8; have Q3 := Lib.hid S; clear S)
  have T3 : Hid (RqAt W1 (u3.setCell ⟨ab, 8, none⟩ (.string (strB p3.1))) xb ab (.slice a1 zs.length c1) zs p3.2 (ReqD.mk 18 (strB p1.1) 0 0 0 0 (strB p2.1) ⟨#[]⟩ (PlanD.mk (strB p3.1) 0 0 0 0 0 0 0 0 0))) := Lib.hid (Q3.out.set 8 (.string (strB p3.1)) _ (by decide) rfl)
  generalize u3.setCell ⟨ab, 8, none⟩ (.string (strB p3.1)) = v3 at *
  clear xk0 xk1 xkf Q3 T2
  go_upto_region 35 with (go_at_call 60; refine (rq_int T3.out).mono ?_; generalize hp4 : Rd.int p3.2 = p4 at *; have HP4 := Lib.hid hp4; clear hp4; rintro e u4 ⟨rfl, S⟩; have xk0 : u4.cell? ⟨ab, 0, none⟩ = some (.int .i64 18) := S.cells 0 _ rfl; have xk1 : u4.cell? ⟨ab, 9, none⟩ = some (.int .i64 0) := S.cells 9 _ rfl; have xkf := S.frz 9; have Q4 := Lib.hid S; clear S)
  have T4 : Hid (RqAt W1 (u4.setCell ⟨ab, 9, none⟩ (.int .i64 p4.1)) xb ab (.slice a1 zs.length c1) zs p4.2 (ReqD.mk 18 (strB p1.1) 0 0 0 0 (strB p2.1) ⟨#[]⟩ (PlanD.mk (strB p3.1) p4.1 0 0 0 0 0 0 0 0))) := Lib.hid (Q4.out.set 9 (.int .i64 p4.1) _ (by decide) rfl)
  generalize u4.setCell ⟨ab, 9, none⟩ (.int .i64 p4.1) = v4 at *
  clear xk0 xk1 xkf Q4 T3
  have HRES : Hid (v4.heap[sb]? = some (.cells reqZ0.cells 25 (0, 0)) ∧ Below sb w v4) := Lib.hid (by
    have g := T4.out.grow
    have h1 := HLT.out
    refine ⟨(g.block sb (by omega) (by omega)).trans H1.out.2.2.1, H1.out.2.1.trans ⟨g.os, g.tape, g.output, g.size, fun k hk => g.block k (by omega) (by omega)⟩⟩)
  have HPC : Hid (parseReqC zs = if endE p4.2 = 0 then (((ReqD.mk 18 (strB p1.1) 0 0 0 0 (strB p2.1) ⟨#[]⟩ (PlanD.mk (strB p3.1) p4.1 0 0 0 0 0 0 0 0))).cells.toList, 0) else (reqZ0.cells.toList, endE p4.2)) := Lib.hid (by
    rw [HPR.out, show ok = 18 from HK.out.1, prKind_eq, if_neg (fun h => absurd (show kindB 18 = false from h.2) (by decide)), prKey_eq, prNums_eq, prTexts_eq, prMore_eq]
    have E1 : (Rd.str r1) = p1 := HP1.out
    have EN : Rd.ints 0 p1.2 = ([], p1.2) := by simp only [Rd.ints]
    have ET : Rd.strs 2 p1.2 = ([p2.1, p3.1], p3.2) := by simp only [Rd.strs, HP2.out, HP3.out]
    have EM : Rd.ints 1 p3.2 = ([p4.1], p4.2) := by simp only [Rd.ints, HP4.out]
    rw [E1, show (numOffs 18).length = 0 from rfl, show (textOffs 18).length = 2 from rfl, show (moreOffs 18).length = 1 from rfl, EN]
    simp only [ET, EM]
    rw [prEnd_end _ _ _ (by decide)]
    rfl)
  by_cases hz : endE p4.2 = 0
  · have HZ : Hid (parseReqC zs = (((ReqD.mk 18 (strB p1.1) 0 0 0 0 (strB p2.1) ⟨#[]⟩ (PlanD.mk (strB p3.1) p4.1 0 0 0 0 0 0 0 0))).cells.toList, 0)) := Lib.hid (by rw [HPC.out, if_pos hz])
    have HE0 := Lib.hid (rq_end0 T4.out 0 hz)
    go_upto_region 37 with (go_at_call 49; refine HE0.out.mono ?_; rintro ee w5 ⟨rfl, k, rfl⟩)
    go_step
    refine wpList_load_row rfl 25 (.tmp 5) rfl ab rfl 25 ((ReqD.mk 18 (strB p1.1) 0 0 0 0 (strB p2.1) ⟨#[]⟩ (PlanD.mk (strB p3.1) p4.1 0 0 0 0 0 0 0 0))).cells (0, 0) _ T4.out.row Try.underlying25 rfl (by kernel_rfl) ?_
    refine wpList_store_row rfl 25 (.tmp 2) (.tmp 113) rfl sb ((ReqD.mk 18 (strB p1.1) 0 0 0 0 (strB p2.1) ⟨#[]⟩ (PlanD.mk (strB p3.1) p4.1 0 0 0 0 0 0 0 0))).cells rfl rfl 25 reqZ0.cells HRES.out.1 (by kernel_rfl) rfl (req_one_cells _) ?_
    go_wp2
    (try simp only [Exit.inBlock, Exit.then])
    rw [HZ.out]
    refine bodyPost_ret (results_cell_row_tmp rfl _ _ sb rfl ((ReqD.mk 18 (strB p1.1) 0 0 0 0 (strB p2.1) ⟨#[]⟩ (PlanD.mk (strB p3.1) p4.1 0 0 0 0 0 0 0 0))).cells.toList _ (range_setRow HRES.out.1) Try.underlying25 rfl (by kernel_rfl)) rfl ?_
    exact ⟨rfl, by rw [HSB.out]; exact below_setRow (bl_drewN2 HRES.out.2 _) (Nat.le_refl _) _⟩
  · have HZ : Hid (parseReqC zs = (reqZ0.cells.toList, endE p4.2)) := Lib.hid (by rw [HPC.out, if_neg hz])
    have hzb : (endE p4.2 == 0) = false := by simp [hz]
    clear hz
    have HE0 := Lib.hid (rq_end0 T4.out _ rfl)
    have HE := Lib.hid (rq_end1 T4.out _ rfl)
    generalize endE p4.2 = ev at *
    go_upto_region 36 with (go_at_call 49; refine HE0.out.mono ?_; rintro ee w5 ⟨rfl, k, rfl⟩)
    go_wp2_with (first | (go_at_call 49; refine (HE.out _).mono ?_; rintro ee w5 ⟨rfl, k, rfl⟩) | (refine wpList_store_row rfl 25 (.tmp 2) (.tmp 110) rfl sb reqZ0.cells rfl rfl 25 reqZ0.cells HRES.out.1 (by kernel_rfl) rfl (req_one_cells _) ?_))
    (try simp only [Exit.inBlock, Exit.then])
    rw [HZ.out]
    refine bodyPost_ret (results_cell_row_tmp rfl _ _ sb rfl reqZ0.cells.toList _ (range_setRow HRES.out.1) Try.underlying25 rfl (by kernel_rfl)) rfl ?_
    exact ⟨rfl, by rw [HSB.out]; exact below_setRow (bl_drewN2 HRES.out.2 _) (Nat.le_refl _) _⟩
set_option maxHeartbeats 3200000 in
set_option maxRecDepth 100000 in
theorem rq_19 (v : Value) (zs : List UInt8) (w : World) (h : Reads w v zs) (hl : zs.length ≤ 1000000) (hk : (Rd.one ⟨zs, false⟩).1 = 19) (hc : (Rd.one ⟨zs, false⟩).2.cut = false) :
    Calls Try.prog 30 #[v] w (PrPost w (parseReqC zs)) := by
  obtain ⟨a1, c1, rfl⟩ := h.len
  have H := Lib.hid h
  have HK := Lib.hid (And.intro hk hc)
  have HPR : Hid (parseReqC zs = prKind (Rd.one ⟨zs, false⟩).1 (Rd.one ⟨zs, false⟩).2) := Lib.hid (parseReqC_eq zs)
  clear h hk hc
  go_enter Try.func30, Try.ntmps30
  go_upto_region 2 with (fail)
  change Code.wp _ _ _ _ ((w.alloc (.cells reqZ0.cells 25)).alloc (.cells #[.slice a1 zs.length c1, .int .i64 0, .int .i64 0] 96))
  have S : RefAt ((w.alloc (.cells reqZ0.cells 25)).alloc (.cells #[.slice a1 zs.length c1, .int .i64 0, .int .i64 0] 96)) (w.heap.size + 1) (.slice a1 zs.length c1) zs ⟨zs, false⟩ := by
    have hrow := heap_alloc_new (w.alloc (.cells reqZ0.cells 25)) (.cells #[.slice a1 zs.length c1, .int .i64 0, .int .i64 0] 96)
    rw [show (w.alloc (.cells reqZ0.cells 25)).heap.size = w.heap.size + 1 by simp] at hrow
    refine ⟨by simp, hl, (cell_of_row _ _ _ _ _ _ hrow).trans rfl, ⟨0, Nat.zero_le _, (cell_of_row _ _ _ _ _ _ hrow).trans rfl, fun _ => rfl⟩, (cell_of_row _ _ _ _ _ _ hrow).trans rfl, fun o => frozen_of_row _ _ _ _ _ hrow, H.out.below (below_alloc2 _ _ _), fun e => ?_⟩
    have := H.out.own_lt _ e
    omega
  have hB := below_alloc2 w (.cells reqZ0.cells 25) (.cells #[.slice a1 zs.length c1, .int .i64 0, .int .i64 0] 96)
  have res0 : ((w.alloc (.cells reqZ0.cells 25)).alloc (.cells #[.slice a1 zs.length c1, .int .i64 0, .int .i64 0] 96)).heap[w.heap.size]? = some (.cells reqZ0.cells 25 (0, 0)) :=
    ((below_alloc _ _).block _ (by simp)).trans (heap_alloc_new _ _)
  have hsz : ((w.alloc (.cells reqZ0.cells 25)).alloc (.cells #[.slice a1 zs.length c1, .int .i64 0, .int .i64 0] 96)).heap.size = w.heap.size + 2 := by simp
  generalize (w.alloc (.cells reqZ0.cells 25)).alloc (.cells #[.slice a1 zs.length c1, .int .i64 0, .int .i64 0] 96) = W1 at *
  have H1 := Lib.hid (And.intro S (And.intro hB (And.intro res0 hsz)))
  clear S hB res0 hsz
  have HOW : Hid (∀ k, (Value.slice a1 zs.length c1).ownBlock = some k → k < W1.heap.size) := Lib.hid (fun k hk => by have := H.out.own_lt k hk; have := H1.out.2.2.2; omega)
  have hsx : w.heap.size < w.heap.size + 1 := by omega
  have HLT : Hid (w.heap.size + 1 < W1.heap.size) := Lib.hid (by have := H1.out.2.2.2; omega)
  generalize hxb : w.heap.size + 1 = xb at *
  have HXB := Lib.hid hxb
  clear hxb
  generalize hsb : w.heap.size = sb at *
  have HSB := Lib.hid hsb
  clear hsb
  go_upto_region 3 with (first
    | (go_at_call 58; refine (ref_u8 xb _ zs ⟨zs, false⟩ W1 H1.out.1).mono ?_; rintro e w2 ⟨rfl, hr2, hs2⟩; rw [HK.out.1]; have H2 := Lib.hid (And.intro hr2 hs2); clear hr2 hs2)
    | (refine wpList_build_at _ rfl 25 _ rfl ((ReqD.mk 19 ⟨#[]⟩ 0 0 0 0 ⟨#[]⟩ ⟨#[]⟩ (PlanD.mk ⟨#[]⟩ 0 0 0 0 0 0 0 0 0))).cells (by kernel_rfl) ?_)
    | (refine wpList_store_row rfl 25 (.tmp 5) (.tmp 11) rfl w2.heap.size ((ReqD.mk 19 ⟨#[]⟩ 0 0 0 0 ⟨#[]⟩ ⟨#[]⟩ (PlanD.mk ⟨#[]⟩ 0 0 0 0 0 0 0 0 0))).cells rfl rfl 25 reqZ0.cells (heap_alloc_new _ _) (by kernel_rfl) rfl (req_one_cells _) ?_))
  change Code.wp _ _ _ _ ((w2.alloc (.cells reqZ0.cells 25)).setRow w2.heap.size ((ReqD.mk 19 ⟨#[]⟩ 0 0 0 0 ⟨#[]⟩ ⟨#[]⟩ (PlanD.mk ⟨#[]⟩ 0 0 0 0 0 0 0 0 0))).cells)
  generalize hr1 : Rd.one ⟨zs, false⟩ = o1 at *
  have HR1 := Lib.hid hr1
  clear hr1
  obtain ⟨ok, r1⟩ := o1
  have hs2 := H2.out.2.size
  have T0 : Hid (RqAt W1 ((w2.alloc (.cells reqZ0.cells 25)).setRow w2.heap.size ((ReqD.mk 19 ⟨#[]⟩ 0 0 0 0 ⟨#[]⟩ ⟨#[]⟩ (PlanD.mk ⟨#[]⟩ 0 0 0 0 0 0 0 0 0))).cells) xb w2.heap.size (.slice a1 zs.length c1) zs r1 ((ReqD.mk 19 ⟨#[]⟩ 0 0 0 0 ⟨#[]⟩ ⟨#[]⟩ (PlanD.mk ⟨#[]⟩ 0 0 0 0 0 0 0 0 0)))) := Lib.hid (by
    have hrow : ((w2.alloc (.cells reqZ0.cells 25)).setRow w2.heap.size ((ReqD.mk 19 ⟨#[]⟩ 0 0 0 0 ⟨#[]⟩ ⟨#[]⟩ (PlanD.mk ⟨#[]⟩ 0 0 0 0 0 0 0 0 0))).cells).heap[w2.heap.size]? = some (.cells ((ReqD.mk 19 ⟨#[]⟩ 0 0 0 0 ⟨#[]⟩ ⟨#[]⟩ (PlanD.mk ⟨#[]⟩ 0 0 0 0 0 0 0 0 0))).cells 25 (0, 0)) := setRow_heap _ _ _ _ _ _ (heap_alloc_new _ _)
    have hB : Below w2.heap.size w2 ((w2.alloc (.cells reqZ0.cells 25)).setRow w2.heap.size ((ReqD.mk 19 ⟨#[]⟩ 0 0 0 0 ⟨#[]⟩ ⟨#[]⟩ (PlanD.mk ⟨#[]⟩ 0 0 0 0 0 0 0 0 0))).cells) := below_setRow (below_alloc _ _) (Nat.le_refl _) _
    have hl := HLT.out
    have hsr : ((w2.alloc (.cells reqZ0.cells 25)).setRow w2.heap.size ((ReqD.mk 19 ⟨#[]⟩ 0 0 0 0 ⟨#[]⟩ ⟨#[]⟩ (PlanD.mk ⟨#[]⟩ 0 0 0 0 0 0 0 0 0))).cells).heap.size = w2.heap.size + 1 := by simp
    exact ⟨⟨hl, by omega, by omega⟩, HOW.out, H2.out.2.grow.trans (RefG.of_below hB), H2.out.1.of_below hB, hrow⟩)
  generalize (w2.alloc (.cells reqZ0.cells 25)).setRow w2.heap.size ((ReqD.mk 19 ⟨#[]⟩ 0 0 0 0 ⟨#[]⟩ ⟨#[]⟩ (PlanD.mk ⟨#[]⟩ 0 0 0 0 0 0 0 0 0))).cells = v0 at *
  generalize hab : w2.heap.size = ab at *
  clear H2 hs2 hab
  have xc0 := T0.out.rd.c2
  rw [show r1.cut = false from HK.out.2] at xc0
  simp only [if_true, if_false, Bool.false_eq_true] at xc0
  have xk0 : v0.cell? ⟨ab, 0, none⟩ = some (.int .i64 19) := T0.out.cells 0 _ rfl
  go_upto_region 5 with (go_at_call 53; refine (ref_kind 19 _).mono ?_; rintro e w' ⟨rfl, rfl⟩; rw [show kindB 19 = true by decide])
  clear xc0 xk0
  go_upto_region 31 with (go_at_call 59; refine (rq_text T0.out).mono ?_; generalize hp1 : Rd.str r1 = p1 at *; have HP1 := Lib.hid hp1; clear hp1; rintro e u1 ⟨rfl, S⟩; have xk0 : u1.cell? ⟨ab, 0, none⟩ = some (.int .i64 19) := S.cells 0 _ rfl; have xk1 : u1.cell? ⟨ab, 1, none⟩ = some (.string ⟨#[]⟩) := S.cells 1 _ rfl; have xkf := S.frz 1; have Q1 := Lib.hid S; clear S)
  have T1 : Hid (RqAt W1 (u1.setCell ⟨ab, 1, none⟩ (.string (strB p1.1))) xb ab (.slice a1 zs.length c1) zs p1.2 (ReqD.mk 19 (strB p1.1) 0 0 0 0 ⟨#[]⟩ ⟨#[]⟩ (PlanD.mk ⟨#[]⟩ 0 0 0 0 0 0 0 0 0))) := Lib.hid (Q1.out.set 1 (.string (strB p1.1)) _ (by decide) rfl)
  generalize u1.setCell ⟨ab, 1, none⟩ (.string (strB p1.1)) = v1 at *
  clear xk0 xk1 xkf Q1 T0
  go_upto_region 35 with (go_at_call 60; refine (rq_int T1.out).mono ?_; generalize hp2 : Rd.int p1.2 = p2 at *; have HP2 := Lib.hid hp2; clear hp2; rintro e u2 ⟨rfl, S⟩; have xk0 : u2.cell? ⟨ab, 0, none⟩ = some (.int .i64 19) := S.cells 0 _ rfl; have xk1 : u2.cell? ⟨ab, 3, none⟩ = some (.int .i64 0) := S.cells 3 _ rfl; have xkf := S.frz 3; have Q2 := Lib.hid S; clear S)
  have T2 : Hid (RqAt W1 (u2.setCell ⟨ab, 3, none⟩ (.int .i64 p2.1)) xb ab (.slice a1 zs.length c1) zs p2.2 (ReqD.mk 19 (strB p1.1) 0 p2.1 0 0 ⟨#[]⟩ ⟨#[]⟩ (PlanD.mk ⟨#[]⟩ 0 0 0 0 0 0 0 0 0))) := Lib.hid (Q2.out.set 3 (.int .i64 p2.1) _ (by decide) rfl)
  generalize u2.setCell ⟨ab, 3, none⟩ (.int .i64 p2.1) = v2 at *
  clear xk0 xk1 xkf Q2 T1
  have HRES : Hid (v2.heap[sb]? = some (.cells reqZ0.cells 25 (0, 0)) ∧ Below sb w v2) := Lib.hid (by
    have g := T2.out.grow
    have h1 := HLT.out
    refine ⟨(g.block sb (by omega) (by omega)).trans H1.out.2.2.1, H1.out.2.1.trans ⟨g.os, g.tape, g.output, g.size, fun k hk => g.block k (by omega) (by omega)⟩⟩)
  have HPC : Hid (parseReqC zs = if endE p2.2 = 0 then (((ReqD.mk 19 (strB p1.1) 0 p2.1 0 0 ⟨#[]⟩ ⟨#[]⟩ (PlanD.mk ⟨#[]⟩ 0 0 0 0 0 0 0 0 0))).cells.toList, 0) else (reqZ0.cells.toList, endE p2.2)) := Lib.hid (by
    rw [HPR.out, show ok = 19 from HK.out.1, prKind_eq, if_neg (fun h => absurd (show kindB 19 = false from h.2) (by decide)), prKey_eq, prNums_eq, prTexts_eq, prMore_eq]
    have E1 : (Rd.str r1) = p1 := HP1.out
    have EN : Rd.ints 1 p1.2 = ([p2.1], p2.2) := by simp only [Rd.ints, HP2.out]
    have ET : Rd.strs 0 p2.2 = ([], p2.2) := by simp only [Rd.strs]
    have EM : Rd.ints 0 p2.2 = ([], p2.2) := by simp only [Rd.ints]
    rw [E1, show (numOffs 19).length = 1 from rfl, show (textOffs 19).length = 0 from rfl, show (moreOffs 19).length = 0 from rfl, EN]
    simp only [ET, EM]
    rw [prEnd_end _ _ _ (by decide)]
    rfl)
  by_cases hz : endE p2.2 = 0
  · have HZ : Hid (parseReqC zs = (((ReqD.mk 19 (strB p1.1) 0 p2.1 0 0 ⟨#[]⟩ ⟨#[]⟩ (PlanD.mk ⟨#[]⟩ 0 0 0 0 0 0 0 0 0))).cells.toList, 0)) := Lib.hid (by rw [HPC.out, if_pos hz])
    have HE0 := Lib.hid (rq_end0 T2.out 0 hz)
    go_upto_region 37 with (go_at_call 49; refine HE0.out.mono ?_; rintro ee w5 ⟨rfl, k, rfl⟩)
    go_step
    refine wpList_load_row rfl 25 (.tmp 5) rfl ab rfl 25 ((ReqD.mk 19 (strB p1.1) 0 p2.1 0 0 ⟨#[]⟩ ⟨#[]⟩ (PlanD.mk ⟨#[]⟩ 0 0 0 0 0 0 0 0 0))).cells (0, 0) _ T2.out.row Try.underlying25 rfl (by kernel_rfl) ?_
    refine wpList_store_row rfl 25 (.tmp 2) (.tmp 113) rfl sb ((ReqD.mk 19 (strB p1.1) 0 p2.1 0 0 ⟨#[]⟩ ⟨#[]⟩ (PlanD.mk ⟨#[]⟩ 0 0 0 0 0 0 0 0 0))).cells rfl rfl 25 reqZ0.cells HRES.out.1 (by kernel_rfl) rfl (req_one_cells _) ?_
    go_wp2
    (try simp only [Exit.inBlock, Exit.then])
    rw [HZ.out]
    refine bodyPost_ret (results_cell_row_tmp rfl _ _ sb rfl ((ReqD.mk 19 (strB p1.1) 0 p2.1 0 0 ⟨#[]⟩ ⟨#[]⟩ (PlanD.mk ⟨#[]⟩ 0 0 0 0 0 0 0 0 0))).cells.toList _ (range_setRow HRES.out.1) Try.underlying25 rfl (by kernel_rfl)) rfl ?_
    exact ⟨rfl, by rw [HSB.out]; exact below_setRow (bl_drewN2 HRES.out.2 _) (Nat.le_refl _) _⟩
  · have HZ : Hid (parseReqC zs = (reqZ0.cells.toList, endE p2.2)) := Lib.hid (by rw [HPC.out, if_neg hz])
    have hzb : (endE p2.2 == 0) = false := by simp [hz]
    clear hz
    have HE0 := Lib.hid (rq_end0 T2.out _ rfl)
    have HE := Lib.hid (rq_end1 T2.out _ rfl)
    generalize endE p2.2 = ev at *
    go_upto_region 36 with (go_at_call 49; refine HE0.out.mono ?_; rintro ee w5 ⟨rfl, k, rfl⟩)
    go_wp2_with (first | (go_at_call 49; refine (HE.out _).mono ?_; rintro ee w5 ⟨rfl, k, rfl⟩) | (refine wpList_store_row rfl 25 (.tmp 2) (.tmp 110) rfl sb reqZ0.cells rfl rfl 25 reqZ0.cells HRES.out.1 (by kernel_rfl) rfl (req_one_cells _) ?_))
    (try simp only [Exit.inBlock, Exit.then])
    rw [HZ.out]
    refine bodyPost_ret (results_cell_row_tmp rfl _ _ sb rfl reqZ0.cells.toList _ (range_setRow HRES.out.1) Try.underlying25 rfl (by kernel_rfl)) rfl ?_
    exact ⟨rfl, by rw [HSB.out]; exact below_setRow (bl_drewN2 HRES.out.2 _) (Nat.le_refl _) _⟩
set_option maxHeartbeats 3200000 in
set_option maxRecDepth 100000 in
theorem rq_20 (v : Value) (zs : List UInt8) (w : World) (h : Reads w v zs) (hl : zs.length ≤ 1000000) (hk : (Rd.one ⟨zs, false⟩).1 = 20) (hc : (Rd.one ⟨zs, false⟩).2.cut = false) :
    Calls Try.prog 30 #[v] w (PrPost w (parseReqC zs)) := by
  obtain ⟨a1, c1, rfl⟩ := h.len
  have H := Lib.hid h
  have HK := Lib.hid (And.intro hk hc)
  have HPR : Hid (parseReqC zs = prKind (Rd.one ⟨zs, false⟩).1 (Rd.one ⟨zs, false⟩).2) := Lib.hid (parseReqC_eq zs)
  clear h hk hc
  go_enter Try.func30, Try.ntmps30
  go_upto_region 2 with (fail)
  change Code.wp _ _ _ _ ((w.alloc (.cells reqZ0.cells 25)).alloc (.cells #[.slice a1 zs.length c1, .int .i64 0, .int .i64 0] 96))
  have S : RefAt ((w.alloc (.cells reqZ0.cells 25)).alloc (.cells #[.slice a1 zs.length c1, .int .i64 0, .int .i64 0] 96)) (w.heap.size + 1) (.slice a1 zs.length c1) zs ⟨zs, false⟩ := by
    have hrow := heap_alloc_new (w.alloc (.cells reqZ0.cells 25)) (.cells #[.slice a1 zs.length c1, .int .i64 0, .int .i64 0] 96)
    rw [show (w.alloc (.cells reqZ0.cells 25)).heap.size = w.heap.size + 1 by simp] at hrow
    refine ⟨by simp, hl, (cell_of_row _ _ _ _ _ _ hrow).trans rfl, ⟨0, Nat.zero_le _, (cell_of_row _ _ _ _ _ _ hrow).trans rfl, fun _ => rfl⟩, (cell_of_row _ _ _ _ _ _ hrow).trans rfl, fun o => frozen_of_row _ _ _ _ _ hrow, H.out.below (below_alloc2 _ _ _), fun e => ?_⟩
    have := H.out.own_lt _ e
    omega
  have hB := below_alloc2 w (.cells reqZ0.cells 25) (.cells #[.slice a1 zs.length c1, .int .i64 0, .int .i64 0] 96)
  have res0 : ((w.alloc (.cells reqZ0.cells 25)).alloc (.cells #[.slice a1 zs.length c1, .int .i64 0, .int .i64 0] 96)).heap[w.heap.size]? = some (.cells reqZ0.cells 25 (0, 0)) :=
    ((below_alloc _ _).block _ (by simp)).trans (heap_alloc_new _ _)
  have hsz : ((w.alloc (.cells reqZ0.cells 25)).alloc (.cells #[.slice a1 zs.length c1, .int .i64 0, .int .i64 0] 96)).heap.size = w.heap.size + 2 := by simp
  generalize (w.alloc (.cells reqZ0.cells 25)).alloc (.cells #[.slice a1 zs.length c1, .int .i64 0, .int .i64 0] 96) = W1 at *
  have H1 := Lib.hid (And.intro S (And.intro hB (And.intro res0 hsz)))
  clear S hB res0 hsz
  have HOW : Hid (∀ k, (Value.slice a1 zs.length c1).ownBlock = some k → k < W1.heap.size) := Lib.hid (fun k hk => by have := H.out.own_lt k hk; have := H1.out.2.2.2; omega)
  have hsx : w.heap.size < w.heap.size + 1 := by omega
  have HLT : Hid (w.heap.size + 1 < W1.heap.size) := Lib.hid (by have := H1.out.2.2.2; omega)
  generalize hxb : w.heap.size + 1 = xb at *
  have HXB := Lib.hid hxb
  clear hxb
  generalize hsb : w.heap.size = sb at *
  have HSB := Lib.hid hsb
  clear hsb
  go_upto_region 3 with (first
    | (go_at_call 58; refine (ref_u8 xb _ zs ⟨zs, false⟩ W1 H1.out.1).mono ?_; rintro e w2 ⟨rfl, hr2, hs2⟩; rw [HK.out.1]; have H2 := Lib.hid (And.intro hr2 hs2); clear hr2 hs2)
    | (refine wpList_build_at _ rfl 25 _ rfl ((ReqD.mk 20 ⟨#[]⟩ 0 0 0 0 ⟨#[]⟩ ⟨#[]⟩ (PlanD.mk ⟨#[]⟩ 0 0 0 0 0 0 0 0 0))).cells (by kernel_rfl) ?_)
    | (refine wpList_store_row rfl 25 (.tmp 5) (.tmp 11) rfl w2.heap.size ((ReqD.mk 20 ⟨#[]⟩ 0 0 0 0 ⟨#[]⟩ ⟨#[]⟩ (PlanD.mk ⟨#[]⟩ 0 0 0 0 0 0 0 0 0))).cells rfl rfl 25 reqZ0.cells (heap_alloc_new _ _) (by kernel_rfl) rfl (req_one_cells _) ?_))
  change Code.wp _ _ _ _ ((w2.alloc (.cells reqZ0.cells 25)).setRow w2.heap.size ((ReqD.mk 20 ⟨#[]⟩ 0 0 0 0 ⟨#[]⟩ ⟨#[]⟩ (PlanD.mk ⟨#[]⟩ 0 0 0 0 0 0 0 0 0))).cells)
  generalize hr1 : Rd.one ⟨zs, false⟩ = o1 at *
  have HR1 := Lib.hid hr1
  clear hr1
  obtain ⟨ok, r1⟩ := o1
  have hs2 := H2.out.2.size
  have T0 : Hid (RqAt W1 ((w2.alloc (.cells reqZ0.cells 25)).setRow w2.heap.size ((ReqD.mk 20 ⟨#[]⟩ 0 0 0 0 ⟨#[]⟩ ⟨#[]⟩ (PlanD.mk ⟨#[]⟩ 0 0 0 0 0 0 0 0 0))).cells) xb w2.heap.size (.slice a1 zs.length c1) zs r1 ((ReqD.mk 20 ⟨#[]⟩ 0 0 0 0 ⟨#[]⟩ ⟨#[]⟩ (PlanD.mk ⟨#[]⟩ 0 0 0 0 0 0 0 0 0)))) := Lib.hid (by
    have hrow : ((w2.alloc (.cells reqZ0.cells 25)).setRow w2.heap.size ((ReqD.mk 20 ⟨#[]⟩ 0 0 0 0 ⟨#[]⟩ ⟨#[]⟩ (PlanD.mk ⟨#[]⟩ 0 0 0 0 0 0 0 0 0))).cells).heap[w2.heap.size]? = some (.cells ((ReqD.mk 20 ⟨#[]⟩ 0 0 0 0 ⟨#[]⟩ ⟨#[]⟩ (PlanD.mk ⟨#[]⟩ 0 0 0 0 0 0 0 0 0))).cells 25 (0, 0)) := setRow_heap _ _ _ _ _ _ (heap_alloc_new _ _)
    have hB : Below w2.heap.size w2 ((w2.alloc (.cells reqZ0.cells 25)).setRow w2.heap.size ((ReqD.mk 20 ⟨#[]⟩ 0 0 0 0 ⟨#[]⟩ ⟨#[]⟩ (PlanD.mk ⟨#[]⟩ 0 0 0 0 0 0 0 0 0))).cells) := below_setRow (below_alloc _ _) (Nat.le_refl _) _
    have hl := HLT.out
    have hsr : ((w2.alloc (.cells reqZ0.cells 25)).setRow w2.heap.size ((ReqD.mk 20 ⟨#[]⟩ 0 0 0 0 ⟨#[]⟩ ⟨#[]⟩ (PlanD.mk ⟨#[]⟩ 0 0 0 0 0 0 0 0 0))).cells).heap.size = w2.heap.size + 1 := by simp
    exact ⟨⟨hl, by omega, by omega⟩, HOW.out, H2.out.2.grow.trans (RefG.of_below hB), H2.out.1.of_below hB, hrow⟩)
  generalize (w2.alloc (.cells reqZ0.cells 25)).setRow w2.heap.size ((ReqD.mk 20 ⟨#[]⟩ 0 0 0 0 ⟨#[]⟩ ⟨#[]⟩ (PlanD.mk ⟨#[]⟩ 0 0 0 0 0 0 0 0 0))).cells = v0 at *
  generalize hab : w2.heap.size = ab at *
  clear H2 hs2 hab
  have xc0 := T0.out.rd.c2
  rw [show r1.cut = false from HK.out.2] at xc0
  simp only [if_true, if_false, Bool.false_eq_true] at xc0
  have xk0 : v0.cell? ⟨ab, 0, none⟩ = some (.int .i64 20) := T0.out.cells 0 _ rfl
  go_upto_region 5 with (go_at_call 53; refine (ref_kind 20 _).mono ?_; rintro e w' ⟨rfl, rfl⟩; rw [show kindB 20 = true by decide])
  clear xc0 xk0
  go_upto_region 33 with (go_at_call 59; refine (rq_text T0.out).mono ?_; generalize hp1 : Rd.str r1 = p1 at *; have HP1 := Lib.hid hp1; clear hp1; rintro e u1 ⟨rfl, S⟩; have xk0 : u1.cell? ⟨ab, 0, none⟩ = some (.int .i64 20) := S.cells 0 _ rfl; have xk1 : u1.cell? ⟨ab, 1, none⟩ = some (.string ⟨#[]⟩) := S.cells 1 _ rfl; have xkf := S.frz 1; have Q1 := Lib.hid S; clear S)
  have T1 : Hid (RqAt W1 (u1.setCell ⟨ab, 1, none⟩ (.string (strB p1.1))) xb ab (.slice a1 zs.length c1) zs p1.2 (ReqD.mk 20 (strB p1.1) 0 0 0 0 ⟨#[]⟩ ⟨#[]⟩ (PlanD.mk ⟨#[]⟩ 0 0 0 0 0 0 0 0 0))) := Lib.hid (Q1.out.set 1 (.string (strB p1.1)) _ (by decide) rfl)
  generalize u1.setCell ⟨ab, 1, none⟩ (.string (strB p1.1)) = v1 at *
  clear xk0 xk1 xkf Q1 T0
  go_upto_region 34 with (go_at_call 59; refine (rq_text T1.out).mono ?_; generalize hp2 : Rd.str p1.2 = p2 at *; have HP2 := Lib.hid hp2; clear hp2; rintro e u2 ⟨rfl, S⟩; have xk0 : u2.cell? ⟨ab, 0, none⟩ = some (.int .i64 20) := S.cells 0 _ rfl; have xk1 : u2.cell? ⟨ab, 6, none⟩ = some (.string ⟨#[]⟩) := S.cells 6 _ rfl; have xkf := S.frz 6; have Q2 := Lib.hid S; clear S)
  have T2 : Hid (RqAt W1 (u2.setCell ⟨ab, 6, none⟩ (.string (strB p2.1))) xb ab (.slice a1 zs.length c1) zs p2.2 (ReqD.mk 20 (strB p1.1) 0 0 0 0 (strB p2.1) ⟨#[]⟩ (PlanD.mk ⟨#[]⟩ 0 0 0 0 0 0 0 0 0))) := Lib.hid (Q2.out.set 6 (.string (strB p2.1)) _ (by decide) rfl)
  generalize u2.setCell ⟨ab, 6, none⟩ (.string (strB p2.1)) = v2 at *
  clear xk0 xk1 xkf Q2 T1
  go_upto_region 35 with (go_at_call 60; refine (rq_int T2.out).mono ?_; generalize hp3 : Rd.int p2.2 = p3 at *; have HP3 := Lib.hid hp3; clear hp3; rintro e u3 ⟨rfl, S⟩; have xk0 : u3.cell? ⟨ab, 0, none⟩ = some (.int .i64 20) := S.cells 0 _ rfl; have xk1 : u3.cell? ⟨ab, 3, none⟩ = some (.int .i64 0) := S.cells 3 _ rfl; have xkf := S.frz 3; have Q3 := Lib.hid S; clear S)
  have T3 : Hid (RqAt W1 (u3.setCell ⟨ab, 3, none⟩ (.int .i64 p3.1)) xb ab (.slice a1 zs.length c1) zs p3.2 (ReqD.mk 20 (strB p1.1) 0 p3.1 0 0 (strB p2.1) ⟨#[]⟩ (PlanD.mk ⟨#[]⟩ 0 0 0 0 0 0 0 0 0))) := Lib.hid (Q3.out.set 3 (.int .i64 p3.1) _ (by decide) rfl)
  generalize u3.setCell ⟨ab, 3, none⟩ (.int .i64 p3.1) = v3 at *
  clear xk0 xk1 xkf Q3 T2
  have HRES : Hid (v3.heap[sb]? = some (.cells reqZ0.cells 25 (0, 0)) ∧ Below sb w v3) := Lib.hid (by
    have g := T3.out.grow
    have h1 := HLT.out
    refine ⟨(g.block sb (by omega) (by omega)).trans H1.out.2.2.1, H1.out.2.1.trans ⟨g.os, g.tape, g.output, g.size, fun k hk => g.block k (by omega) (by omega)⟩⟩)
  have HPC : Hid (parseReqC zs = if endE p3.2 = 0 then (((ReqD.mk 20 (strB p1.1) 0 p3.1 0 0 (strB p2.1) ⟨#[]⟩ (PlanD.mk ⟨#[]⟩ 0 0 0 0 0 0 0 0 0))).cells.toList, 0) else (reqZ0.cells.toList, endE p3.2)) := Lib.hid (by
    rw [HPR.out, show ok = 20 from HK.out.1, prKind_eq, if_neg (fun h => absurd (show kindB 20 = false from h.2) (by decide)), prKey_eq, prNums_eq, prTexts_eq, prMore_eq]
    have E1 : (Rd.str r1) = p1 := HP1.out
    have EN : Rd.ints 0 p1.2 = ([], p1.2) := by simp only [Rd.ints]
    have ET : Rd.strs 1 p1.2 = ([p2.1], p2.2) := by simp only [Rd.strs, HP2.out]
    have EM : Rd.ints 1 p2.2 = ([p3.1], p3.2) := by simp only [Rd.ints, HP3.out]
    rw [E1, show (numOffs 20).length = 0 from rfl, show (textOffs 20).length = 1 from rfl, show (moreOffs 20).length = 1 from rfl, EN]
    simp only [ET, EM]
    rw [prEnd_end _ _ _ (by decide)]
    rfl)
  by_cases hz : endE p3.2 = 0
  · have HZ : Hid (parseReqC zs = (((ReqD.mk 20 (strB p1.1) 0 p3.1 0 0 (strB p2.1) ⟨#[]⟩ (PlanD.mk ⟨#[]⟩ 0 0 0 0 0 0 0 0 0))).cells.toList, 0)) := Lib.hid (by rw [HPC.out, if_pos hz])
    have HE0 := Lib.hid (rq_end0 T3.out 0 hz)
    go_upto_region 37 with (go_at_call 49; refine HE0.out.mono ?_; rintro ee w5 ⟨rfl, k, rfl⟩)
    go_step
    refine wpList_load_row rfl 25 (.tmp 5) rfl ab rfl 25 ((ReqD.mk 20 (strB p1.1) 0 p3.1 0 0 (strB p2.1) ⟨#[]⟩ (PlanD.mk ⟨#[]⟩ 0 0 0 0 0 0 0 0 0))).cells (0, 0) _ T3.out.row Try.underlying25 rfl (by kernel_rfl) ?_
    refine wpList_store_row rfl 25 (.tmp 2) (.tmp 113) rfl sb ((ReqD.mk 20 (strB p1.1) 0 p3.1 0 0 (strB p2.1) ⟨#[]⟩ (PlanD.mk ⟨#[]⟩ 0 0 0 0 0 0 0 0 0))).cells rfl rfl 25 reqZ0.cells HRES.out.1 (by kernel_rfl) rfl (req_one_cells _) ?_
    go_wp2
    (try simp only [Exit.inBlock, Exit.then])
    rw [HZ.out]
    refine bodyPost_ret (results_cell_row_tmp rfl _ _ sb rfl ((ReqD.mk 20 (strB p1.1) 0 p3.1 0 0 (strB p2.1) ⟨#[]⟩ (PlanD.mk ⟨#[]⟩ 0 0 0 0 0 0 0 0 0))).cells.toList _ (range_setRow HRES.out.1) Try.underlying25 rfl (by kernel_rfl)) rfl ?_
    exact ⟨rfl, by rw [HSB.out]; exact below_setRow (bl_drewN2 HRES.out.2 _) (Nat.le_refl _) _⟩
  · have HZ : Hid (parseReqC zs = (reqZ0.cells.toList, endE p3.2)) := Lib.hid (by rw [HPC.out, if_neg hz])
    have hzb : (endE p3.2 == 0) = false := by simp [hz]
    clear hz
    have HE0 := Lib.hid (rq_end0 T3.out _ rfl)
    have HE := Lib.hid (rq_end1 T3.out _ rfl)
    generalize endE p3.2 = ev at *
    go_upto_region 36 with (go_at_call 49; refine HE0.out.mono ?_; rintro ee w5 ⟨rfl, k, rfl⟩)
    go_wp2_with (first | (go_at_call 49; refine (HE.out _).mono ?_; rintro ee w5 ⟨rfl, k, rfl⟩) | (refine wpList_store_row rfl 25 (.tmp 2) (.tmp 110) rfl sb reqZ0.cells rfl rfl 25 reqZ0.cells HRES.out.1 (by kernel_rfl) rfl (req_one_cells _) ?_))
    (try simp only [Exit.inBlock, Exit.then])
    rw [HZ.out]
    refine bodyPost_ret (results_cell_row_tmp rfl _ _ sb rfl reqZ0.cells.toList _ (range_setRow HRES.out.1) Try.underlying25 rfl (by kernel_rfl)) rfl ?_
    exact ⟨rfl, by rw [HSB.out]; exact below_setRow (bl_drewN2 HRES.out.2 _) (Nat.le_refl _) _⟩
set_option maxHeartbeats 3200000 in
set_option maxRecDepth 100000 in
theorem rq_n (v : Value) (zs : List UInt8) (w : World) (h : Reads w v zs) (hl : zs.length ≤ 1000000) (hk : kindB (Rd.one ⟨zs, false⟩).1 = false) (hc : (Rd.one ⟨zs, false⟩).2.cut = false) :
    Calls Try.prog 30 #[v] w (PrPost w (parseReqC zs)) := by
  obtain ⟨a1, c1, rfl⟩ := h.len
  have H := Lib.hid h
  have HK := Lib.hid (And.intro hk hc)
  have HPR : Hid (parseReqC zs = prKind (Rd.one ⟨zs, false⟩).1 (Rd.one ⟨zs, false⟩).2) := Lib.hid (parseReqC_eq zs)
  clear h hk hc
  go_enter Try.func30, Try.ntmps30
  go_upto_region 2 with (fail)
  change Code.wp _ _ _ _ ((w.alloc (.cells reqZ0.cells 25)).alloc (.cells #[.slice a1 zs.length c1, .int .i64 0, .int .i64 0] 96))
  have S : RefAt ((w.alloc (.cells reqZ0.cells 25)).alloc (.cells #[.slice a1 zs.length c1, .int .i64 0, .int .i64 0] 96)) (w.heap.size + 1) (.slice a1 zs.length c1) zs ⟨zs, false⟩ := by
    have hrow := heap_alloc_new (w.alloc (.cells reqZ0.cells 25)) (.cells #[.slice a1 zs.length c1, .int .i64 0, .int .i64 0] 96)
    rw [show (w.alloc (.cells reqZ0.cells 25)).heap.size = w.heap.size + 1 by simp] at hrow
    refine ⟨by simp, hl, (cell_of_row _ _ _ _ _ _ hrow).trans rfl, ⟨0, Nat.zero_le _, (cell_of_row _ _ _ _ _ _ hrow).trans rfl, fun _ => rfl⟩, (cell_of_row _ _ _ _ _ _ hrow).trans rfl, fun o => frozen_of_row _ _ _ _ _ hrow, H.out.below (below_alloc2 _ _ _), fun e => ?_⟩
    have := H.out.own_lt _ e
    omega
  have hB := below_alloc2 w (.cells reqZ0.cells 25) (.cells #[.slice a1 zs.length c1, .int .i64 0, .int .i64 0] 96)
  have res0 : ((w.alloc (.cells reqZ0.cells 25)).alloc (.cells #[.slice a1 zs.length c1, .int .i64 0, .int .i64 0] 96)).heap[w.heap.size]? = some (.cells reqZ0.cells 25 (0, 0)) :=
    ((below_alloc _ _).block _ (by simp)).trans (heap_alloc_new _ _)
  have hsz : ((w.alloc (.cells reqZ0.cells 25)).alloc (.cells #[.slice a1 zs.length c1, .int .i64 0, .int .i64 0] 96)).heap.size = w.heap.size + 2 := by simp
  generalize (w.alloc (.cells reqZ0.cells 25)).alloc (.cells #[.slice a1 zs.length c1, .int .i64 0, .int .i64 0] 96) = W1 at *
  have H1 := Lib.hid (And.intro S (And.intro hB (And.intro res0 hsz)))
  clear S hB res0 hsz
  have HOW : Hid (∀ k, (Value.slice a1 zs.length c1).ownBlock = some k → k < W1.heap.size) := Lib.hid (fun k hk => by have := H.out.own_lt k hk; have := H1.out.2.2.2; omega)
  have hsx : w.heap.size < w.heap.size + 1 := by omega
  have HLT : Hid (w.heap.size + 1 < W1.heap.size) := Lib.hid (by have := H1.out.2.2.2; omega)
  generalize hxb : w.heap.size + 1 = xb at *
  have HXB := Lib.hid hxb
  clear hxb
  generalize hsb : w.heap.size = sb at *
  have HSB := Lib.hid hsb
  clear hsb
  go_upto_region 3 with (first
    | (go_at_call 58; refine (ref_u8 xb _ zs ⟨zs, false⟩ W1 H1.out.1).mono ?_; rintro e w2 ⟨rfl, hr2, hs2⟩; generalize hkk : (Rd.one ⟨zs, false⟩).1 = K at *; have H2 := Lib.hid (And.intro hr2 hs2); clear hr2 hs2)
    | (refine wpList_build_at _ rfl 25 _ rfl ((ReqD.mk K ⟨#[]⟩ 0 0 0 0 ⟨#[]⟩ ⟨#[]⟩ (PlanD.mk ⟨#[]⟩ 0 0 0 0 0 0 0 0 0))).cells (by kernel_rfl) ?_)
    | (refine wpList_store_row rfl 25 (.tmp 5) (.tmp 11) rfl w2.heap.size ((ReqD.mk K ⟨#[]⟩ 0 0 0 0 ⟨#[]⟩ ⟨#[]⟩ (PlanD.mk ⟨#[]⟩ 0 0 0 0 0 0 0 0 0))).cells rfl rfl 25 reqZ0.cells (heap_alloc_new _ _) (by kernel_rfl) rfl (req_one_cells _) ?_))
  change Code.wp _ _ _ _ ((w2.alloc (.cells reqZ0.cells 25)).setRow w2.heap.size ((ReqD.mk K ⟨#[]⟩ 0 0 0 0 ⟨#[]⟩ ⟨#[]⟩ (PlanD.mk ⟨#[]⟩ 0 0 0 0 0 0 0 0 0))).cells)
  have HKK := Lib.hid hkk
  clear hkk
  generalize hr1 : Rd.one ⟨zs, false⟩ = o1 at *
  have HR1 := Lib.hid hr1
  clear hr1
  obtain ⟨ok, r1⟩ := o1
  have hs2 := H2.out.2.size
  have T0 : Hid (RqAt W1 ((w2.alloc (.cells reqZ0.cells 25)).setRow w2.heap.size ((ReqD.mk K ⟨#[]⟩ 0 0 0 0 ⟨#[]⟩ ⟨#[]⟩ (PlanD.mk ⟨#[]⟩ 0 0 0 0 0 0 0 0 0))).cells) xb w2.heap.size (.slice a1 zs.length c1) zs r1 ((ReqD.mk K ⟨#[]⟩ 0 0 0 0 ⟨#[]⟩ ⟨#[]⟩ (PlanD.mk ⟨#[]⟩ 0 0 0 0 0 0 0 0 0)))) := Lib.hid (by
    have hrow : ((w2.alloc (.cells reqZ0.cells 25)).setRow w2.heap.size ((ReqD.mk K ⟨#[]⟩ 0 0 0 0 ⟨#[]⟩ ⟨#[]⟩ (PlanD.mk ⟨#[]⟩ 0 0 0 0 0 0 0 0 0))).cells).heap[w2.heap.size]? = some (.cells ((ReqD.mk K ⟨#[]⟩ 0 0 0 0 ⟨#[]⟩ ⟨#[]⟩ (PlanD.mk ⟨#[]⟩ 0 0 0 0 0 0 0 0 0))).cells 25 (0, 0)) := setRow_heap _ _ _ _ _ _ (heap_alloc_new _ _)
    have hB : Below w2.heap.size w2 ((w2.alloc (.cells reqZ0.cells 25)).setRow w2.heap.size ((ReqD.mk K ⟨#[]⟩ 0 0 0 0 ⟨#[]⟩ ⟨#[]⟩ (PlanD.mk ⟨#[]⟩ 0 0 0 0 0 0 0 0 0))).cells) := below_setRow (below_alloc _ _) (Nat.le_refl _) _
    have hl := HLT.out
    have hsr : ((w2.alloc (.cells reqZ0.cells 25)).setRow w2.heap.size ((ReqD.mk K ⟨#[]⟩ 0 0 0 0 ⟨#[]⟩ ⟨#[]⟩ (PlanD.mk ⟨#[]⟩ 0 0 0 0 0 0 0 0 0))).cells).heap.size = w2.heap.size + 1 := by simp
    exact ⟨⟨hl, by omega, by omega⟩, HOW.out, H2.out.2.grow.trans (RefG.of_below hB), H2.out.1.of_below hB, hrow⟩)
  generalize (w2.alloc (.cells reqZ0.cells 25)).setRow w2.heap.size ((ReqD.mk K ⟨#[]⟩ 0 0 0 0 ⟨#[]⟩ ⟨#[]⟩ (PlanD.mk ⟨#[]⟩ 0 0 0 0 0 0 0 0 0))).cells = v0 at *
  generalize hab : w2.heap.size = ab at *
  clear H2 hs2 hab
  have xc0 := T0.out.rd.c2
  rw [show r1.cut = false from HK.out.2] at xc0
  simp only [if_true, if_false, Bool.false_eq_true] at xc0
  have xk0 : v0.cell? ⟨ab, 0, none⟩ = some (.int .i64 K) := T0.out.cells 0 _ rfl
  have HRES : Hid (v0.heap[sb]? = some (.cells reqZ0.cells 25 (0, 0)) ∧ Below sb w v0) := Lib.hid (by
    have g := T0.out.grow
    have h1 := HLT.out
    refine ⟨(g.block sb (by omega) (by omega)).trans H1.out.2.2.1, H1.out.2.1.trans ⟨g.os, g.tape, g.output, g.size, fun k hk => g.block k (by omega) (by omega)⟩⟩)
  have HZ : Hid (parseReqC zs = (reqZ0.cells.toList, 3)) := Lib.hid (by rw [HPR.out, prKind_eq, if_pos ⟨HK.out.2, HK.out.1⟩])
  go_wp2_with (first | (go_at_call 53; refine (ref_kind K _).mono ?_; rintro e w' ⟨rfl, rfl⟩; rw [HK.out.1]) | (refine wpList_store_row rfl 25 (.tmp 2) (.tmp 23) rfl sb reqZ0.cells rfl rfl 25 reqZ0.cells HRES.out.1 (by kernel_rfl) rfl (req_one_cells _) ?_))
  (try simp only [Exit.inBlock, Exit.then])
  rw [HZ.out]
  refine bodyPost_ret (results_cell_row_tmp rfl _ _ sb rfl reqZ0.cells.toList _ (range_setRow HRES.out.1) Try.underlying25 rfl (by kernel_rfl)) rfl ?_
  exact ⟨rfl, by rw [HSB.out]; exact below_setRow HRES.out.2 (Nat.le_refl _) _⟩
theorem rq_none (v : Value) (zs : List UInt8) (w : World) (h : Reads w v zs) (hl : zs.length ≤ 1000000) (hk : kindB (Rd.one ⟨zs, false⟩).1 = false) (hc : (Rd.one ⟨zs, false⟩).2.cut = false) :
    Calls Try.prog 30 #[v] w (PrPost w (parseReqC zs)) := rq_n v zs w h hl hk hc
/-- ParseRequest of the document: it answers what frame's answers. -/
theorem ref_parse_req (v : Value) (zs : List UInt8) (w : World) (h : Reads w v zs) (hl : zs.length ≤ 1000000) :
    Calls Try.prog 30 #[v] w (PrPost w (parseReqC zs)) := by
  cases hc : (Rd.one ⟨zs, false⟩).2.cut with
  | true => exact rq_0 v zs w h hl (one_cut0 _ hc) hc
  | false =>
    cases hk : kindB (Rd.one ⟨zs, false⟩).1 with
    | false => exact rq_none v zs w h hl hk hc
    | true =>
      have h0 : ∀ k : Int, kindB k = true → k = 1 ∨ k = 2 ∨ k = 3 ∨ k = 4 ∨ k = 5 ∨ k = 16 ∨ k = 17 ∨ k = 18 ∨ k = 19 ∨ k = 20 := fun k hk => by simp [kindB] at hk; omega
      rcases h0 _ hk with e | e | e | e | e | e | e | e | e | e
      · exact rq_1 v zs w h hl e hc
      · exact rq_2 v zs w h hl e hc
      · exact rq_3 v zs w h hl e hc
      · exact rq_4 v zs w h hl e hc
      · exact rq_5 v zs w h hl e hc
      · exact rq_16 v zs w h hl e hc
      · exact rq_17 v zs w h hl e hc
      · exact rq_18 v zs w h hl e hc
      · exact rq_19 v zs w h hl e hc
      · exact rq_20 v zs w h hl e hc
end Go.Proofs.Ytehkgcmdndehaaa
