/-
  Plain words: an account out of bytes. No program in sight.
-/
/-
  Law RecNumbers, walked.
-/
import Derived.Test.YtehkgcmdndehaaaDoorGPRA12
import Derived.Test.YtehkgcmdndehaaaDoorGPRA09
import Derived.Test.YtehkgcmdndehaaaDoorGPRA22
import Derived.Test.YtehkgcmdndehaaaDoorGPRA23
import Derived.Deep.DeepCutAuto
import Derived.Deep.CutBlock
import Derived.Test.YtehkgcmdndehaaaDoorGPRA10
import Derived.Test.YtehkgcmdndehaaaDoorGPRA16
import Derived.Lib.Strings
namespace Go.Proofs.YtehkgcmdndehaaaDoor
set_option linter.unusedSimpArgs false
set_option linter.unusedVariables false
open Go.RowKit

def manyRd {α : Type} (f : Re → α × Re) : Nat → Re → List α × Re
  | 0, r => ([], r)
  | n + 1, r => if r.err = 0 then ((f r).1 :: (manyRd f n (f r).2).1, (manyRd f n (f r).2).2) else ([], r)
def lotOf (l : List Int) : LotD := ⟨l.getD 0 0, l.getD 1 0, l.getD 2 0, l.getD 3 0, l.getD 4 0, l.getD 5 0, l.getD 6 0, l.getD 7 0, l.getD 8 0⟩
def lotRd (r : Re) : LotD × Re := (lotOf (Re.ints 9 r).1, (Re.ints 9 r).2)
def partRd (r : Re) : PartD × Re := (⟨(Re.ints 2 r).1.getD 0 0, (Re.ints 2 r).1.getD 1 0⟩, (Re.ints 2 r).2)
/-- An answer's tail: the flag is read; a statement. -/
def tailRd (r : Re) : StmtD × Re :=
  if r.one.1 = 0 then (stmtZ, r.one.2) else if r.one.1 = 1 then ((stmtRd r.one.2).1, if (stmtRd r.one.2).1.term = 0 then (stmtRd r.one.2).2.fail 11 else (stmtRd r.one.2).2) else (stmtZ, r.one.2.fail 11)
def ansRd (r : Re) : AnsD × Re :=
  let l := Re.ints 3 r.one.2
  (⟨r.one.1, l.1.getD 0 0, l.1.getD 1 0, l.1.getD 2 0, (tailRd l.2).1⟩, (tailRd l.2).2)
def holdRd (r : Re) : HoldD × Re :=
  let a := Re.ints 1 r
  let ps := manyRd partRd a.2.one.1.toNat a.2.one.2
  let b := Re.ints 2 ps.2
  (⟨a.1.getD 0 0, ps.1, b.1.getD 0 0, b.1.getD 1 0⟩, b.2)
def entryRd (r : Re) : EntryD × Re := (⟨(Re.ints 1 r).1.getD 0 0, (ansRd (Re.ints 1 r).2).1⟩, (ansRd (Re.ints 1 r).2).2)
def lotsRd (r : Re) : List LotD × Re := manyRd lotRd r.one.1.toNat r.one.2
def holdsRd (r : Re) : List HoldD × Re := manyRd holdRd r.one.1.toNat r.one.2
def winRd (r : Re) : List EntryD × Re := manyRd entryRd r.one.1.toNat r.one.2
/-- An account's lists. -/
def fillRd (r : Re) : (List LotD × Int × Int × List HoldD × List EntryD) × Re :=
  let ls := lotsRd r
  let o := Re.ints 2 ls.2
  let hs := holdsRd o.2
  let ws := winRd hs.2
  ((ls.1, o.1.getD 0 0, o.1.getD 1 0, hs.1, ws.1), ws.2)
def accRd (r : Re) : AccD × Re :=
  let k := r.str.2.str
  let p := planRd k.2
  let t := Re.ints 3 p.2
  let f := fillRd t.2
  (⟨strB r.str.1, strB k.1, p.1, t.1.getD 0 0, t.1.getD 1 0, t.1.getD 2 0, f.1.1, f.1.2.1, f.1.2.2.1, f.1.2.2.2.1, f.1.2.2.2.2⟩, f.2)

theorem many_zero {α : Type} (f : Re → α × Re) (r : Re) : manyRd f 0 r = ([], r) := rfl
theorem many_le {α : Type} (f : Re → α × Re) (hf : ∀ r, (f r).2.bs.length ≤ r.bs.length) : ∀ n r, (manyRd f n r).2.bs.length ≤ r.bs.length
  | 0, r => Nat.le_refl _
  | n + 1, r => by
    unfold manyRd
    split
    · exact Nat.le_trans (many_le f hf n _) (hf r)
    · exact Nat.le_refl _
theorem many_length {α : Type} (f : Re → α × Re) : ∀ n r, (manyRd f n r).1.length ≤ n
  | 0, r => Nat.le_refl _
  | n + 1, r => by
    unfold manyRd
    split
    · have := many_length f n (f r).2
      simp only [List.length_cons]; omega
    · simp
/-- One more is read at the end. -/
theorem many_snoc {α : Type} (f : Re → α × Re) : ∀ n r, manyRd f (n + 1) r = if (manyRd f n r).2.err = 0 then ((manyRd f n r).1 ++ [(f (manyRd f n r).2).1], (f (manyRd f n r).2).2) else manyRd f n r
  | 0, r => rfl
  | n + 1, r => by
    rw [manyRd]
    by_cases h : r.err = 0
    · rw [if_pos h, many_snoc f n (f r).2]
      rw [show manyRd f (n + 1) r = ((f r).1 :: (manyRd f n (f r).2).1, (manyRd f n (f r).2).2) by rw [manyRd, if_pos h]]
      simp only
      split <;> simp
    · rw [if_neg h]
      rw [show manyRd f (n + 1) r = ([], r) by rw [manyRd, if_neg h]]
      simp [h]
/-- Behind an error nothing more is read. -/
theorem many_stop {α : Type} (f : Re → α × Re) (n : Nat) (r : Re) (h : (manyRd f n r).2.err ≠ 0) : ∀ m, manyRd f (n + m) r = manyRd f n r
  | 0 => rfl
  | m + 1 => by
    rw [← Nat.add_assoc, many_snoc, many_stop f n r h m, if_neg h]
attribute [local irreducible] Re.ints Re.str manyRd
theorem fail_le (r : Re) (e : Int) : (r.fail e).bs.length ≤ r.bs.length := by rw [Re.fail_bs]; exact Nat.le_refl _
theorem planRd_le (r : Re) : (planRd r).2.bs.length ≤ r.bs.length := Nat.le_trans (Re.ints_le 9 _) r.str_le
theorem stmtRd_le (r : Re) : (stmtRd r).2.bs.length ≤ r.bs.length := Nat.le_trans (Re.ints_le 8 _) r.str_le
theorem tailRd_le (r : Re) : (tailRd r).2.bs.length ≤ r.bs.length := by
  unfold tailRd
  split
  · exact r.one_le
  · split
    · simp only
      split
      · exact Nat.le_trans (fail_le _ _) (Nat.le_trans (stmtRd_le _) r.one_le)
      · exact Nat.le_trans (stmtRd_le _) r.one_le
    · exact Nat.le_trans (fail_le _ _) r.one_le
theorem ansRd_le (r : Re) : (ansRd r).2.bs.length ≤ r.bs.length := Nat.le_trans (tailRd_le _) (Nat.le_trans (Re.ints_le 3 _) r.one_le)
theorem entryRd_le (r : Re) : (entryRd r).2.bs.length ≤ r.bs.length := Nat.le_trans (ansRd_le _) (Re.ints_le 1 r)
theorem lotRd_le (r : Re) : (lotRd r).2.bs.length ≤ r.bs.length := Re.ints_le 9 r
theorem partRd_le (r : Re) : (partRd r).2.bs.length ≤ r.bs.length := Re.ints_le 2 r
theorem holdRd_le (r : Re) : (holdRd r).2.bs.length ≤ r.bs.length := Nat.le_trans (Re.ints_le 2 _) (Nat.le_trans (many_le _ partRd_le _ _) (Nat.le_trans (Re.one_le _) (Re.ints_le 1 r)))
theorem lotsRd_le (r : Re) : (lotsRd r).2.bs.length ≤ r.bs.length := Nat.le_trans (many_le _ lotRd_le _ _) r.one_le
theorem holdsRd_le (r : Re) : (holdsRd r).2.bs.length ≤ r.bs.length := Nat.le_trans (many_le _ holdRd_le _ _) r.one_le
theorem winRd_le (r : Re) : (winRd r).2.bs.length ≤ r.bs.length := Nat.le_trans (many_le _ entryRd_le _ _) r.one_le
theorem reone_cast (r : Re) : r.one.1 = ((r.one.1.toNat : Nat) : Int) ∧ r.one.1.toNat ≤ 255 := by
  have := reone_bd r
  omega
end Go.Proofs.YtehkgcmdndehaaaDoor

namespace Go.Proofs.YtehkgcmdndehaaaDoor
set_option linter.unusedSimpArgs false
set_option linter.unusedVariables false
open Go.RowKit

set_option maxHeartbeats 3200000 in
set_option maxRecDepth 100000 in
theorem ref_rplan (xb : Nat) (bv : Value) (zs : List UInt8) (r : Rd) (w : World) (h : RefAt w xb bv zs r) :
    Calls Tryd.prog 40 #[.pointer (some ⟨xb, 0, none⟩)] w (RsPost w xb bv zs (planOf r.str.1 (Rd.ints 9 r.str.2).1).cells (Rd.ints 9 r.str.2).2) := by
  have H := Lib.hid h
  clear h
  go_enter Tryd.func40, Tryd.ntmps40
  go_upto_region 1 with (fail)
  change Code.wp _ _ _ _ (w.alloc (.cells plan0.cells 26))
  have hB0 := below_alloc w (.cells plan0.cells 26)
  have res0 : (w.alloc (.cells plan0.cells 26)).heap[w.heap.size]? = some (.cells plan0.cells 26 (0, 0)) := heap_alloc_new _ _
  have hrd0 := H.out.of_below hB0
  have hs0 : (w.alloc (.cells plan0.cells 26)).heap.size = w.heap.size + 1 := by simp
  generalize w.alloc (.cells plan0.cells 26) = W0 at *
  have H0 := Lib.hid (And.intro hB0 (And.intro res0 (And.intro hrd0 hs0)))
  clear hB0 res0 hrd0 hs0
  go_upto_region 2 with (go_at_call 62; refine (ref_text xb bv zs r W0 H0.out.2.2.1).mono ?_; rintro e w2 ⟨rfl, hr2, hs2⟩; have H2 := Lib.hid (And.intro hr2 hs2); clear hr2 hs2)
  generalize hstr : r.str = s at *
  have HSTR := Lib.hid hstr
  clear hstr
  change Code.wp _ _ _ _ (w2.alloc (.cells (PlanD.mk (strB s.1) 0 0 0 0 0 0 0 0 0).cells 26))
  have S : BkAt w (w2.alloc (.cells (PlanD.mk (strB s.1) 0 0 0 0 0 0 0 0 0).cells 26)) xb w.heap.size w2.heap.size 26 plan0.cells bv zs s.2 (PlanD.mk (strB s.1) 0 0 0 0 0 0 0 0 0).cells := by
    have hab := heap_alloc_new w2 (.cells (PlanD.mk (strB s.1) 0 0 0 0 0 0 0 0 0).cells 26)
    have hal := below_alloc w2 (.cells (PlanD.mk (strB s.1) 0 0 0 0 0 0 0 0 0).cells 26)
    have hsz3 : (w2.alloc (.cells (PlanD.mk (strB s.1) 0 0 0 0 0 0 0 0 0).cells 26)).heap.size = w2.heap.size + 1 := by simp
    have hx := H.out.lt
    have h0 := H0.out.2.2.2
    have hs2 := H2.out.2.size
    refine ⟨⟨hx, Nat.le_refl _, by omega, by omega⟩, (reads_own_lt H.out.reads), ?_, ?_, H2.out.1.of_below hal, fun o u h => ?_, fun o => frozen_of_row _ _ _ _ _ hab⟩
    · exact ((RefG.of_below (H0.out.1)).trans H2.out.2.grow).trans (RefG.of_below hal)
    · exact (hal.block _ (by omega)).trans ((H2.out.2.block _ (by omega)).trans H0.out.2.1)
    · rw [cell_of_row _ _ _ _ _ _ hab]; exact h
  have T0 := Lib.hid S
  generalize w2.alloc (.cells (PlanD.mk (strB s.1) 0 0 0 0 0 0 0 0 0).cells 26) = v0 at *
  generalize w2.heap.size = ab at *
  have hG : Hid (w.heap.size = w.heap.size) := Lib.hid rfl
  generalize hsb : w.heap.size = sb at T0 ⊢
  have HSB := Lib.hid hsb
  clear S H0 H2 hsb hG
  go_upto_region 3 with (go_at_call 63; refine (bk_int T0.out).mono ?_; generalize hi1 : Rd.int s.2 = i1 at *; have HI1 := Lib.hid hi1; clear hi1; rintro e u1 ⟨rfl, S⟩; have k1 : u1.cell? ⟨ab, 1, none⟩ = some (.int .i64 0) := S.cells 1 _ rfl; have kf := S.frz 1; have Q1 := Lib.hid S; clear S)
  have S := Q1.out.set 1 (.int .i64 i1.1) (by show 1 < 10; decide)
  generalize u1.setCell ⟨ab, 1, none⟩ (.int .i64 i1.1) = v1 at *
  have T1 : Hid (BkAt w v1 xb sb ab 26 plan0.cells bv zs i1.2 (PlanD.mk (strB s.1) i1.1 0 0 0 0 0 0 0 0).cells) := Lib.hid S
  clear S k1 kf Q1 T0
  go_upto_region 4 with (go_at_call 63; refine (bk_int T1.out).mono ?_; generalize hi2 : Rd.int i1.2 = i2 at *; have HI2 := Lib.hid hi2; clear hi2; rintro e u2 ⟨rfl, S⟩; have k1 : u2.cell? ⟨ab, 2, none⟩ = some (.int .i64 0) := S.cells 2 _ rfl; have kf := S.frz 2; have Q2 := Lib.hid S; clear S)
  have S := Q2.out.set 2 (.int .i64 i2.1) (by show 2 < 10; decide)
  generalize u2.setCell ⟨ab, 2, none⟩ (.int .i64 i2.1) = v2 at *
  have T2 : Hid (BkAt w v2 xb sb ab 26 plan0.cells bv zs i2.2 (PlanD.mk (strB s.1) i1.1 i2.1 0 0 0 0 0 0 0).cells) := Lib.hid S
  clear S k1 kf Q2 T1
  go_upto_region 5 with (go_at_call 63; refine (bk_int T2.out).mono ?_; generalize hi3 : Rd.int i2.2 = i3 at *; have HI3 := Lib.hid hi3; clear hi3; rintro e u3 ⟨rfl, S⟩; have k1 : u3.cell? ⟨ab, 3, none⟩ = some (.int .i64 0) := S.cells 3 _ rfl; have kf := S.frz 3; have Q3 := Lib.hid S; clear S)
  have S := Q3.out.set 3 (.int .i64 i3.1) (by show 3 < 10; decide)
  generalize u3.setCell ⟨ab, 3, none⟩ (.int .i64 i3.1) = v3 at *
  have T3 : Hid (BkAt w v3 xb sb ab 26 plan0.cells bv zs i3.2 (PlanD.mk (strB s.1) i1.1 i2.1 i3.1 0 0 0 0 0 0).cells) := Lib.hid S
  clear S k1 kf Q3 T2
  go_upto_region 6 with (go_at_call 63; refine (bk_int T3.out).mono ?_; generalize hi4 : Rd.int i3.2 = i4 at *; have HI4 := Lib.hid hi4; clear hi4; rintro e u4 ⟨rfl, S⟩; have k1 : u4.cell? ⟨ab, 4, none⟩ = some (.int .i64 0) := S.cells 4 _ rfl; have kf := S.frz 4; have Q4 := Lib.hid S; clear S)
  have S := Q4.out.set 4 (.int .i64 i4.1) (by show 4 < 10; decide)
  generalize u4.setCell ⟨ab, 4, none⟩ (.int .i64 i4.1) = v4 at *
  have T4 : Hid (BkAt w v4 xb sb ab 26 plan0.cells bv zs i4.2 (PlanD.mk (strB s.1) i1.1 i2.1 i3.1 i4.1 0 0 0 0 0).cells) := Lib.hid S
  clear S k1 kf Q4 T3
  go_upto_region 7 with (go_at_call 63; refine (bk_int T4.out).mono ?_; generalize hi5 : Rd.int i4.2 = i5 at *; have HI5 := Lib.hid hi5; clear hi5; rintro e u5 ⟨rfl, S⟩; have k1 : u5.cell? ⟨ab, 5, none⟩ = some (.int .i64 0) := S.cells 5 _ rfl; have kf := S.frz 5; have Q5 := Lib.hid S; clear S)
  have S := Q5.out.set 5 (.int .i64 i5.1) (by show 5 < 10; decide)
  generalize u5.setCell ⟨ab, 5, none⟩ (.int .i64 i5.1) = v5 at *
  have T5 : Hid (BkAt w v5 xb sb ab 26 plan0.cells bv zs i5.2 (PlanD.mk (strB s.1) i1.1 i2.1 i3.1 i4.1 i5.1 0 0 0 0).cells) := Lib.hid S
  clear S k1 kf Q5 T4
  go_upto_region 8 with (go_at_call 63; refine (bk_int T5.out).mono ?_; generalize hi6 : Rd.int i5.2 = i6 at *; have HI6 := Lib.hid hi6; clear hi6; rintro e u6 ⟨rfl, S⟩; have k1 : u6.cell? ⟨ab, 6, none⟩ = some (.int .i64 0) := S.cells 6 _ rfl; have kf := S.frz 6; have Q6 := Lib.hid S; clear S)
  have S := Q6.out.set 6 (.int .i64 i6.1) (by show 6 < 10; decide)
  generalize u6.setCell ⟨ab, 6, none⟩ (.int .i64 i6.1) = v6 at *
  have T6 : Hid (BkAt w v6 xb sb ab 26 plan0.cells bv zs i6.2 (PlanD.mk (strB s.1) i1.1 i2.1 i3.1 i4.1 i5.1 i6.1 0 0 0).cells) := Lib.hid S
  clear S k1 kf Q6 T5
  go_upto_region 9 with (go_at_call 63; refine (bk_int T6.out).mono ?_; generalize hi7 : Rd.int i6.2 = i7 at *; have HI7 := Lib.hid hi7; clear hi7; rintro e u7 ⟨rfl, S⟩; have k1 : u7.cell? ⟨ab, 7, none⟩ = some (.int .i64 0) := S.cells 7 _ rfl; have kf := S.frz 7; have Q7 := Lib.hid S; clear S)
  have S := Q7.out.set 7 (.int .i64 i7.1) (by show 7 < 10; decide)
  generalize u7.setCell ⟨ab, 7, none⟩ (.int .i64 i7.1) = v7 at *
  have T7 : Hid (BkAt w v7 xb sb ab 26 plan0.cells bv zs i7.2 (PlanD.mk (strB s.1) i1.1 i2.1 i3.1 i4.1 i5.1 i6.1 i7.1 0 0).cells) := Lib.hid S
  clear S k1 kf Q7 T6
  go_upto_region 10 with (go_at_call 63; refine (bk_int T7.out).mono ?_; generalize hi8 : Rd.int i7.2 = i8 at *; have HI8 := Lib.hid hi8; clear hi8; rintro e u8 ⟨rfl, S⟩; have k1 : u8.cell? ⟨ab, 8, none⟩ = some (.int .i64 0) := S.cells 8 _ rfl; have kf := S.frz 8; have Q8 := Lib.hid S; clear S)
  have S := Q8.out.set 8 (.int .i64 i8.1) (by show 8 < 10; decide)
  generalize u8.setCell ⟨ab, 8, none⟩ (.int .i64 i8.1) = v8 at *
  have T8 : Hid (BkAt w v8 xb sb ab 26 plan0.cells bv zs i8.2 (PlanD.mk (strB s.1) i1.1 i2.1 i3.1 i4.1 i5.1 i6.1 i7.1 i8.1 0).cells) := Lib.hid S
  clear S k1 kf Q8 T7
  go_upto_region 11 with (go_at_call 63; refine (bk_int T8.out).mono ?_; generalize hi9 : Rd.int i8.2 = i9 at *; have HI9 := Lib.hid hi9; clear hi9; rintro e u9 ⟨rfl, S⟩; have k1 : u9.cell? ⟨ab, 9, none⟩ = some (.int .i64 0) := S.cells 9 _ rfl; have kf := S.frz 9; have Q9 := Lib.hid S; clear S)
  have S := Q9.out.set 9 (.int .i64 i9.1) (by show 9 < 10; decide)
  generalize u9.setCell ⟨ab, 9, none⟩ (.int .i64 i9.1) = v9 at *
  have T9 : Hid (BkAt w v9 xb sb ab 26 plan0.cells bv zs i9.2 (PlanD.mk (strB s.1) i1.1 i2.1 i3.1 i4.1 i5.1 i6.1 i7.1 i8.1 i9.1).cells) := Lib.hid S
  clear S k1 kf Q9 T8
  have E : Rd.ints 9 s.2 = ([i1.1, i2.1, i3.1, i4.1, i5.1, i6.1, i7.1, i8.1, i9.1], i9.2) := by
    simp only [Rd.ints, HI1.out, HI2.out, HI3.out, HI4.out, HI5.out, HI6.out, HI7.out, HI8.out, HI9.out]
  rw [E]
  have TE := Lib.hid E
  clear E
  go_step
  refine wpList_load_mid rfl 26 (.tmp 3) rfl ab 0 rfl ((PlanD.mk (strB s.1) i1.1 i2.1 i3.1 i4.1 i5.1 i6.1 i7.1 i8.1 i9.1).cells).toList _ (fun j u hj => by rw [Nat.zero_add]; exact T9.out.cells j u (by simpa using hj)) Tryd.underlying26 rfl (by kernel_rfl) ?_
  refine wpList_store_row rfl 26 (.tmp 2) (.tmp 34) rfl sb ((PlanD.mk (strB s.1) i1.1 i2.1 i3.1 i4.1 i5.1 i6.1 i7.1 i8.1 i9.1).cells) rfl rfl 26 plan0.cells T9.out.res (by kernel_rfl) rfl (plan_one_cells _) ?_
  go_wp2
  (try simp only [Exit.inBlock, Exit.then])
  refine bodyPost_ret (results_cell_row rfl _ _ sb 26 ((PlanD.mk (strB s.1) i1.1 i2.1 i3.1 i4.1 i5.1 i6.1 i7.1 i8.1 i9.1).cells) (0, 0) _ rfl (setRow_heap _ _ _ _ _ _ T9.out.res) Tryd.underlying26 rfl (by kernel_rfl)) rfl ?_
  rw [TE.out]
  have L := T9.out.last ((PlanD.mk (strB s.1) i1.1 i2.1 i3.1 i4.1 i5.1 i6.1 i7.1 i8.1 i9.1).cells)
  exact ⟨rfl, L.1, L.2⟩

end Go.Proofs.YtehkgcmdndehaaaDoor

namespace Go.Proofs.YtehkgcmdndehaaaDoor
set_option linter.unusedSimpArgs false
set_option linter.unusedVariables false
open Go.RowKit

set_option maxRecDepth 100000 in
theorem known_ok (w : World) (ht : w.cell? ⟨3, 15, none⟩ = some (.int .u8 4)) :
    Calls Tryd.prog 7 #[] w fun e w' => e = .returned (.bool true) ∧ Below w.heap.size w w' := by
  have hk : strB (lows 16 255) = ⟨#[48, 48, 48, 48, 48, 48, 48, 48, 48, 48, 48, 48, 48, 48, 102, 102]⟩ := by decide +kernel
  have H := Lib.hid (num_rec 255 (by decide) w ht)
  rw [hk] at H
  clear hk ht
  go_enter Tryd.func7, Tryd.ntmps7
  go_wp2_with (go_at_call 8; refine H.out.mono ?_; rintro e w' ⟨rfl, hB⟩; have HB := Lib.hid hB; clear hB)
  go_ret
  exact ⟨by first | rfl | (congr 1), HB.out⟩
theorem strB_bytes (l : List UInt8) : (strB l).toList = l := by
  rw [Lib.toList_data]
  simp [strB]
def NumPost (w : World) (e : Ending) (w' : World) : Prop := e = .returned (.bool true) ∧ Below w.heap.size w w'
set_option maxRecDepth 100000 in
theorem rn_neg (a b : Int) (h : a < 0 ∨ b < 0) (w : World) (ht : w.cell? ⟨3, 15, none⟩ = some (.int .u8 4)) :
    Calls Tryd.prog 3 #[.int .i64 a, .int .i64 b] w (NumPost w) := by
  have H := Lib.hid (known_ok w ht)
  clear ht
  go_enter Tryd.func3, Tryd.ntmps3
  by_cases ha : a < 0
  · go_wp2_with (go_at_call 7; refine H.out.mono ?_; rintro e w' ⟨rfl, hB⟩; have HB := Lib.hid hB; clear hB)
    go_ret
    exact ⟨rfl, HB.out⟩
  · have hb : b < 0 := by omega
    go_wp2_with (go_at_call 7; refine H.out.mono ?_; rintro e w' ⟨rfl, hB⟩; have HB := Lib.hid hB; clear hB)
    go_ret
    exact ⟨rfl, HB.out⟩
set_option maxRecDepth 100000 in
theorem rn_main (n m : Nat) (hn : n < 2 ^ 63) (hm : m < 2 ^ 63) (w : World) (ht : w.cell? ⟨3, 15, none⟩ = some (.int .u8 4)) :
    Calls Tryd.prog 3 #[.int .i64 n, .int .i64 m] w (NumPost w) := by
  have H := Lib.hid (known_ok w ht)
  have HT : Hid (∀ w', Below w.heap.size w w' → w'.cell? ⟨3, 15, none⟩ = some (.int .u8 4)) := Lib.hid fun w' hB => (hB.cell (p := ⟨3, 15, none⟩) (World.block_lt_of_cell? w _ ht)).trans ht
  have HN := Lib.hid (And.intro hn hm)
  have a0 : decide ((n : Int) < 0) = false := by simp
  have b0 : decide ((m : Int) < 0) = false := by simp
  have k1 : Op.bytesLess (strB (lows 16 n)).toList (strB (lows 16 m)).toList = decide (n < m) := by
    rw [strB_bytes, strB_bytes, lows_less, Nat.mod_eq_of_lt (by omega), Nat.mod_eq_of_lt (by omega)]
  have k2 : ((strB (lows 16 n)).toList == (strB (lows 16 m)).toList) = ((n : Int) == (m : Int)) := by
    rw [strB_bytes, strB_bytes, Bool.eq_iff_iff, beq_iff_eq, beq_iff_eq, lows_inj, Nat.mod_eq_of_lt (by omega), Nat.mod_eq_of_lt (by omega)]
    omega
  clear ht hn hm
  go_enter Tryd.func3, Tryd.ntmps3
  go_upto_region 5 with (go_at_call 7; refine H.out.mono ?_; rintro e w1 ⟨rfl, hB⟩; have HB := Lib.hid hB; clear hB)
  go_wp2_with (first
    | (go_at_call 8; ((with_reducible refine (num_rec n HN.out.1 _ (HT.out _ HB.out)).mono ?_); rintro e w2 ⟨rfl, hB⟩; have HB2 := Lib.hid (HB.out.trans (hB.mono HB.out.size)); clear hB))
    | (go_at_call 8; ((with_reducible refine (num_rec m HN.out.2 _ (HT.out _ HB2.out)).mono ?_); rintro e w3 ⟨rfl, hB⟩; have HB3 := Lib.hid (HB2.out.trans (hB.mono HB2.out.size)); clear hB))
    | (go_at_call 9; refine (num_ref n HN.out.1 _).mono ?_; rintro e w4 ⟨rfl, hB⟩; have HB4 := Lib.hid (HB3.out.trans (hB.mono HB3.out.size)); clear hB))
  go_ret
  exact ⟨by first | rfl | simp, HB4.out⟩
end Go.Proofs.YtehkgcmdndehaaaDoor

