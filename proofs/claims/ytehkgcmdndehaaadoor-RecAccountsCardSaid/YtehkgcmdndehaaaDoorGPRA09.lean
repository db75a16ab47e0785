/- Part of the proof: merged texts. -/
import Derived.Test.YtehkgcmdndehaaaDoorGPRA08
import Derived.Deep.DeepCutAuto
import Derived.Deep.CutBlock
import Derived.Test.YtehkgcmdndehaaaDoorGPRA02
namespace Go.Proofs.YtehkgcmdndehaaaDoor
set_option linter.unusedSimpArgs false
set_option linter.unusedVariables false
open Go.RowKit

/-- Of a name and nine numbers a plan. -/
def planOf (name : List UInt8) (l : List Int) : PlanD := ⟨strB name, l.getD 0 0, l.getD 1 0, l.getD 2 0, l.getD 3 0, l.getD 4 0, l.getD 5 0, l.getD 6 0, l.getD 7 0, l.getD 8 0⟩
def planRd (r : Re) : PlanD × Re := (planOf r.str.1 (Re.ints 9 r.str.2).1, (Re.ints 9 r.str.2).2)
def PlanD.cells (p : PlanD) : Array Value := #[.string p.name, .int .i64 p.version, .int .i64 p.allowance, .int .i64 p.kind, .int .i64 p.anchor, .int .i64 p.days, .int .i64 p.cap, .int .i64 p.mode, .int .i64 p.burst, .int .i64 p.rate]
theorem plan_one_cells (a : PlanD) : a.cells.all (·.oneCell') = true := by
  unfold PlanD.cells
  rw [Array.all_eq_true_iff_forall_mem]
  intro x hx
  simp only [List.mem_toArray, List.mem_cons, List.not_mem_nil, or_false] at hx
  rcases hx with rfl | rfl | rfl | rfl | rfl | rfl | rfl | rfl | rfl | rfl <;> rfl

attribute [local irreducible] Re.ints Re.str

/-- The places of a record that reading a plan writes. -/
def planS (o : Nat) : Prop := o < 12
def PlanPost (w : World) (rb : Nat) (v : Value) (r : Re) (e : Ending) (w' : World) : Prop :=
  ∃ v', e = .returned (.tuple #[]) ∧ ReAt w' rb v' (planRd r).2 ∧ v'.ownBlock = v.ownBlock ∧ w'.rangeAt rb 2 (planRd r).1.cells.toList ∧ Mods w w' rb planS

set_option maxHeartbeats 1600000 in
set_option maxRecDepth 100000 in
theorem rr_read_plan (rb : Nat) (v : Value) (r : Re) (w : World) (h : ReAt w rb v r) (hb : rb < w.heap.size) (hmx : r.bs.length ≤ 1000000) (hth : w.there rb 2 10) :
    Calls Tryd.prog 61 #[.pointer (some ⟨rb, 0, none⟩), .int .i64 0] w (PlanPost w rb v r) := by
  have H := Lib.hid (And.intro h hth)
  clear h hth
  go_enter Tryd.func61, Tryd.ntmps61
  go_upto_region 8 with (fail)
  go_upto_region 29 with (first
    | (go_at_call 76; refine (rrd_str rb v r w H.out.1 hb (by omega)).mono ?_; rintro e w1 ⟨v1, rfl, hat1, hrs1, hob1⟩
       have hth1 : w1.there rb 2 10 := fun j hj => ⟨by rw [hrs1.row (2 + j) (by omega) (by omega)]; exact (H.out.2 j hj).1, by rw [hrs1.frz]; exact (H.out.2 j hj).2⟩
       have X1 := Lib.hid (And.intro hat1 (And.intro hrs1 (And.intro hob1 hth1)))
       clear hat1 hrs1 hob1 hth1)
    | (refine wpList_store_mid rfl 26 (.tmp 28) (.tmp 26) rfl rb 2 (PlanD.mk (strB r.str.1) 0 0 0 0 0 0 0 0 0).cells rfl rfl X1.out.2.2.2 (by kernel_rfl) (plan_one_cells _) ?_))
  change Code.wp _ _ _ _ (w1.setCells rb 2 (PlanD.mk (strB r.str.1) 0 0 0 0 0 0 0 0 0).cells.toList)
  have hm2 : Mods w1 (w1.setCells rb 2 (PlanD.mk (strB r.str.1) 0 0 0 0 0 0 0 0 0).cells.toList) rb (fun o => 2 ≤ o ∧ o < 12) := Mods.of_setCells _ _ _ (fun j hj => ⟨by omega, by have : j < 10 := hj; omega⟩)
  have hr2 := World.rangeAt_setCells_same w1 rb 2 (PlanD.mk (strB r.str.1) 0 0 0 0 0 0 0 0 0).cells.toList X1.out.2.2.2
  generalize w1.setCells rb 2 (PlanD.mk (strB r.str.1) 0 0 0 0 0 0 0 0 0).cells.toList = W2 at *
  have M2 : Hid (Mods w W2 rb planS) := Lib.hid ((Mods.of_rds X1.out.2.1 (by unfold planS; omega) (by unfold planS; omega)).trans (hm2.mono (fun o ho => ho.2)))
  have A2 : Hid (ReAt W2 rb v1 r.str.2) := Lib.hid (X1.out.1.mods hm2 (by omega) (by omega))
  have R2 : Hid (W2.rangeAt rb 2 (PlanD.mk (strB r.str.1) 0 0 0 0 0 0 0 0 0).cells.toList ∧ (∀ o, 2 ≤ o → o < 12 → W2.frozen? ⟨rb, o, none⟩ = false) ∧ rb < W2.heap.size) := Lib.hid ⟨hr2, fun o h1 h2 => by
    have := (X1.out.2.2.2 (o - 2) (by omega)).2
    rw [show 2 + (o - 2) = o by omega] at this
    rw [hm2.frz, this], by have := M2.out.size; omega⟩
  have HOB := Lib.hid X1.out.2.2.1
  have C2 : Hid (∀ o, 2 ≤ o → o < 12 → ∃ u, W2.cell? ⟨rb, o, none⟩ = some u) := Lib.hid (fun o h1 h2 => by
    have hj : o - 2 < (PlanD.mk (strB r.str.1) 0 0 0 0 0 0 0 0 0).cells.toList.length := by show o - 2 < 10; omega
    have := R2.out.1 (o - 2) _ (List.getElem?_eq_getElem hj)
    rw [show 2 + (o - 2) = o by omega] at this
    exact ⟨_, this⟩)
  have hlen : r.str.2.bs.length ≤ 1000000000 := Nat.le_trans r.str_le (by omega)
  have HN : Hid (∀ W : World, Calls Tryd.prog 57 #[.pointer (some ⟨rb, 0, none⟩), .int .i64 0] W (PtrsPost W rb [3, 4, 5, 6, 7, 8, 9, 10, 11])) := Lib.hid (fun W => rr_numbers rb 0 W)
  clear hm2 hr2 X1
  go_simp
  go_region_with (first
    | (go_at_call 57; refine (HN.out _).mono ?_; rintro e w3 ⟨ao, rfl, hB3, hP⟩
       have B3 : Hid (Below W2.heap.size W2 w3) := Lib.hid ((Below.refl _ _).drew.trans hB3)
       have P3 := Lib.hid hP
       clear hB3 hP)
    | (go_at_call 78
       refine (rrd_ints rb rb v1 ao [3, 4, 5, 6, 7, 8, 9, 10, 11] _ _ r.str.2 w3 rfl (A2.out.of_below R2.out.2.2 B3.out) (Nat.lt_of_lt_of_le R2.out.2.2 B3.out.size) (Nat.lt_of_lt_of_le R2.out.2.2 B3.out.size) hlen (by decide) (by decide) (fun _ o ho => by simp at ho; omega) A2.out.apart
         (fun k o hk => by
           obtain ⟨nb, h1, h2, h3, h4⟩ := P3.out k o hk
           have := R2.out.2.2
           have h2' : W2.heap.size ≤ nb := h2
           exact ⟨nb, h1, h3, by omega, by omega, h4⟩)
         (fun o ho => by
           have ho' : 3 ≤ o ∧ o < 12 := by simp at ho; omega
           obtain ⟨u, hu⟩ := C2.out o (by omega) (by omega)
           exact ⟨u, (B3.out.cell (p := ⟨rb, o, none⟩) R2.out.2.2).trans hu, (B3.out.frozen (p := ⟨rb, o, none⟩) R2.out.2.2).trans (R2.out.2.1 o (by omega) (by omega))⟩)).mono ?_
       rintro e w4 ⟨rfl, hi4⟩
       have I4 := Lib.hid hi4
       clear hi4))
  have FIN : Hid (PlanPost w rb v r (.returned (.tuple #[])) w4) := Lib.hid (by
    obtain ⟨v4, hat4, hob4⟩ := I4.out.rd
    rw [show ([3, 4, 5, 6, 7, 8, 9, 10, 11] : List Nat).length = 9 from rfl] at hat4
    refine ⟨v4, rfl, hat4, hob4.trans HOB.out, fun j u hj => ?_, (M2.out.trans (Mods.of_below B3.out R2.out.2.2)).trans (Mods.of_ints I4.out (Nat.lt_of_lt_of_le R2.out.2.2 B3.out.size) (by unfold planS; omega) (by unfold planS; omega) (fun o ho => by simp at ho; unfold planS; omega))⟩
    have h0 : w4.cell? ⟨rb, 2, none⟩ = some (.string (strB r.str.1)) :=
      ((I4.out.keep rb 2 (Nat.lt_of_lt_of_le R2.out.2.2 B3.out.size) (fun _ => by omega) (fun _ => by decide)).trans (B3.out.cell (p := ⟨rb, 2, none⟩) R2.out.2.2)).trans (R2.out.1 0 _ rfl)
    have hv := I4.out.vals
    rw [show ([3, 4, 5, 6, 7, 8, 9, 10, 11] : List Nat).length = 9 from rfl] at hv
    match j, hj with
    | 0, hj => cases hj; exact h0
    | 1, hj => cases hj; exact hv 0 3 rfl
    | 2, hj => cases hj; exact hv 1 4 rfl
    | 3, hj => cases hj; exact hv 2 5 rfl
    | 4, hj => cases hj; exact hv 3 6 rfl
    | 5, hj => cases hj; exact hv 4 7 rfl
    | 6, hj => cases hj; exact hv 5 8 rfl
    | 7, hj => cases hj; exact hv 6 9 rfl
    | 8, hj => cases hj; exact hv 7 10 rfl
    | 9, hj => cases hj; exact hv 8 11 rfl
    | j + 10, hj => simp [PlanD.cells] at hj)
  clear I4 P3 R2 M2
  go_wp2
  go_end0
  exact FIN.out
end Go.Proofs.YtehkgcmdndehaaaDoor

namespace Go.Proofs.YtehkgcmdndehaaaDoor
set_option linter.unusedSimpArgs false
set_option linter.unusedVariables false
open Go.RowKit

def stmtRd (r : Re) : StmtD × Re := (stmtOf r.str.1 (Re.ints 8 r.str.2).1, (Re.ints 8 r.str.2).2)
theorem stmt_one_cells (a : StmtD) : a.cells.all (·.oneCell') = true := by
  unfold StmtD.cells
  rw [Array.all_eq_true_iff_forall_mem]
  intro x hx
  simp only [List.mem_toArray, List.mem_cons, List.not_mem_nil, or_false] at hx
  rcases hx with rfl | rfl | rfl | rfl | rfl | rfl | rfl | rfl | rfl <;> rfl

attribute [local irreducible] Re.ints Re.str

/-- The places of a record that reading a plan writes. -/
def stmtS (o : Nat) : Prop := o = 0 ∨ o = 1 ∨ (12 ≤ o ∧ o < 21)
def StmtPost (w : World) (rb : Nat) (v : Value) (r : Re) (e : Ending) (w' : World) : Prop :=
  ∃ v', e = .returned (.tuple #[]) ∧ ReAt w' rb v' (stmtRd r).2 ∧ v'.ownBlock = v.ownBlock ∧ w'.rangeAt rb 12 (stmtRd r).1.cells.toList ∧ Mods w w' rb stmtS

set_option maxHeartbeats 1600000 in
set_option maxRecDepth 100000 in
theorem rr_read_stmt (rb : Nat) (v : Value) (r : Re) (w : World) (h : ReAt w rb v r) (hb : rb < w.heap.size) (hmx : r.bs.length ≤ 1000000) (hth : w.there rb 12 9) :
    Calls Tryd.prog 61 #[.pointer (some ⟨rb, 0, none⟩), .int .i64 1] w (StmtPost w rb v r) := by
  have H := Lib.hid (And.intro h hth)
  clear h hth
  go_enter Tryd.func61, Tryd.ntmps61
  go_upto_region 9 with (fail)
  go_upto_region 29 with (first
    | (go_at_call 76; refine (rrd_str rb v r w H.out.1 hb (by omega)).mono ?_; rintro e w1 ⟨v1, rfl, hat1, hrs1, hob1⟩
       have hth1 : w1.there rb 12 9 := fun j hj => ⟨by rw [hrs1.row (12 + j) (by omega) (by omega)]; exact (H.out.2 j hj).1, by rw [hrs1.frz]; exact (H.out.2 j hj).2⟩
       have X1 := Lib.hid (And.intro hat1 (And.intro hrs1 (And.intro hob1 hth1)))
       clear hat1 hrs1 hob1 hth1)
    | (refine wpList_store_mid rfl 28 (.tmp 36) (.tmp 34) rfl rb 12 (StmtD.mk (strB r.str.1) 0 0 0 0 0 0 0 0).cells rfl rfl X1.out.2.2.2 (by kernel_rfl) (stmt_one_cells _) ?_))
  change Code.wp _ _ _ _ (w1.setCells rb 12 (StmtD.mk (strB r.str.1) 0 0 0 0 0 0 0 0).cells.toList)
  have hm2 : Mods w1 (w1.setCells rb 12 (StmtD.mk (strB r.str.1) 0 0 0 0 0 0 0 0).cells.toList) rb (fun o => 12 ≤ o ∧ o < 21) := Mods.of_setCells _ _ _ (fun j hj => ⟨by omega, by have : j < 9 := hj; omega⟩)
  have hr2 := World.rangeAt_setCells_same w1 rb 12 (StmtD.mk (strB r.str.1) 0 0 0 0 0 0 0 0).cells.toList X1.out.2.2.2
  generalize w1.setCells rb 12 (StmtD.mk (strB r.str.1) 0 0 0 0 0 0 0 0).cells.toList = W2 at *
  have M2 : Hid (Mods w W2 rb stmtS) := Lib.hid ((Mods.of_rds X1.out.2.1 (by unfold stmtS; omega) (by unfold stmtS; omega)).trans (hm2.mono (fun o ho => .inr (.inr ho))))
  have A2 : Hid (ReAt W2 rb v1 r.str.2) := Lib.hid (X1.out.1.mods hm2 (by omega) (by omega))
  have R2 : Hid (W2.rangeAt rb 12 (StmtD.mk (strB r.str.1) 0 0 0 0 0 0 0 0).cells.toList ∧ (∀ o, 12 ≤ o → o < 21 → W2.frozen? ⟨rb, o, none⟩ = false) ∧ rb < W2.heap.size) := Lib.hid ⟨hr2, fun o h1 h2 => by
    have := (X1.out.2.2.2 (o - 12) (by omega)).2
    rw [show 12 + (o - 12) = o by omega] at this
    rw [hm2.frz, this], by have := M2.out.size; omega⟩
  have HOB := Lib.hid X1.out.2.2.1
  have C2 : Hid (∀ o, 12 ≤ o → o < 21 → ∃ u, W2.cell? ⟨rb, o, none⟩ = some u) := Lib.hid (fun o h1 h2 => by
    have hj : o - 12 < (StmtD.mk (strB r.str.1) 0 0 0 0 0 0 0 0).cells.toList.length := by show o - 12 < 9; omega
    have := R2.out.1 (o - 12) _ (List.getElem?_eq_getElem hj)
    rw [show 12 + (o - 12) = o by omega] at this
    exact ⟨_, this⟩)
  have hlen : r.str.2.bs.length ≤ 1000000000 := Nat.le_trans r.str_le (by omega)
  have HN : Hid (∀ W : World, Calls Tryd.prog 57 #[.pointer (some ⟨rb, 0, none⟩), .int .i64 1] W (PtrsPost W rb [13, 14, 15, 16, 17, 18, 19, 20])) := Lib.hid (fun W => rr_numbers rb 1 W)
  clear hm2 hr2 X1
  go_simp
  go_region_with (first
    | (go_at_call 57; refine (HN.out _).mono ?_; rintro e w3 ⟨ao, rfl, hB3, hP⟩
       have B3 : Hid (Below W2.heap.size W2 w3) := Lib.hid ((Below.refl _ _).drew.trans hB3)
       have P3 := Lib.hid hP
       clear hB3 hP)
    | (go_at_call 78
       refine (rrd_ints rb rb v1 ao [13, 14, 15, 16, 17, 18, 19, 20] _ _ r.str.2 w3 rfl (A2.out.of_below R2.out.2.2 B3.out) (Nat.lt_of_lt_of_le R2.out.2.2 B3.out.size) (Nat.lt_of_lt_of_le R2.out.2.2 B3.out.size) hlen (by decide) (by decide) (fun _ o ho => by simp at ho; omega) A2.out.apart
         (fun k o hk => by
           obtain ⟨nb, h1, h2, h3, h4⟩ := P3.out k o hk
           have := R2.out.2.2
           have h2' : W2.heap.size ≤ nb := h2
           exact ⟨nb, h1, h3, by omega, by omega, h4⟩)
         (fun o ho => by
           have ho' : 13 ≤ o ∧ o < 21 := by simp at ho; omega
           obtain ⟨u, hu⟩ := C2.out o (by omega) (by omega)
           exact ⟨u, (B3.out.cell (p := ⟨rb, o, none⟩) R2.out.2.2).trans hu, (B3.out.frozen (p := ⟨rb, o, none⟩) R2.out.2.2).trans (R2.out.2.1 o (by omega) (by omega))⟩)).mono ?_
       rintro e w4 ⟨rfl, hi4⟩
       have I4 := Lib.hid hi4
       clear hi4))
  have FIN : Hid (StmtPost w rb v r (.returned (.tuple #[])) w4) := Lib.hid (by
    obtain ⟨v4, hat4, hob4⟩ := I4.out.rd
    rw [show ([13, 14, 15, 16, 17, 18, 19, 20] : List Nat).length = 8 from rfl] at hat4
    refine ⟨v4, rfl, hat4, hob4.trans HOB.out, fun j u hj => ?_, (M2.out.trans (Mods.of_below B3.out R2.out.2.2)).trans (Mods.of_ints I4.out (Nat.lt_of_lt_of_le R2.out.2.2 B3.out.size) (by unfold stmtS; omega) (by unfold stmtS; omega) (fun o ho => by simp at ho; unfold stmtS; omega))⟩
    have h0 : w4.cell? ⟨rb, 12, none⟩ = some (.string (strB r.str.1)) :=
      ((I4.out.keep rb 12 (Nat.lt_of_lt_of_le R2.out.2.2 B3.out.size) (fun _ => by omega) (fun _ => by decide)).trans (B3.out.cell (p := ⟨rb, 12, none⟩) R2.out.2.2)).trans (R2.out.1 0 _ rfl)
    have hv := I4.out.vals
    rw [show ([13, 14, 15, 16, 17, 18, 19, 20] : List Nat).length = 8 from rfl] at hv
    match j, hj with
    | 0, hj => cases hj; exact h0
    | 1, hj => cases hj; exact hv 0 13 rfl
    | 2, hj => cases hj; exact hv 1 14 rfl
    | 3, hj => cases hj; exact hv 2 15 rfl
    | 4, hj => cases hj; exact hv 3 16 rfl
    | 5, hj => cases hj; exact hv 4 17 rfl
    | 6, hj => cases hj; exact hv 5 18 rfl
    | 7, hj => cases hj; exact hv 6 19 rfl
    | 8, hj => cases hj; exact hv 7 20 rfl
    | j + 9, hj => simp [StmtD.cells] at hj)
  clear I4 P3 R2 M2
  go_wp2
  go_end0
  exact FIN.out
end Go.Proofs.YtehkgcmdndehaaaDoor

