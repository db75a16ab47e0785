import Derived.Test.YtehkgcmdndehaaaDoorRecNum
namespace Go.Proofs.YtehkgcmdndehaaaDoor
set_option linter.unusedSimpArgs false
set_option linter.unusedVariables false
open Go.RowKit

set_option maxHeartbeats 1600000 in
set_option maxRecDepth 100000 in
theorem rr_write_plan (rb : Nat) (v : Value) (xs : List UInt8) (p : PlanD) (w : World) (hr : RowAt w rb v xs) (hb : rb < w.heap.size) (hl : Fits (xs.length + (encPlan p).length))
    (hname : w.cell? ⟨rb, 2, none⟩ = some (.string p.name)) (hnums : ∀ k n, p.nums[k]? = some n → w.cell? ⟨rb, 3 + k, none⟩ = some (.int .i64 n)) :
    Calls Tryd.prog 30 #[.pointer (some ⟨rb, 0, none⟩), .int .i64 0] w (PutPost w rb v (xs ++ encPlan p)) := by
  have HR := Lib.hid hr
  have HN := Lib.hid hnums
  have hl1 : Fits (xs.length + (encText p.name).length) := hl.le (by rw [encPlan, List.length_append]; omega)
  clear hr hnums
  go_enter Tryd.func30, Tryd.ntmps30
  go_wp2
  go_region_with (go_at_call 54; refine (rrow_text rb v xs p.name _ HR.out.drew (by simpa using hb) hl1).mono ?_; rintro e w1 ⟨v1, rfl, hrow1, hput1⟩)
  replace hput1 := Puts.from_below hb (Below.refl _ _).drew hput1
  go_wp2_with fail
  refine (rr_numbers rb 0 _).mono ?_
  rintro e w2 ⟨ao, rfl, hB2, hP⟩
  obtain ⟨offs, ho⟩ : ∃ o, o = recOffs 0 := ⟨_, rfl⟩
  rw [← ho] at hP ⊢
  have h9 : offs.length = p.nums.length := by rw [ho]; rfl
  have hoff : ∀ k, offs[k]? = if k < 9 then some (3 + k) else none := fun k => by
    rw [ho]; match k with
    | 0 | 1 | 2 | 3 | 4 | 5 | 6 | 7 | 8 => rfl
    | k + 9 => rw [if_neg (by omega)]; simp [recOffs]
  have O := Lib.hid (And.intro h9 (And.intro hoff hP))
  clear h9 hoff hP ho
  have hB12 := hput1
  have R2 := Lib.hid (hrow1.of_below (by have := hput1.size; omega) hB2)
  have hs1 := hput1.size
  have hs2 := hB2.size
  have hlt1 := Lib.hid (fun k h => hrow1.own.lt k h)
  clear hB12
  go_wp2
  go_loopg [7, 157] offs.length (fun g s7 s157 wr => ∃ (k : Nat) (vr : Value), k + g = offs.length ∧ s157 = .int .i64 k ∧ RowAt wr rb vr (xs ++ encText p.name ++ encInts (p.nums.take k)) ∧ Puts w2 wr rb v1 vr)
  case atStart => exact ⟨0, v1, by omega, rfl, by simpa [encInts] using R2.out, Puts.refl _ _ _⟩
  case round =>
    obtain ⟨k, vr, hkg, rfl, hrow, hput⟩ := hrel
    have hsz := hput.size
    cases gk with
    | zero =>
      have hk : ¬ ((k : Int) < (offs.length : Int)) := by omega
      have F := Lib.hid (And.intro hrow hput)
      clear hrow hput
      go_wp2
      go_end0
      refine ⟨vr, rfl, ?_, ?_⟩
      · have := F.out.1
        rw [List.take_of_length_le (by have := O.out.1; omega)] at this
        rw [encPlan, ← List.append_assoc]
        exact this
      · exact (hput1.trans (Puts.of_below hB2 (by omega))).trans F.out.2
    | succ g =>
      have hk : (k : Int) < (offs.length : Int) := by omega
      have hk9 : k < 9 := by have := O.out.1; simp [PlanD.nums] at this; omega
      obtain ⟨n, hn⟩ : ∃ n, p.nums[k]? = some n := ⟨_, List.getElem?_eq_getElem (by have := O.out.1; omega)⟩
      obtain ⟨nb, rfl, hnb1, hnb2, hcp⟩ := O.out.2.2 k (3 + k) (by rw [O.out.2.1, if_pos hk9])
      have hcp' := (hput.cell (a := ⟨nb, k, none⟩) hnb2 (by show nb ≠ rb; omega) (fun e => by have := hlt1.out nb e; omega)).trans hcp
      have hcn : wr.cell? ⟨rb, 3 + k, none⟩ = some (.int .i64 n) :=
        ((hput.row (3 + k) (by omega)).trans (hB2.cell (p := ⟨rb, 3 + k, none⟩) (by show rb < _; omega))).trans ((hput1.row (3 + k) (by omega)).trans (HN.out k n hn))
      have hrb : rb < wr.heap.size := by omega
      have HT := Lib.hid (encInts_take p.nums k n hn)
      have hfit : Fits ((xs ++ encText p.name ++ encInts (p.nums.take k)).length + 8 * [n].length) := hl.le (by
        have := encInts_take_length p.nums k
        simp only [List.length_append, encPlan, encInts_length, List.length_singleton] at this ⊢
        have := O.out.1
        simp only [List.length_take]
        omega)
      have HR2 := Lib.hid (And.intro hrow hput)
      clear hrow hput hn hcp
      go_wp2
      go_region_with (go_at_call 56; go_must (refine (rrow_ints rb wr.heap.size 1 _ _ vr _ [n] wr _ HR2.out.1 hrb hfit (by simp) rfl (below_alloc _ _).drew (Nat.le_refl _) (heap_alloc_new _ _) rfl).mono ?_); rintro e w3 ⟨v3, rfl, hrow3, hput3⟩)
      all_goals have X := Lib.hid (And.intro hrow3 hput3)
      all_goals clear hrow3 hput3
      all_goals go_wp2
      all_goals go_roundg g
      all_goals first
        | (case measure => omega)
        | skip
      all_goals
        refine ⟨k + 1, _, by omega, by first | rfl | go_num, ?_, HR2.out.2.trans X.out.2⟩
        rw [HT.out, ← List.append_assoc]
        have := X.out.1
        simpa [encInts] using this
end Go.Proofs.YtehkgcmdndehaaaDoor
