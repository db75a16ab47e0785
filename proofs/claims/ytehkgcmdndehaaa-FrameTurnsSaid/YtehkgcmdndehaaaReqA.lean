import Derived.Test.YtehkgcmdndehaaaChecked
import Derived.Test.YtehkgcmdndehaaaReqD
import Derived.WalkSpells
import Derived.WalkLawsBesides
import Derived.Deep.RegionLaw
import Derived.Deep.LoopGhost
namespace Go.Proofs.Ytehkgcmdndehaaa
set_option linter.unusedSimpArgs false
set_option linter.unusedVariables false
open Go.RowKit

set_option maxHeartbeats 400000 in
set_option maxRecDepth 100000 in
theorem fr_kind (k : Int) (w : World) :
    Calls Try.prog 33 #[.int .i64 k] w fun e w' => e = .returned (.bool (kindB k)) ∧ w = w' := by
  go_enter Try.func33, Try.ntmps33
  by_cases h1 : 1 ≤ k <;> by_cases h2 : k ≤ 5 <;> by_cases h3 : 16 ≤ k <;> by_cases h4 : k ≤ 20 <;> (try omega)
  all_goals (go_wp2; go_ret; refine ⟨?_, rfl⟩; simp [kindB, *])

set_option maxHeartbeats 800000 in
set_option maxRecDepth 100000 in
theorem fr_texts (rb : Nat) (k : Int) (w : World) (hc : w.cell? ⟨rb, 2, none⟩ = some (.int .i64 k)) :
    Calls Try.prog 34 #[.pointer (some ⟨rb, 0, none⟩)] w (PtrsPost w rb (textOffs k)) := by
  go_enter Try.func34, Try.ntmps34
  by_cases h : k = 17
  · subst h
    go_wp2
    go_region
    all_goals (try go_wp2)
    all_goals go_ret
    all_goals exact ptrs_block _ _ _ _ _ _ rfl (by first | exact (below_alloc _ _).drew | exact below_alloc _ _) (heap_alloc_new _ _)
  have g17 : ¬ k = 17 := h
  clear h
  by_cases h : k = 18
  · subst h
    go_wp2
    go_region
    all_goals (try go_wp2)
    all_goals go_ret
    all_goals exact ptrs_block _ _ _ _ _ _ rfl (by first | exact (below_alloc _ _).drew | exact below_alloc _ _) (heap_alloc_new _ _)
  have g18 : ¬ k = 18 := h
  clear h
  by_cases h : k = 20
  · subst h
    go_wp2
    all_goals (try go_wp2)
    all_goals go_ret
    all_goals exact ptrs_block _ _ _ _ _ _ rfl (by first | exact (below_alloc _ _).drew | exact below_alloc _ _) (heap_alloc_new _ _)
  have g20 : ¬ k = 20 := h
  clear h
  go_wp2
  go_ret
  rw [show textOffs k = [] by simp [textOffs, g17, g18, g20]]
  exact ptrs_nil _ _

set_option maxHeartbeats 800000 in
set_option maxRecDepth 100000 in
theorem fr_numbers (rb : Nat) (k : Int) (w : World) (hc : w.cell? ⟨rb, 2, none⟩ = some (.int .i64 k)) :
    Calls Try.prog 39 #[.pointer (some ⟨rb, 0, none⟩)] w (PtrsPost w rb (numOffs k)) := by
  go_enter Try.func39, Try.ntmps39
  by_cases h : k = 1
  · subst h
    go_wp2
    go_region
    all_goals (try go_wp2)
    all_goals go_ret
    all_goals exact ptrs_block _ _ _ _ _ _ rfl (by first | exact (below_alloc _ _).drew | exact below_alloc _ _) (heap_alloc_new _ _)
  have g1 : ¬ k = 1 := h
  clear h
  by_cases h : k = 4
  · subst h
    go_wp2
    go_region
    all_goals (try go_wp2)
    all_goals go_ret
    all_goals exact ptrs_block _ _ _ _ _ _ rfl (by first | exact (below_alloc _ _).drew | exact below_alloc _ _) (heap_alloc_new _ _)
  have g4 : ¬ k = 4 := h
  clear h
  by_cases h : k = 2
  · subst h
    go_wp2
    go_region
    all_goals (try go_wp2)
    all_goals go_ret
    all_goals exact ptrs_block _ _ _ _ _ _ rfl (by first | exact (below_alloc _ _).drew | exact below_alloc _ _) (heap_alloc_new _ _)
  have g2 : ¬ k = 2 := h
  clear h
  by_cases h : k = 3
  · subst h
    go_wp2
    go_region
    all_goals (try go_wp2)
    all_goals go_ret
    all_goals exact ptrs_block _ _ _ _ _ _ rfl (by first | exact (below_alloc _ _).drew | exact below_alloc _ _) (heap_alloc_new _ _)
  have g3 : ¬ k = 3 := h
  clear h
  by_cases h : k = 19
  · subst h
    go_wp2
    all_goals (try go_wp2)
    all_goals go_ret
    all_goals exact ptrs_block _ _ _ _ _ _ rfl (by first | exact (below_alloc _ _).drew | exact below_alloc _ _) (heap_alloc_new _ _)
  have g19 : ¬ k = 19 := h
  clear h
  go_wp2
  go_ret
  rw [show numOffs k = [] by simp [numOffs, g1, g4, g2, g3, g19]]
  exact ptrs_nil _ _

set_option maxHeartbeats 800000 in
set_option maxRecDepth 100000 in
theorem fr_more (rb : Nat) (k : Int) (w : World) (hc : w.cell? ⟨rb, 2, none⟩ = some (.int .i64 k)) :
    Calls Try.prog 41 #[.pointer (some ⟨rb, 0, none⟩)] w (PtrsPost w rb (moreOffs k)) := by
  go_enter Try.func41, Try.ntmps41
  by_cases h : k = 17
  · subst h
    go_wp2
    all_goals (try go_wp2)
    all_goals go_ret
    all_goals exact ptrs_block _ _ _ _ _ _ rfl (by first | exact (below_alloc _ _).drew | exact below_alloc _ _) (heap_alloc_new _ _)
  have g17 : ¬ k = 17 := h
  clear h
  by_cases h : k = 18
  · subst h
    go_wp2
    all_goals (try go_wp2)
    all_goals go_ret
    all_goals exact ptrs_block _ _ _ _ _ _ rfl (by first | exact (below_alloc _ _).drew | exact below_alloc _ _) (heap_alloc_new _ _)
  have g18 : ¬ k = 18 := h
  clear h
  by_cases h : k = 20
  · subst h
    go_wp2
    all_goals (try go_wp2)
    all_goals go_ret
    all_goals exact ptrs_block _ _ _ _ _ _ rfl (by first | exact (below_alloc _ _).drew | exact below_alloc _ _) (heap_alloc_new _ _)
  have g20 : ¬ k = 20 := h
  clear h
  go_wp2
  go_ret
  rw [show moreOffs k = [] by simp [moreOffs, g17, g18, g20]]
  exact ptrs_nil _ _

end Go.Proofs.Ytehkgcmdndehaaa
