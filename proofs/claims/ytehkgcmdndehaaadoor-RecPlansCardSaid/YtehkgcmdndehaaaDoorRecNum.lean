import Derived.Test.YtehkgcmdndehaaaDoorRecRow
import Derived.Test.YtehkgcmdndehaaaDoorReqD
namespace Go.Proofs.YtehkgcmdndehaaaDoor
set_option linter.unusedSimpArgs false
set_option linter.unusedVariables false
open Go.RowKit

set_option maxHeartbeats 1600000 in
set_option maxRecDepth 100000 in
theorem rr_numbers (rb : Nat) (k : Int) (w : World) :
    Calls Tryd.prog 57 #[.pointer (some ⟨rb, 0, none⟩), .int .i64 k] w (PtrsPost w rb (recOffs k)) := by
  go_enter Tryd.func57, Tryd.ntmps57
  by_cases h : k = 0
  · subst h
    go_wp2
    go_region
    all_goals (try go_wp2)
    all_goals go_ret
    all_goals exact ptrs_block _ _ _ _ _ _ rfl (by first | exact (below_alloc _ _).drew | exact below_alloc _ _) (heap_alloc_new _ _)
  have g0 : ¬ k = 0 := h
  clear h
  by_cases h : k = 1
  · subst h
    go_wp2
    go_region
    all_goals (try go_wp2)
    all_goals go_ret
    all_goals exact ptrs_block _ _ _ _ _ _ rfl (by first | exact (below_alloc _ _).drew | exact below_alloc _ _) (heap_alloc_new _ _)
  have g1 : ¬ k = 1 := h
  clear h
  by_cases h : k = 3
  · subst h
    go_wp2
    go_region
    all_goals (try go_wp2)
    all_goals go_ret
    all_goals exact ptrs_block _ _ _ _ _ _ rfl (by first | exact (below_alloc _ _).drew | exact below_alloc _ _) (heap_alloc_new _ _)
  have g3 : ¬ k = 3 := h
  clear h
  by_cases h : k = 2
  · subst h
    go_wp2
    go_region
    all_goals (try go_wp2)
    all_goals go_ret
    all_goals exact ptrs_block _ _ _ _ _ _ rfl (by first | exact (below_alloc _ _).drew | exact below_alloc _ _) (heap_alloc_new _ _)
  have g2 : ¬ k = 2 := h
  clear h
  rw [show recOffs k = [73, 74, 75] by simp [recOffs, g0, g1, g2, g3]]
  go_wp2
  go_region
  all_goals (try go_wp2)
  all_goals go_ret
  all_goals exact ptrs_block _ _ _ _ _ _ rfl (by first | exact (below_alloc _ _).drew | exact below_alloc _ _) (heap_alloc_new _ _)
end Go.Proofs.YtehkgcmdndehaaaDoor
