import Derived.OpenShut
import Derived.Test.YtehkgcmdndehaaaDoorOpenPS
import Derived.Test.YtehkgcmdndehaaaDoorRePL
namespace Go.Proofs.YtehkgcmdndehaaaDoor
open Go.ChangeShapes Go.WideShapes Go.RowKit
set_option linter.unusedSimpArgs false
set_option linter.unusedVariables false

theorem i64_of {n : Int} (h : (Lit.int .i64 n).wf = true) : I64 n := by have := bounds_i64 h; exact ⟨this.1, by omega⟩
theorem planFit_of {p : PlanD} (h : PlanOk p) (hn : p.name.size ≤ 255) : PlanFit p := by
  obtain ⟨h0, h1, h2, h3, h4, h5, h6, h7, h8, h9⟩ := h
  refine ⟨hn, fun n hm => ?_⟩
  simp only [PlanD.nums, List.mem_cons, List.not_mem_nil, or_false] at hm
  rcases hm with rfl | rfl | rfl | rfl | rfl | rfl | rfl | rfl | rfl <;> (apply i64_of; assumption)
theorem stmtFit_of {p : StmtD} (h : StmtOk p) (hn : p.name.size ≤ 255) : StmtFit p := by
  obtain ⟨h0, h1, h2, h3, h4, h5, h6, h7, h8⟩ := h
  refine ⟨hn, fun n hm => ?_⟩
  simp only [StmtD.nums, List.mem_cons, List.not_mem_nil, or_false] at hm
  rcases hm with rfl | rfl | rfl | rfl | rfl | rfl | rfl | rfl <;> (apply i64_of; assumption)
end Go.Proofs.YtehkgcmdndehaaaDoor
