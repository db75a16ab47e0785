/-
  Equality of plans and of statements, as the walk spells it; rec.SamePlan.
-/
import Derived.Test.YtehkgcmdndehaaaDoorRePP
import Derived.Test.YtehkgcmdndehaaaDoorRecSt
import Derived.Lib.Strings
namespace Go.Proofs.YtehkgcmdndehaaaDoor
set_option linter.unusedSimpArgs false
set_option linter.unusedVariables false
open Go.RowKit

def eqPl (x y : PlanD) : Bool :=
  if x.name.toList = y.name.toList then if x.version = y.version then if x.allowance = y.allowance then if x.kind = y.kind then if x.anchor = y.anchor then if x.days = y.days then if x.cap = y.cap then if x.mode = y.mode then if x.burst = y.burst then if x.rate = y.rate then true else false else false else false else false else false else false else false else false else false else false
theorem eqPl_refl (x : PlanD) : eqPl x x = true := by simp [eqPl]
theorem eqPl_iff (x y : PlanD) : eqPl x y = true ↔ x = y := by
  constructor
  · intro h
    obtain ⟨a0, a1, a2, a3, a4, a5, a6, a7, a8, a9⟩ := x
    obtain ⟨b0, b1, b2, b3, b4, b5, b6, b7, b8, b9⟩ := y
    unfold eqPl at h
    simp only [Bool.if_false_right, Bool.and_eq_true, decide_eq_true_eq, and_true] at h
    obtain ⟨h0, rfl, rfl, rfl, rfl, rfl, rfl, rfl, rfl, rfl⟩ := h
    rw [Lib.toList_data, Lib.toList_data] at h0
    congr 1
    cases a0; cases b0
    simpa using h0
  · rintro rfl; exact eqPl_refl _
set_option maxRecDepth 100000 in
theorem eql_eqPl (x y : PlanD) (w : World) : (binOp .eql 26 (.agg x.cells) (.agg y.cells)).run Tryd.prog w = .ok (.bool (eqPl x y)) w := by
  unfold PlanD.cells eqPl
  go_simp
  (repeat split) <;> simp [*]
set_option maxRecDepth 100000 in
theorem neq_eqPl (x y : PlanD) (w : World) : (binOp .neq 26 (.agg x.cells) (.agg y.cells)).run Tryd.prog w = .ok (.bool (!eqPl x y)) w := by
  unfold PlanD.cells eqPl
  go_simp
  (repeat split) <;> simp [*]
def eqSt (x y : StmtD) : Bool :=
  if x.name.toList = y.name.toList then if x.term = y.term then if x.frm = y.frm then if x.till = y.till then if x.granted = y.granted then if x.consumed = y.consumed then if x.expired = y.expired then if x.rolled = y.rolled then if x.over = y.over then true else false else false else false else false else false else false else false else false else false
theorem eqSt_refl (x : StmtD) : eqSt x x = true := by simp [eqSt]
theorem eqSt_iff (x y : StmtD) : eqSt x y = true ↔ x = y := by
  constructor
  · intro h
    obtain ⟨a0, a1, a2, a3, a4, a5, a6, a7, a8⟩ := x
    obtain ⟨b0, b1, b2, b3, b4, b5, b6, b7, b8⟩ := y
    unfold eqSt at h
    simp only [Bool.if_false_right, Bool.and_eq_true, decide_eq_true_eq, and_true] at h
    obtain ⟨h0, rfl, rfl, rfl, rfl, rfl, rfl, rfl, rfl⟩ := h
    rw [Lib.toList_data, Lib.toList_data] at h0
    congr 1
    cases a0; cases b0
    simpa using h0
  · rintro rfl; exact eqSt_refl _
set_option maxRecDepth 100000 in
theorem eql_eqSt (x y : StmtD) (w : World) : (binOp .eql 28 (.agg x.cells) (.agg y.cells)).run Tryd.prog w = .ok (.bool (eqSt x y)) w := by
  unfold StmtD.cells eqSt
  go_simp
  (repeat split) <;> simp [*]
set_option maxRecDepth 100000 in
theorem neq_eqSt (x y : StmtD) (w : World) : (binOp .neq 28 (.agg x.cells) (.agg y.cells)).run Tryd.prog w = .ok (.bool (!eqSt x y)) w := by
  unfold StmtD.cells eqSt
  go_simp
  (repeat split) <;> simp [*]

def BoolPost (w : World) (b : Bool) (e : Ending) (w' : World) : Prop := e = .returned (.bool b) ∧ Below w.heap.size w w'
set_option maxHeartbeats 1600000 in
set_option maxRecDepth 100000 in
theorem rr_samePlan (p q : PlanD) (w : World) : Calls Tryd.prog 16 #[.agg p.cells, .agg q.cells] w (BoolPost w (eqPl p q)) := by
  go_enter Tryd.func16, Tryd.ntmps16
  go_upto_region 1 with (fail)
  have h1 := heap_alloc_new w (.cells p.cells 26)
  have h2 := heap_alloc2_new w (.cells p.cells 26) (.cells q.cells 26)
  have h1' : ((w.alloc (.cells p.cells 26)).alloc (.cells q.cells 26)).heap[w.heap.size]? = some (.cells p.cells 26 (0, 0)) := ((below_alloc _ _).block _ (by simp)).trans h1
  have hB := below_alloc2 w (.cells p.cells 26) (.cells q.cells 26)
  have he := eql_eqPl p q
  generalize (w.alloc (.cells p.cells 26)).alloc (.cells q.cells 26) = W at *
  clear h1
  have X := Lib.hid (And.intro h1' (And.intro h2 hB))
  clear h1' h2 hB
  go_wp2_with (first
    | (refine wpList_load_row rfl 26 (.tmp 2) rfl w.heap.size rfl 26 p.cells (0, 0) _ X.out.1 Tryd.underlying26 (by kernel_rfl) (by kernel_rfl) ?_)
    | (refine wpList_load_row rfl 26 (.tmp 3) rfl (w.heap.size + 1) rfl 26 q.cells (0, 0) _ X.out.2.1 Tryd.underlying26 (by kernel_rfl) (by kernel_rfl) ?_))
  go_ret
  exact ⟨rfl, X.out.2.2⟩
end Go.Proofs.YtehkgcmdndehaaaDoor
