import Derived.Test.YtehkgcmdndehaaaDoorChecked
import Derived.Test.YtehkgcmdndehaaaDoorOpen
import Derived.Test.YtehkgcmdndehaaaDoorReP
import Derived.Test.YtehkgcmdndehaaaDoorAnsD
namespace Go.Proofs.YtehkgcmdndehaaaDoor
set_option linter.unusedSimpArgs false
set_option linter.unusedVariables false
open Go.ChangeShapes Go.WideShapes Go.RowKit

def PlanOk (q : PlanD) : Prop := q.name.size ≤ 140737488351232 ∧ (Lit.int .i64 q.version).wf = true ∧ (Lit.int .i64 q.allowance).wf = true ∧ (Lit.int .i64 q.kind).wf = true ∧ (Lit.int .i64 q.anchor).wf = true ∧ (Lit.int .i64 q.days).wf = true ∧ (Lit.int .i64 q.cap).wf = true ∧ (Lit.int .i64 q.mode).wf = true ∧ (Lit.int .i64 q.burst).wf = true ∧ (Lit.int .i64 q.rate).wf = true
def StmtOk (q : StmtD) : Prop := q.name.size ≤ 140737488351232 ∧ (Lit.int .i64 q.term).wf = true ∧ (Lit.int .i64 q.frm).wf = true ∧ (Lit.int .i64 q.till).wf = true ∧ (Lit.int .i64 q.granted).wf = true ∧ (Lit.int .i64 q.consumed).wf = true ∧ (Lit.int .i64 q.expired).wf = true ∧ (Lit.int .i64 q.rolled).wf = true ∧ (Lit.int .i64 q.over).wf = true

set_option maxRecDepth 100000 in
set_option maxHeartbeats 800000 in
theorem open_plan {H : Type} {enc : TypeId × Value → H} {w : World} {base : Nat} {spare : Nat → Bool} {held : Bool} {r : Reach} {b0 : Nat} {v : Value} {d : DataW H} {p : List MemPlace}
    (hv : Value.okWide Tryd.prog w r b0 26 v) (h : DataW.Trod enc Tryd.prog w base spare held 26 v d p) (hw : (d.weights Tryd.prog 26).all (· ≤ reachBytes) = true) :
    ∃ q, v = Value.agg (PlanD.cells q) ∧ PlanOk q := by
  obtain ⟨cs, rfl, hsz⟩ := okWide_struct Tryd.underlying26 hv
  obtain ⟨fuel, hf⟩ := h
  have hsz' : cs.size = 10 := hsz.trans (by kernel_rfl)
  obtain ⟨x0, h0, w0⟩ := leaf_string (m := 6) hf hw 0 9 (by kernel_rfl) Tryd.underlying9
  obtain ⟨x1, h1, w1⟩ := leaf_int (m := 6) hf hw 1 3 .i64 (by kernel_rfl) Tryd.underlying3
  obtain ⟨x2, h2, w2⟩ := leaf_int (m := 6) hf hw 2 3 .i64 (by kernel_rfl) Tryd.underlying3
  obtain ⟨x3, h3, w3⟩ := leaf_int (m := 6) hf hw 3 3 .i64 (by kernel_rfl) Tryd.underlying3
  obtain ⟨x4, h4, w4⟩ := leaf_int (m := 6) hf hw 4 3 .i64 (by kernel_rfl) Tryd.underlying3
  obtain ⟨x5, h5, w5⟩ := leaf_int (m := 6) hf hw 5 3 .i64 (by kernel_rfl) Tryd.underlying3
  obtain ⟨x6, h6, w6⟩ := leaf_int (m := 6) hf hw 6 3 .i64 (by kernel_rfl) Tryd.underlying3
  obtain ⟨x7, h7, w7⟩ := leaf_int (m := 6) hf hw 7 3 .i64 (by kernel_rfl) Tryd.underlying3
  obtain ⟨x8, h8, w8⟩ := leaf_int (m := 6) hf hw 8 3 .i64 (by kernel_rfl) Tryd.underlying3
  obtain ⟨x9, h9, w9⟩ := leaf_int (m := 6) hf hw 9 3 .i64 (by kernel_rfl) Tryd.underlying3
  simp only [Value.cells, Array.getElem?_toList] at h0 h1 h2 h3 h4 h5 h6 h7 h8 h9
  refine ⟨⟨x0, x1, x2, x3, x4, x5, x6, x7, x8, x9⟩, ?_, w0, w1, w2, w3, w4, w5, w6, w7, w8, w9⟩
  congr 1
  apply Array.ext_getElem?
  intro i
  match i with
  | 0 => rw [h0]; rfl
  | 1 => rw [h1]; rfl
  | 2 => rw [h2]; rfl
  | 3 => rw [h3]; rfl
  | 4 => rw [h4]; rfl
  | 5 => rw [h5]; rfl
  | 6 => rw [h6]; rfl
  | 7 => rw [h7]; rfl
  | 8 => rw [h8]; rfl
  | 9 => rw [h9]; rfl
  | i + 10 => rw [Array.getElem?_eq_none (by omega)]; rfl

set_option maxRecDepth 100000 in
set_option maxHeartbeats 800000 in
theorem open_stmt {H : Type} {enc : TypeId × Value → H} {w : World} {base : Nat} {spare : Nat → Bool} {held : Bool} {r : Reach} {b0 : Nat} {v : Value} {d : DataW H} {p : List MemPlace}
    (hv : Value.okWide Tryd.prog w r b0 28 v) (h : DataW.Trod enc Tryd.prog w base spare held 28 v d p) (hw : (d.weights Tryd.prog 28).all (· ≤ reachBytes) = true) :
    ∃ q, v = Value.agg (StmtD.cells q) ∧ StmtOk q := by
  obtain ⟨cs, rfl, hsz⟩ := okWide_struct Tryd.underlying28 hv
  obtain ⟨fuel, hf⟩ := h
  have hsz' : cs.size = 9 := hsz.trans (by kernel_rfl)
  obtain ⟨x0, h0, w0⟩ := leaf_string (m := 6) hf hw 0 9 (by kernel_rfl) Tryd.underlying9
  obtain ⟨x1, h1, w1⟩ := leaf_int (m := 6) hf hw 1 3 .i64 (by kernel_rfl) Tryd.underlying3
  obtain ⟨x2, h2, w2⟩ := leaf_int (m := 6) hf hw 2 3 .i64 (by kernel_rfl) Tryd.underlying3
  obtain ⟨x3, h3, w3⟩ := leaf_int (m := 6) hf hw 3 3 .i64 (by kernel_rfl) Tryd.underlying3
  obtain ⟨x4, h4, w4⟩ := leaf_int (m := 6) hf hw 4 3 .i64 (by kernel_rfl) Tryd.underlying3
  obtain ⟨x5, h5, w5⟩ := leaf_int (m := 6) hf hw 5 3 .i64 (by kernel_rfl) Tryd.underlying3
  obtain ⟨x6, h6, w6⟩ := leaf_int (m := 6) hf hw 6 3 .i64 (by kernel_rfl) Tryd.underlying3
  obtain ⟨x7, h7, w7⟩ := leaf_int (m := 6) hf hw 7 3 .i64 (by kernel_rfl) Tryd.underlying3
  obtain ⟨x8, h8, w8⟩ := leaf_int (m := 6) hf hw 8 3 .i64 (by kernel_rfl) Tryd.underlying3
  simp only [Value.cells, Array.getElem?_toList] at h0 h1 h2 h3 h4 h5 h6 h7 h8
  refine ⟨⟨x0, x1, x2, x3, x4, x5, x6, x7, x8⟩, ?_, w0, w1, w2, w3, w4, w5, w6, w7, w8⟩
  congr 1
  apply Array.ext_getElem?
  intro i
  match i with
  | 0 => rw [h0]; rfl
  | 1 => rw [h1]; rfl
  | 2 => rw [h2]; rfl
  | 3 => rw [h3]; rfl
  | 4 => rw [h4]; rfl
  | 5 => rw [h5]; rfl
  | 6 => rw [h6]; rfl
  | 7 => rw [h7]; rfl
  | 8 => rw [h8]; rfl
  | i + 9 => rw [Array.getElem?_eq_none (by omega)]; rfl

end Go.Proofs.YtehkgcmdndehaaaDoor
