import Derived.Test.YtehkgcmdndehaaaChecked
import Derived.Test.YtehkgcmdndehaaaOpen
import Derived.Test.YtehkgcmdndehaaaAnsD
namespace Go.Proofs.Ytehkgcmdndehaaa
set_option linter.unusedSimpArgs false
set_option linter.unusedVariables false
open Go.ChangeShapes Go.WideShapes Go.RowKit

def AnsOk (q : AnsD) : Prop := (Lit.int .i64 q.err).wf = true ∧ (Lit.int .i64 q.left).wf = true ∧ (Lit.int .i64 q.over).wf = true ∧ (Lit.int .i64 q.n).wf = true ∧ q.stmt.name.size ≤ 140737488351232 ∧ (Lit.int .i64 q.stmt.term).wf = true ∧ (Lit.int .i64 q.stmt.frm).wf = true ∧ (Lit.int .i64 q.stmt.till).wf = true ∧ (Lit.int .i64 q.stmt.granted).wf = true ∧ (Lit.int .i64 q.stmt.consumed).wf = true ∧ (Lit.int .i64 q.stmt.expired).wf = true ∧ (Lit.int .i64 q.stmt.rolled).wf = true ∧ (Lit.int .i64 q.stmt.over).wf = true

set_option maxRecDepth 100000 in
set_option maxHeartbeats 800000 in
theorem open_ans {H : Type} {enc : TypeId × Value → H} {w : World} {base : Nat} {spare : Nat → Bool} {held : Bool} {r : Reach} {b0 : Nat} {v : Value} {d : DataW H} {p : List MemPlace}
    (hv : Value.okWide Try.prog w r b0 38 v) (h : DataW.Trod enc Try.prog w base spare held 38 v d p) (hw : (d.weights Try.prog 38).all (· ≤ reachBytes) = true) :
    ∃ q, v = Value.agg (AnsD.cells q) ∧ AnsOk q := by
  obtain ⟨cs, rfl, hsz⟩ := okWide_struct Try.underlying38 hv
  obtain ⟨fuel, hf⟩ := h
  have hsz' : cs.size = 13 := hsz.trans (by kernel_rfl)
  obtain ⟨x0, h0, w0⟩ := leaf_int (m := 6) hf hw 0 29 .i64 (by kernel_rfl) Try.underlying29
  obtain ⟨x1, h1, w1⟩ := leaf_int (m := 6) hf hw 1 3 .i64 (by kernel_rfl) Try.underlying3
  obtain ⟨x2, h2, w2⟩ := leaf_int (m := 6) hf hw 2 3 .i64 (by kernel_rfl) Try.underlying3
  obtain ⟨x3, h3, w3⟩ := leaf_int (m := 6) hf hw 3 3 .i64 (by kernel_rfl) Try.underlying3
  obtain ⟨x4, h4, w4⟩ := leaf_string (m := 6) hf hw 4 9 (by kernel_rfl) Try.underlying9
  obtain ⟨x5, h5, w5⟩ := leaf_int (m := 6) hf hw 5 3 .i64 (by kernel_rfl) Try.underlying3
  obtain ⟨x6, h6, w6⟩ := leaf_int (m := 6) hf hw 6 3 .i64 (by kernel_rfl) Try.underlying3
  obtain ⟨x7, h7, w7⟩ := leaf_int (m := 6) hf hw 7 3 .i64 (by kernel_rfl) Try.underlying3
  obtain ⟨x8, h8, w8⟩ := leaf_int (m := 6) hf hw 8 3 .i64 (by kernel_rfl) Try.underlying3
  obtain ⟨x9, h9, w9⟩ := leaf_int (m := 6) hf hw 9 3 .i64 (by kernel_rfl) Try.underlying3
  obtain ⟨x10, h10, w10⟩ := leaf_int (m := 6) hf hw 10 3 .i64 (by kernel_rfl) Try.underlying3
  obtain ⟨x11, h11, w11⟩ := leaf_int (m := 6) hf hw 11 3 .i64 (by kernel_rfl) Try.underlying3
  obtain ⟨x12, h12, w12⟩ := leaf_int (m := 6) hf hw 12 3 .i64 (by kernel_rfl) Try.underlying3
  simp only [Value.cells, Array.getElem?_toList] at h0 h1 h2 h3 h4 h5 h6 h7 h8 h9 h10 h11 h12
  refine ⟨⟨x0, x1, x2, x3, ⟨x4, x5, x6, x7, x8, x9, x10, x11, x12⟩⟩, ?_, w0, w1, w2, w3, w4, w5, w6, w7, w8, w9, w10, w11, w12⟩
  congr 1
  apply Array.ext_getElem?
  intro i
  match i with
  | 0 => rw [h0]; rfl
  | 1 => rw [h1]; rfl
  | 2 => rw [h2]; rfl
  | 3 => rw [h3]; rfl
  | 4 => rw [h4]; rfl
  | 5 => rw [h5]; rfl
  | 6 => rw [h6]; rfl
  | 7 => rw [h7]; rfl
  | 8 => rw [h8]; rfl
  | 9 => rw [h9]; rfl
  | 10 => rw [h10]; rfl
  | 11 => rw [h11]; rfl
  | 12 => rw [h12]; rfl
  | i + 13 => rw [Array.getElem?_eq_none (by omega)]; rfl

end Go.Proofs.Ytehkgcmdndehaaa
