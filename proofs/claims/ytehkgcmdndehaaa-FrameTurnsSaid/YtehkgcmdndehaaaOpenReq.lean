import Derived.Test.YtehkgcmdndehaaaChecked
import Derived.Test.YtehkgcmdndehaaaOpen
import Derived.Test.YtehkgcmdndehaaaReqD
namespace Go.Proofs.Ytehkgcmdndehaaa
set_option linter.unusedSimpArgs false
set_option linter.unusedVariables false
open Go.ChangeShapes Go.WideShapes Go.RowKit

def ReqOk (q : ReqD) : Prop := (Lit.int .i64 q.kind).wf = true ∧ q.key.size ≤ 140737488351232 ∧ (Lit.int .i64 q.id).wf = true ∧ (Lit.int .i64 q.n).wf = true ∧ (Lit.int .i64 q.ttl).wf = true ∧ (Lit.int .i64 q.of).wf = true ∧ q.name.size ≤ 140737488351232 ∧ q.secret.size ≤ 140737488351232 ∧ q.plan.name.size ≤ 140737488351232 ∧ (Lit.int .i64 q.plan.version).wf = true ∧ (Lit.int .i64 q.plan.allowance).wf = true ∧ (Lit.int .i64 q.plan.kind).wf = true ∧ (Lit.int .i64 q.plan.anchor).wf = true ∧ (Lit.int .i64 q.plan.days).wf = true ∧ (Lit.int .i64 q.plan.cap).wf = true ∧ (Lit.int .i64 q.plan.mode).wf = true ∧ (Lit.int .i64 q.plan.burst).wf = true ∧ (Lit.int .i64 q.plan.rate).wf = true

set_option maxRecDepth 100000 in
set_option maxHeartbeats 800000 in
theorem open_req {H : Type} {enc : TypeId × Value → H} {w : World} {base : Nat} {spare : Nat → Bool} {held : Bool} {r : Reach} {b0 : Nat} {v : Value} {d : DataW H} {p : List MemPlace}
    (hv : Value.okWide Try.prog w r b0 25 v) (h : DataW.Trod enc Try.prog w base spare held 25 v d p) (hw : (d.weights Try.prog 25).all (· ≤ reachBytes) = true) :
    ∃ q, v = Value.agg (ReqD.cells q) ∧ ReqOk q := by
  obtain ⟨cs, rfl, hsz⟩ := okWide_struct Try.underlying25 hv
  obtain ⟨fuel, hf⟩ := h
  have hsz' : cs.size = 18 := hsz.trans (by kernel_rfl)
  obtain ⟨x0, h0, w0⟩ := leaf_int (m := 6) hf hw 0 3 .i64 (by kernel_rfl) Try.underlying3
  obtain ⟨x1, h1, w1⟩ := leaf_string (m := 6) hf hw 1 9 (by kernel_rfl) Try.underlying9
  obtain ⟨x2, h2, w2⟩ := leaf_int (m := 6) hf hw 2 3 .i64 (by kernel_rfl) Try.underlying3
  obtain ⟨x3, h3, w3⟩ := leaf_int (m := 6) hf hw 3 3 .i64 (by kernel_rfl) Try.underlying3
  obtain ⟨x4, h4, w4⟩ := leaf_int (m := 6) hf hw 4 3 .i64 (by kernel_rfl) Try.underlying3
  obtain ⟨x5, h5, w5⟩ := leaf_int (m := 6) hf hw 5 3 .i64 (by kernel_rfl) Try.underlying3
  obtain ⟨x6, h6, w6⟩ := leaf_string (m := 6) hf hw 6 9 (by kernel_rfl) Try.underlying9
  obtain ⟨x7, h7, w7⟩ := leaf_string (m := 6) hf hw 7 9 (by kernel_rfl) Try.underlying9
  obtain ⟨x8, h8, w8⟩ := leaf_string (m := 6) hf hw 8 9 (by kernel_rfl) Try.underlying9
  obtain ⟨x9, h9, w9⟩ := leaf_int (m := 6) hf hw 9 3 .i64 (by kernel_rfl) Try.underlying3
  obtain ⟨x10, h10, w10⟩ := leaf_int (m := 6) hf hw 10 3 .i64 (by kernel_rfl) Try.underlying3
  obtain ⟨x11, h11, w11⟩ := leaf_int (m := 6) hf hw 11 3 .i64 (by kernel_rfl) Try.underlying3
  obtain ⟨x12, h12, w12⟩ := leaf_int (m := 6) hf hw 12 3 .i64 (by kernel_rfl) Try.underlying3
  obtain ⟨x13, h13, w13⟩ := leaf_int (m := 6) hf hw 13 3 .i64 (by kernel_rfl) Try.underlying3
  obtain ⟨x14, h14, w14⟩ := leaf_int (m := 6) hf hw 14 3 .i64 (by kernel_rfl) Try.underlying3
  obtain ⟨x15, h15, w15⟩ := leaf_int (m := 6) hf hw 15 3 .i64 (by kernel_rfl) Try.underlying3
  obtain ⟨x16, h16, w16⟩ := leaf_int (m := 6) hf hw 16 3 .i64 (by kernel_rfl) Try.underlying3
  obtain ⟨x17, h17, w17⟩ := leaf_int (m := 6) hf hw 17 3 .i64 (by kernel_rfl) Try.underlying3
  simp only [Value.cells, Array.getElem?_toList] at h0 h1 h2 h3 h4 h5 h6 h7 h8 h9 h10 h11 h12 h13 h14 h15 h16 h17
  refine ⟨⟨x0, x1, x2, x3, x4, x5, x6, x7, ⟨x8, x9, x10, x11, x12, x13, x14, x15, x16, x17⟩⟩, ?_, w0, w1, w2, w3, w4, w5, w6, w7, w8, w9, w10, w11, w12, w13, w14, w15, w16, w17⟩
  congr 1
  apply Array.ext_getElem?
  intro i
  match i with
  | 0 => rw [h0]; rfl
  | 1 => rw [h1]; rfl
  | 2 => rw [h2]; rfl
  | 3 => rw [h3]; rfl
  | 4 => rw [h4]; rfl
  | 5 => rw [h5]; rfl
  | 6 => rw [h6]; rfl
  | 7 => rw [h7]; rfl
  | 8 => rw [h8]; rfl
  | 9 => rw [h9]; rfl
  | 10 => rw [h10]; rfl
  | 11 => rw [h11]; rfl
  | 12 => rw [h12]; rfl
  | 13 => rw [h13]; rfl
  | 14 => rw [h14]; rfl
  | 15 => rw [h15]; rfl
  | 16 => rw [h16]; rfl
  | 17 => rw [h17]; rfl
  | i + 18 => rw [Array.getElem?_eq_none (by omega)]; rfl

end Go.Proofs.Ytehkgcmdndehaaa
