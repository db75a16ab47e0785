import Derived.Test.YtehkgcmdndehaaaLawFA
import Derived.Test.YtehkgcmdndehaaaOpenAns
namespace Go.Proofs.Ytehkgcmdndehaaa
set_option linter.unusedSimpArgs false
set_option linter.unusedVariables false
open Go.RowKit

theorem fit_norm (a : AnsD) (h : AnsOk a) (h0 : 0 ≤ a.err) (h1 : a.err ≤ 255) (h2 : a.stmt.name.size ≤ 255) : AnsFit a.norm := by
  obtain ⟨w0, w1, w2, w3, w4, w5, w6, w7, w8, w9, w10, w11, w12⟩ := h
  have i1 := bounds_i64 w1
  have i2 := bounds_i64 w2
  have i3 := bounds_i64 w3
  have i5 := bounds_i64 w5
  have i6 := bounds_i64 w6
  have i7 := bounds_i64 w7
  have i8 := bounds_i64 w8
  have i9 := bounds_i64 w9
  have i10 := bounds_i64 w10
  have i11 := bounds_i64 w11
  have i12 := bounds_i64 w12
  unfold AnsD.norm
  by_cases ht : a.stmt.term = 0
  · rw [if_pos ht]
    refine ⟨⟨h0, h1⟩, ⟨i1, i2, i3⟩, ?_, (by decide : stmtZ.name.size ≤ 255), fun _ => rfl⟩
    intro n hn
    simp [StmtD.nums, stmtZ] at hn
    subst hn
    unfold I64; omega
  · rw [if_neg ht]
    refine ⟨⟨h0, h1⟩, ⟨i1, i2, i3⟩, ?_, h2, fun h => absurd h ht⟩
    intro n hn
    simp only [StmtD.nums, List.mem_cons, List.not_mem_nil, or_false] at hn
    rcases hn with rfl | rfl | rfl | rfl | rfl | rfl | rfl | rfl <;> assumption

theorem frameAnswers_walk (a : AnsD) (ha : AnsOk a) (vb : Value) (zs : List UInt8) (w : World) (hz : Reads w vb zs) :
    Calls Try.prog 5 #[.agg a.cells, vb] w (TrueBelow w) := by
  by_cases h : a.err < 0 ∨ 255 < a.err ∨ 255 < a.stmt.name.size ∨ 2000 < zs.length
  · exact frameAnswers_out a vb zs w hz h
  · exact frameAnswers_in a vb zs w hz (fit_norm a ha (by omega) (by omega) (by omega)) (by omega) (by omega) (by omega) (by omega)
end Go.Proofs.Ytehkgcmdndehaaa
