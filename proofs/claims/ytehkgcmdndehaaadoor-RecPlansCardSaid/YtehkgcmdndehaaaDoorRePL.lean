/-
  Plain words: plans and statements, written and read. No program in sight.
-/
import Derived.Test.YtehkgcmdndehaaaDoorReL
import Derived.Test.YtehkgcmdndehaaaDoorRePS
namespace Go.Proofs.YtehkgcmdndehaaaDoor
set_option linter.unusedSimpArgs false
set_option linter.unusedVariables false
open Go.RowKit

theorem strB_list (s : ByteArray) : strB s.data.toList = s := strB_data s
theorem planOf_self (p : PlanD) : planOf p.name.data.toList p.nums = p := by
  unfold planOf
  rw [strB_data]
  rfl
theorem stmtOf_self (p : StmtD) : stmtOf p.name.data.toList p.nums = p := by
  unfold stmtOf
  rw [strB_data]
  rfl
theorem planOf_nums (bs : List UInt8) (l : List Int) (h : l.length = 9) : (planOf bs l).nums = l := by
  match l, h with
  | [a, b, c, d, e, f, g, k, m], _ => rfl
def PlanFit (p : PlanD) : Prop := p.name.size ≤ 255 ∧ ∀ n ∈ p.nums, I64 n
def StmtFit (p : StmtD) : Prop := p.name.size ≤ 255 ∧ ∀ n ∈ p.nums, I64 n
theorem planRd_enc (p : PlanD) (b : List UInt8) (h : PlanFit p) : planRd ⟨encPlan p ++ b, 0⟩ = (p, ⟨b, 0⟩) := by
  unfold planRd encPlan
  rw [List.append_assoc, restr_enc _ _ h.1]
  have e := reints_enc p.nums b h.2
  rw [show p.nums.length = 9 from rfl] at e
  simp only [e, planOf_self]
theorem stmtRd_enc (p : StmtD) (b : List UInt8) (h : StmtFit p) : stmtRd ⟨encStmt p ++ b, 0⟩ = (p, ⟨b, 0⟩) := by
  unfold stmtRd encStmt
  rw [List.append_assoc, restr_enc _ _ h.1]
  have e := reints_enc p.nums b h.2
  rw [show p.nums.length = 8 from rfl] at e
  simp only [e, stmtOf_self]
theorem planRd_dec (r : Re) (h : (planRd r).2.err = 0) : r.err = 0 ∧ r.bs = encPlan (planRd r).1 ++ (planRd r).2.bs ∧ (planRd r).1.name.size ≤ 255 := by
  unfold planRd at *
  simp only at *
  obtain ⟨h1, h2⟩ := reints_dec 9 _ h
  obtain ⟨h3, h4, h5⟩ := restr_dec r h1
  refine ⟨h3, ?_, by show (strB r.str.1).size ≤ 255; rw [strB_size]; exact h5⟩
  rw [h4, h2, encPlan, planOf_nums _ _ (Re.ints_length _ _), List.append_assoc]
  rfl
theorem stmtRd_dec (r : Re) (h : (stmtRd r).2.err = 0) : r.err = 0 ∧ r.bs = encStmt (stmtRd r).1 ++ (stmtRd r).2.bs ∧ (stmtRd r).1.name.size ≤ 255 := by
  unfold stmtRd at *
  simp only at *
  obtain ⟨h1, h2⟩ := reints_dec 8 _ h
  obtain ⟨h3, h4, h5⟩ := restr_dec r h1
  refine ⟨h3, ?_, by show (strB r.str.1).size ≤ 255; rw [strB_size]; exact h5⟩
  rw [h4, h2, encStmt, eight_nums _ _ (Re.ints_length _ _), List.append_assoc]
  rfl
theorem parsePlan_enc (p : PlanD) (h : PlanFit p) : parsePlan (encPlan p) = (p, 0) := by
  have := planRd_enc p [] h
  rw [List.append_nil] at this
  rw [parsePlan_eq, this]
  rfl
theorem parseStmt_enc (p : StmtD) (h : StmtFit p) : parseStmt (encStmt p) = (p, 0) := by
  have := stmtRd_enc p [] h
  rw [List.append_nil] at this
  rw [parseStmt_eq, this]
  rfl
theorem planEnd_zero {r : Re} (h : planEnd r = 0) : r.err = 0 ∧ r.bs = [] := by
  unfold planEnd at h
  split at h
  · cases h
  · rename_i hn
    exact ⟨h, by rcases hb : r.bs with _ | _; rfl; exact absurd ⟨h, by rw [hb]; simp⟩ hn⟩
theorem parsePlan_dec (bs : List UInt8) (h : (parsePlan bs).2 = 0) : encPlan (parsePlan bs).1 = bs ∧ (parsePlan bs).1.name.size ≤ 255 := by
  rw [parsePlan_eq] at *
  split at h
  · exact absurd h ‹_›
  · rename_i hz
    rw [if_neg hz]
    obtain ⟨h1, h2⟩ := planEnd_zero (Decidable.not_not.1 hz)
    obtain ⟨h3, h4, h5⟩ := planRd_dec _ h1
    rw [h2, List.append_nil] at h4
    exact ⟨h4.symm, h5⟩
theorem parseStmt_dec (bs : List UInt8) (h : (parseStmt bs).2 = 0) : encStmt (parseStmt bs).1 = bs ∧ (parseStmt bs).1.name.size ≤ 255 := by
  rw [parseStmt_eq] at *
  split at h
  · exact absurd h ‹_›
  · rename_i hz
    rw [if_neg hz]
    obtain ⟨h1, h2⟩ := planEnd_zero (Decidable.not_not.1 hz)
    obtain ⟨h3, h4, h5⟩ := stmtRd_dec _ h1
    rw [h2, List.append_nil] at h4
    exact ⟨h4.symm, h5⟩
end Go.Proofs.YtehkgcmdndehaaaDoor
