/-
  Plain words: an answer that is written is read back. No program in sight.
-/
import Derived.Test.YtehkgcmdndehaaaAnsL
namespace Go.Proofs.Ytehkgcmdndehaaa
set_option linter.unusedSimpArgs false
set_option linter.unusedVariables false
open Go.RowKit

theorem take_enc (a b : List UInt8) (n : Nat) (h : n = a.length) : Rd.take ⟨a ++ b, false⟩ n = (a, ⟨b, false⟩) := by
  subst h
  unfold Rd.take
  rw [if_neg (by simp)]
  simp
theorem one_enc (x : UInt8) (b : List UInt8) : Rd.one ⟨x :: b, false⟩ = ((x.toNat : Int), ⟨b, false⟩) := by
  have e : Rd.take ⟨x :: b, false⟩ 1 = ([x], ⟨b, false⟩) := take_enc [x] b 1 rfl
  unfold Rd.one
  rw [e]
  rfl
theorem int_enc (n : Int) (b : List UInt8) (h : I64 n) : Rd.int ⟨encInt n ++ b, false⟩ = (n, ⟨b, false⟩) := by
  unfold Rd.int
  rw [take_enc (encInt n) b 8 (encInt_length n).symm, dec_enc n h]
theorem ints_enc : ∀ (ns : List Int) (b : List UInt8), (∀ n ∈ ns, I64 n) → Rd.ints ns.length ⟨encInts ns ++ b, false⟩ = (ns, ⟨b, false⟩)
  | [], b, _ => rfl
  | n :: r, b, h => by
    have e : encInts (n :: r) ++ b = encInt n ++ (encInts r ++ b) := by simp [encInts]
    rw [e, List.length_cons, Rd.ints, int_enc n _ (h n (by simp)), ints_enc r b (fun m hm => h m (by simp [hm]))]
theorem str_enc (s : ByteArray) (b : List UInt8) (h : s.size ≤ 255) : Rd.str ⟨encText s ++ b, false⟩ = (s.data.toList, ⟨b, false⟩) := by
  have e : encText s ++ b = byteOf s.size :: (s.data.toList ++ b) := rfl
  have hb : ((byteOf (s.size : Int)).toNat : Int) = s.size := by rw [byteOf_mod]; omega
  have hl : s.size = s.data.toList.length := rfl
  unfold Rd.str
  rw [e, one_enc]
  simp only [hb, Int.toNat_natCast]
  rw [take_enc s.data.toList b s.size hl]
  rfl

def AnsFit (a : AnsD) : Prop := (0 ≤ a.err ∧ a.err ≤ 255) ∧ (I64 a.left ∧ I64 a.over ∧ I64 a.n) ∧ (∀ n ∈ a.stmt.nums, I64 n) ∧ a.stmt.name.size ≤ 255 ∧ (a.stmt.term = 0 → a.stmt = stmtZ)

theorem parse_enc (a : AnsD) (h : AnsFit a) : parseAns (encAns a) = (a, 0) := by
  obtain ⟨he, ⟨h1, h2, h3⟩, hn, hs, hz⟩ := h
  have hb : ((byteOf a.err).toNat : Int) = a.err := by rw [byteOf_mod]; omega
  have e1 : Rd.one ⟨encAns a, false⟩ = (a.err, ⟨encInts [a.left, a.over, a.n] ++ (if a.stmt.term = 0 then [0] else 1 :: encStmt a.stmt), false⟩) := by
    rw [encAns, List.cons_append, one_enc, hb]
  have e2 : Rd.ints 3 ⟨encInts [a.left, a.over, a.n] ++ (if a.stmt.term = 0 then [0] else 1 :: encStmt a.stmt), false⟩ = ([a.left, a.over, a.n], ⟨if a.stmt.term = 0 then [0] else 1 :: encStmt a.stmt, false⟩) :=
    ints_enc [a.left, a.over, a.n] _ (by intro n hn; simp at hn; rcases hn with rfl | rfl | rfl <;> assumption)
  by_cases ht : a.stmt.term = 0
  · rw [if_pos ht] at e1 e2
    have e3 : Rd.one ⟨[0], false⟩ = (0, ⟨[], false⟩) := one_enc 0 []
    unfold parseAns
    simp only [e1, e2, e3]
    rw [← hz ht]
    cases a
    simp
  · rw [if_neg ht] at e1 e2
    have e3 : Rd.one ⟨1 :: encStmt a.stmt, false⟩ = (1, ⟨encStmt a.stmt, false⟩) := one_enc 1 _
    have e4 : Rd.str ⟨encStmt a.stmt, false⟩ = (a.stmt.name.data.toList, ⟨encInts a.stmt.nums, false⟩) := str_enc _ _ hs
    have e5 : Rd.ints 8 ⟨encInts a.stmt.nums, false⟩ = (a.stmt.nums, ⟨[], false⟩) := by
      have := ints_enc a.stmt.nums [] hn
      rwa [List.append_nil] at this
    have e6 : stmtOf a.stmt.name.data.toList a.stmt.nums = a.stmt := by
      unfold stmtOf
      rw [strB_data]
      rfl
    unfold parseAns
    simp only [e1, e2, e3, e4, e5]
    simp [e6, ht]
end Go.Proofs.Ytehkgcmdndehaaa
