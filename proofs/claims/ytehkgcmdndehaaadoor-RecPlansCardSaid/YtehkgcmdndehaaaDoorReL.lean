/-
  Plain words: what is written is read back, what is read without fault is written the same (rec's reader). No program in sight.
-/
import Derived.Test.YtehkgcmdndehaaaDoorEncL
import Derived.Test.YtehkgcmdndehaaaDoorReD
namespace Go.Proofs.YtehkgcmdndehaaaDoor
set_option linter.unusedSimpArgs false
set_option linter.unusedVariables false
open Go.RowKit

theorem retake_enc (a b : List UInt8) (n : Nat) (h : n = a.length) : Re.take ⟨a ++ b, 0⟩ n = (a, ⟨b, 0⟩) := by
  subst h
  unfold Re.take
  rw [if_neg (by simp)]
  simp
theorem reone_enc (x : UInt8) (b : List UInt8) : Re.one ⟨x :: b, 0⟩ = ((x.toNat : Int), ⟨b, 0⟩) := by
  unfold Re.one
  rw [show x :: b = [x] ++ b from rfl, retake_enc [x] b 1 rfl]
  rfl
theorem reint_enc (n : Int) (b : List UInt8) (h : I64 n) : Re.int ⟨encInt n ++ b, 0⟩ = (n, ⟨b, 0⟩) := by
  unfold Re.int
  rw [retake_enc _ b 8 (by rw [encInt_length]), dec_enc n h]
theorem reints_enc : ∀ (ns : List Int) (b : List UInt8), (∀ n ∈ ns, I64 n) → Re.ints ns.length ⟨encInts ns ++ b, 0⟩ = (ns, ⟨b, 0⟩)
  | [], b, _ => rfl
  | n :: r, b, h => by
    have e : encInts (n :: r) ++ b = encInt n ++ (encInts r ++ b) := by simp [encInts]
    rw [e, List.length_cons, Re.ints, reint_enc n _ (h n (by simp))]
    simp only [reints_enc r b (fun m hm => h m (by simp [hm]))]
theorem restr_enc (s : ByteArray) (b : List UInt8) (h : s.size ≤ 255) : Re.str ⟨encText s ++ b, 0⟩ = (s.data.toList, ⟨b, 0⟩) := by
  have e : encText s ++ b = byteOf s.size :: (s.data.toList ++ b) := rfl
  have hb : ((byteOf s.size).toNat : Int) = s.size := by rw [byteOf_mod]; omega
  have e2 : s.size = s.data.toList.length := by rw [Array.length_toList]; rfl
  unfold Re.str
  rw [e, reone_enc]
  simp only [hb, Int.toNat_natCast]
  rw [retake_enc _ _ _ e2]
  simp
theorem retake_err (r : Re) (n : Nat) (h : (r.take n).2.err = 0) : r.err = 0 ∧ r.bs = (r.take n).1 ++ (r.take n).2.bs ∧ (r.take n).1.length = n := by
  unfold Re.take at *
  split at h
  · unfold Re.fail at h
    split at h
    · simp at h
    · contradiction
  · rename_i h2
    rw [if_neg h2]
    simp at h2
    exact ⟨h2.1, by simp, by simp; omega⟩
theorem reone_dec (r : Re) (h : r.one.2.err = 0) : r.err = 0 ∧ r.bs = byteOf r.one.1 :: r.one.2.bs := by
  obtain ⟨h1, h2, h3⟩ := retake_err r 1 h
  refine ⟨h1, ?_⟩
  unfold Re.one
  obtain ⟨x, hx⟩ : ∃ x, (r.take 1).1 = [x] := by
    match hh : (r.take 1).1, h3 with
    | [x], _ => exact ⟨x, rfl⟩
  rw [hx] at h2 ⊢
  rw [h2]
  simp [byteOf_u8]
theorem reint_dec (r : Re) (h : r.int.2.err = 0) : r.err = 0 ∧ r.bs = encInt r.int.1 ++ r.int.2.bs := by
  obtain ⟨h1, h2, h3⟩ := retake_err r 8 h
  exact ⟨h1, by unfold Re.int; simp only; rw [enc_dec _ h3]; exact h2⟩
theorem reints_dec : ∀ (n : Nat) (r : Re), (Re.ints n r).2.err = 0 → r.err = 0 ∧ r.bs = encInts (Re.ints n r).1 ++ (Re.ints n r).2.bs
  | 0, r, h => ⟨h, by simp [Re.ints, encInts]⟩
  | n + 1, r, h => by
    obtain ⟨h1, h2⟩ := reints_dec n r.int.2 h
    obtain ⟨h3, h4⟩ := reint_dec r h1
    refine ⟨h3, ?_⟩
    rw [h4, Re.ints]
    simp only [encInts, List.flatMap_cons, List.append_assoc]
    rw [encInts] at h2
    rw [← h2]
theorem reone_bd (r : Re) : 0 ≤ r.one.1 ∧ r.one.1 ≤ 255 := by
  unfold Re.one
  have := ((r.take 1).1.getD 0 0).toNat_lt
  simp only
  omega
theorem restr_dec (r : Re) (h : r.str.2.err = 0) : r.err = 0 ∧ r.bs = encText (strB r.str.1) ++ r.str.2.bs ∧ r.str.1.length ≤ 255 := by
  have hb := reone_bd r
  have h' : (r.one.2.take r.one.1.toNat).2.err = 0 := h
  obtain ⟨h1, h2, h3⟩ := retake_err _ _ h'
  obtain ⟨h4, h5⟩ := reone_dec r h1
  have e : r.str = ((r.one.2.take r.one.1.toNat).1, (r.one.2.take r.one.1.toNat).2) := by
    unfold Re.str
    simp only
    rw [if_neg (by simp [h'])]
  rw [e]
  refine ⟨h4, ?_, by rw [h3]; omega⟩
  rw [h5, h2]
  simp only [encText, strB_toList, strB_size, h3]
  rw [Int.toNat_of_nonneg hb.1]
  rfl
end Go.Proofs.YtehkgcmdndehaaaDoor
