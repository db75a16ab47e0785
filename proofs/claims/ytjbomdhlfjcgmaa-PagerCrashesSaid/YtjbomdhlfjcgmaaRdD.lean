/-
  Plain words: how numbers and texts are read off bytes. No program in sight.
-/
import Derived.Test.YtjbomdhlfjcgmaaBytes
namespace Go.Proofs.Ytjbomdhlfjcgmaa
set_option linter.unusedSimpArgs false
set_option linter.unusedVariables false
open Go.RowKit

/-- What is left to read, and whether bytes lacked. -/
structure Rd where
  bs : List UInt8
  cut : Bool

/-- n bytes are taken off: they, and what is left. -/
def Rd.take (r : Rd) (n : Nat) : List UInt8 × Rd :=
  if r.cut = true ∨ r.bs.length < n then (List.replicate n 0, ⟨r.bs, true⟩) else (r.bs.take n, ⟨r.bs.drop n, false⟩)
def Rd.one (r : Rd) : Int × Rd := ((((r.take 1).1.getD 0 0).toNat : Int), (r.take 1).2)
/-- The number of eight bytes. -/
def decNat (bs : List UInt8) : Nat := bs.foldl (fun n x => n * 256 + x.toNat) 0
def decInt (bs : List UInt8) : Int := IntKind.i64.wrap (decNat bs)
def Rd.int (r : Rd) : Int × Rd := (decInt (r.take 8).1, (r.take 8).2)
def Rd.str (r : Rd) : List UInt8 × Rd :=
  let a := r.one
  let b := a.2.take a.1.toNat
  (if b.2.cut then [] else b.1, b.2)
def Rd.ints : Nat → Rd → List Int × Rd
  | 0, r => ([], r)
  | n + 1, r => (r.int.1 :: (Rd.ints n r.int.2).1, (Rd.ints n r.int.2).2)

theorem Rd.take_length (r : Rd) (n : Nat) : (r.take n).1.length = n := by
  unfold Rd.take
  split
  · simp
  · simp only [List.length_take]; omega
theorem Rd.take_cut (r : Rd) (n : Nat) (h : r.cut = true) : (r.take n).2.cut = true := by unfold Rd.take; rw [if_pos (.inl h)]
theorem Rd.take_le (r : Rd) (n : Nat) : (r.take n).2.bs.length ≤ r.bs.length := by
  unfold Rd.take
  split
  · exact Nat.le_refl _
  · simp only [List.length_drop]; omega
theorem Rd.one_le (r : Rd) : r.one.2.bs.length ≤ r.bs.length := r.take_le 1
theorem Rd.int_le (r : Rd) : r.int.2.bs.length ≤ r.bs.length := r.take_le 8
theorem Rd.str_le (r : Rd) : r.str.2.bs.length ≤ r.bs.length := Nat.le_trans (r.one.2.take_le _) r.one_le
theorem Rd.ints_le : ∀ (n : Nat) (r : Rd), (Rd.ints n r).2.bs.length ≤ r.bs.length
  | 0, r => Nat.le_refl _
  | n + 1, r => Nat.le_trans (Rd.ints_le n r.int.2) r.int_le
theorem Rd.ints_length : ∀ (n : Nat) (r : Rd), (Rd.ints n r).1.length = n
  | 0, _ => rfl
  | n + 1, r => by simp [Rd.ints, Rd.ints_length n]
theorem Rd.ints_snoc : ∀ (n : Nat) (r : Rd), Rd.ints (n + 1) r = ((Rd.ints n r).1 ++ [(Rd.ints n r).2.int.1], (Rd.ints n r).2.int.2)
  | 0, r => rfl
  | n + 1, r => by
    rw [Rd.ints, Rd.ints_snoc n r.int.2]
    simp [Rd.ints]

theorem decNat_snoc (bs : List UInt8) (x : UInt8) : decNat (bs ++ [x]) = decNat bs * 256 + x.toNat := by simp [decNat]
theorem decNat_aux : ∀ (bs : List UInt8) (a : Nat), bs.foldl (fun n x => n * 256 + x.toNat) a < (a + 1) * 256 ^ bs.length
  | [], a => by simp
  | x :: r, a => by
    rw [List.foldl_cons, List.length_cons, Nat.pow_succ]
    have h := decNat_aux r (a * 256 + x.toNat)
    have hx := x.toNat_lt
    have h2 : (a * 256 + x.toNat + 1) * 256 ^ r.length ≤ ((a + 1) * 256) * 256 ^ r.length := Nat.mul_le_mul_right _ (by omega)
    have h3 : ((a + 1) * 256) * 256 ^ r.length = (a + 1) * (256 ^ r.length * 256) := by rw [Nat.mul_assoc, Nat.mul_comm 256]
    omega
theorem decNat_lt (bs : List UInt8) : decNat bs < 256 ^ bs.length := by
  have := decNat_aux bs 0
  simpa [decNat] using this
theorem decInt_zero (n : Nat) : decNat (List.replicate n 0) = 0 := by
  induction n with
  | zero => rfl
  | succ n ih => rw [List.replicate_succ', decNat_snoc, ih]; rfl
end Go.Proofs.Ytjbomdhlfjcgmaa
