/-
  Plain words: how numbers and texts are read off bytes, with an error's number kept (rec's reader). No program in sight.
-/
import Derived.Test.YtehkgcmdndehaaaDoorRdD
namespace Go.Proofs.YtehkgcmdndehaaaDoor
set_option linter.unusedSimpArgs false
set_option linter.unusedVariables false
open Go.RowKit

/-- What is left to read, and what was wrong first (0: nothing). -/
structure Re where
  bs : List UInt8
  err : Int

def Re.fail (r : Re) (e : Int) : Re := if r.err = 0 then ⟨r.bs, e⟩ else r
def Re.take (r : Re) (n : Nat) : List UInt8 × Re :=
  if r.err ≠ 0 ∨ r.bs.length < n then (List.replicate n 0, r.fail 8) else (r.bs.take n, ⟨r.bs.drop n, 0⟩)
def Re.one (r : Re) : Int × Re := ((((r.take 1).1.getD 0 0).toNat : Int), (r.take 1).2)
def Re.int (r : Re) : Int × Re := (decInt (r.take 8).1, (r.take 8).2)
def Re.str (r : Re) : List UInt8 × Re :=
  let a := r.one
  let b := a.2.take a.1.toNat
  (if b.2.err ≠ 0 then [] else b.1, b.2)
def Re.ints : Nat → Re → List Int × Re
  | 0, r => ([], r)
  | n + 1, r => (r.int.1 :: (Re.ints n r.int.2).1, (Re.ints n r.int.2).2)

theorem Re.take_length (r : Re) (n : Nat) : (r.take n).1.length = n := by
  unfold Re.take
  split
  · simp
  · simp only [List.length_take]; omega
theorem Re.fail_bs (r : Re) (e : Int) : (r.fail e).bs = r.bs := by unfold Re.fail; split <;> rfl
theorem Re.take_le (r : Re) (n : Nat) : (r.take n).2.bs.length ≤ r.bs.length := by
  unfold Re.take
  split
  · rw [Re.fail_bs]; exact Nat.le_refl _
  · simp only [List.length_drop]; omega
theorem Re.one_le (r : Re) : r.one.2.bs.length ≤ r.bs.length := r.take_le 1
theorem Re.int_le (r : Re) : r.int.2.bs.length ≤ r.bs.length := r.take_le 8
theorem Re.str_le (r : Re) : r.str.2.bs.length ≤ r.bs.length := Nat.le_trans (r.one.2.take_le _) r.one_le
theorem Re.ints_le : ∀ (n : Nat) (r : Re), (Re.ints n r).2.bs.length ≤ r.bs.length
  | 0, r => Nat.le_refl _
  | n + 1, r => Nat.le_trans (Re.ints_le n r.int.2) r.int_le
theorem Re.ints_length : ∀ (n : Nat) (r : Re), (Re.ints n r).1.length = n
  | 0, _ => rfl
  | n + 1, r => by simp [Re.ints, Re.ints_length n]
theorem Re.ints_snoc : ∀ (n : Nat) (r : Re), Re.ints (n + 1) r = ((Re.ints n r).1 ++ [(Re.ints n r).2.int.1], (Re.ints n r).2.int.2)
  | 0, r => rfl
  | n + 1, r => by
    rw [Re.ints, Re.ints_snoc n r.int.2]
    simp [Re.ints]
end Go.Proofs.YtehkgcmdndehaaaDoor
