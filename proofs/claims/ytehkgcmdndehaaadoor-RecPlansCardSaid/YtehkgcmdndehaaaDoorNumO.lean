/-
  The order of sixteen hex digits is the order of the numbers.
-/
import Derived.Test.YtehkgcmdndehaaaDoorNumM
namespace Go.Proofs.YtehkgcmdndehaaaDoor
set_option linter.unusedSimpArgs false
set_option linter.unusedVariables false
open Go.RowKit

theorem dig_lt {a b : Nat} (ha : a < 16) (hb : b < 16) : (dig a < dig b ↔ a < b) ∧ (dig a = dig b ↔ a = b) := by
  have h : ∀ a b : Fin 16, (dig a.1 < dig b.1 ↔ a.1 < b.1) ∧ (dig a.1 = dig b.1 ↔ a.1 = b.1) := by decide +kernel
  exact h ⟨a, ha⟩ ⟨b, hb⟩
/-- The number of the last k digits. -/
theorem low_split (k n : Nat) : n % 16 ^ (k + 1) = (n / 16 ^ k % 16) * 16 ^ k + n % 16 ^ k := by
  rw [Nat.pow_succ, Nat.mod_mul, Nat.mul_comm, Nat.add_comm]
theorem lows_inj : ∀ k a b, lows k a = lows k b ↔ a % 16 ^ k = b % 16 ^ k
  | 0, a, b => by simp [lows, Nat.mod_one]
  | k + 1, a, b => by
    have h1 := Nat.mod_lt (a / 16 ^ k) (show 16 > 0 by omega)
    have h2 := Nat.mod_lt (b / 16 ^ k) (show 16 > 0 by omega)
    have h3 := Nat.mod_lt a (show 16 ^ k > 0 from Nat.pow_pos (by omega))
    have h4 := Nat.mod_lt b (show 16 ^ k > 0 from Nat.pow_pos (by omega))
    rw [low_split k a, low_split k b]
    show dig _ :: lows k a = dig _ :: lows k b ↔ _
    rw [List.cons.injEq, (dig_lt h1 h2).2, lows_inj k a b]
    generalize a / 16 ^ k % 16 = x at *
    generalize b / 16 ^ k % 16 = y at *
    generalize a % 16 ^ k = u at *
    generalize b % 16 ^ k = v at *
    generalize 16 ^ k = m at *
    constructor
    · rintro ⟨rfl, rfl⟩; rfl
    · intro h
      have hx : x = y := by
        rcases Nat.lt_trichotomy x y with hl | he | hl
        · exfalso
          have : (x + 1) * m ≤ y * m := Nat.mul_le_mul_right m hl
          rw [Nat.add_mul, Nat.one_mul] at this
          omega
        · exact he
        · exfalso
          have : (y + 1) * m ≤ x * m := Nat.mul_le_mul_right m hl
          rw [Nat.add_mul, Nat.one_mul] at this
          omega
      subst hx
      exact ⟨rfl, by omega⟩
theorem lows_less : ∀ k a b, Op.bytesLess (lows k a) (lows k b) = decide (a % 16 ^ k < b % 16 ^ k)
  | 0, a, b => by simp [lows, Op.bytesLess, Nat.mod_one]
  | k + 1, a, b => by
    have h1 := Nat.mod_lt (a / 16 ^ k) (show 16 > 0 by omega)
    have h2 := Nat.mod_lt (b / 16 ^ k) (show 16 > 0 by omega)
    have h3 := Nat.mod_lt a (show 16 ^ k > 0 from Nat.pow_pos (by omega))
    have h4 := Nat.mod_lt b (show 16 ^ k > 0 from Nat.pow_pos (by omega))
    rw [low_split k a, low_split k b]
    show (decide (dig _ < dig _) || (dig _ == dig _ && Op.bytesLess (lows k a) (lows k b))) = _
    rw [lows_less k a b]
    have e1 := (dig_lt h1 h2).1
    have e2 := (dig_lt h1 h2).2
    rw [Bool.eq_iff_iff]
    simp only [Bool.or_eq_true, Bool.and_eq_true, decide_eq_true_eq, beq_iff_eq, e1, e2]
    clear e1 e2
    generalize a / 16 ^ k % 16 = x at *
    generalize b / 16 ^ k % 16 = y at *
    generalize a % 16 ^ k = u at *
    generalize b % 16 ^ k = v at *
    generalize 16 ^ k = m at *
    rcases Nat.lt_trichotomy x y with hl | he | hl
    · have : (x + 1) * m ≤ y * m := Nat.mul_le_mul_right m hl
      rw [Nat.add_mul, Nat.one_mul] at this
      constructor
      · intro _; omega
      · intro _; exact .inl hl
    · subst he
      constructor
      · rintro (h | ⟨_, h⟩)
        · omega
        · omega
      · intro h; exact .inr ⟨rfl, by omega⟩
    · have : (y + 1) * m ≤ x * m := Nat.mul_le_mul_right m hl
      rw [Nat.add_mul, Nat.one_mul] at this
      constructor
      · rintro (h | ⟨h, _⟩)
        · omega
        · omega
      · intro h; omega
end Go.Proofs.YtehkgcmdndehaaaDoor
