/-
  rec.Number and the document's Number: sixteen hex digits.
-/
import Derived.Test.YtehkgcmdndehaaaDoorNumF
namespace Go.Proofs.YtehkgcmdndehaaaDoor
set_option linter.unusedSimpArgs false
set_option linter.unusedVariables false
open Go.RowKit

theorem hexK (n : Nat) : ∀ m, n < 16 ^ (m + 1) → ∃ K, K ≤ m ∧ (∀ k, k < K → 16 ≤ n / 16 ^ k) ∧ n / 16 ^ K < 16
  | 0, h => ⟨0, Nat.le_refl _, fun k hk => absurd hk (by omega), by simpa using h⟩
  | m + 1, h => by
    by_cases h1 : n < 16 ^ (m + 1)
    · obtain ⟨K, hK, h2, h3⟩ := hexK n m h1
      exact ⟨K, by omega, h2, h3⟩
    · refine ⟨m + 1, Nat.le_refl _, fun k hk => ?_, ?_⟩
      · rw [Nat.le_div_iff_mul_le (Nat.pow_pos (by omega)), Nat.mul_comm, ← Nat.pow_succ]
        exact Nat.le_trans (Nat.pow_le_pow_right (by omega) (by omega)) (Nat.le_of_not_lt h1)
      · rw [Nat.div_lt_iff_lt_mul (Nat.pow_pos (by omega)), Nat.mul_comm, ← Nat.pow_succ]
        exact h
theorem lows_length : ∀ k n, (lows k n).length = k
  | 0, _ => rfl
  | k + 1, n => by simp [lows, lows_length k n]
theorem lows_pad (n K : Nat) (h : n / 16 ^ K < 16) : ∀ j, lows (K + 1 + j) n = List.replicate j 48 ++ lows (K + 1) n
  | 0 => rfl
  | j + 1 => by
    show dig (n / 16 ^ (K + 1 + j) % 16) :: lows (K + 1 + j) n = _
    rw [lows_pad n K h j]
    have : n / 16 ^ (K + 1 + j) = 0 := by
      rw [Nat.add_assoc, Nat.pow_add, ← Nat.div_div_eq_div_mul, Nat.div_eq_of_lt]
      exact Nat.lt_of_lt_of_le h (by
        have : 16 ^ 1 ≤ 16 ^ (1 + j) := Nat.pow_le_pow_right (by omega) (by omega)
        omega)
    rw [this]
    rfl
theorem fmtI (n K : Nat) (hn : n < 2 ^ 64) (hK : K ≤ 15) (hlo : ∀ k, k < K → 16 ≤ n / 16 ^ k) (hhi : n / 16 ^ K < 16) (w : World) (ht : w.cell? ⟨3, 15, none⟩ = some (.int .u8 4)) :
    Calls Tryd.prog 47 #[.int .u64 n, .int .i64 16] w fun e w' => e = .returned (.string (strB (lows (K + 1) n))) ∧ Below w.heap.size w w' := by
  have H := Lib.hid (fmt16 n K hn hK hlo hhi w ht)
  clear hn hlo hhi ht
  go_enter Tryd.func47, Tryd.ntmps47
  go_wp2_with (go_at_call 70; refine H.out.mono ?_; rintro e w' ⟨rfl, hB⟩; have HB := Lib.hid hB; clear hB)
  go_ret
  exact ⟨rfl, HB.out⟩
theorem fmtU (n K : Nat) (hn : n < 2 ^ 64) (hK : K ≤ 15) (hlo : ∀ k, k < K → 16 ≤ n / 16 ^ k) (hhi : n / 16 ^ K < 16) (w : World) (ht : w.cell? ⟨3, 15, none⟩ = some (.int .u8 4)) :
    Calls Tryd.prog 28 #[.int .u64 n, .int .i64 16] w fun e w' => e = .returned (.string (strB (lows (K + 1) n))) ∧ Below w.heap.size w w' := by
  have H := Lib.hid (fmtI n K hn hK hlo hhi w ht)
  clear hn hlo hhi ht
  go_enter Tryd.func28, Tryd.ntmps28
  go_wp2_with (go_at_call 47; refine H.out.mono ?_; rintro e w' ⟨rfl, hB⟩; have HB := Lib.hid hB; clear hB)
  go_ret
  exact ⟨rfl, HB.out⟩
theorem strB_append (a b : List UInt8) : strB (a ++ b) = strB a ++ strB b := by
  apply ByteArray.ext
  rw [ByteArray.data_append]
  show (a ++ b).toArray = a.toArray ++ b.toArray
  simp
set_option maxRecDepth 100000 in
theorem num_rec (n : Nat) (hn : n < 2 ^ 63) (w : World) (ht : w.cell? ⟨3, 15, none⟩ = some (.int .u8 4)) :
    Calls Tryd.prog 8 #[.int .i64 n] w fun e w' => e = .returned (.string (strB (lows 16 n))) ∧ Below w.heap.size w w' := by
  obtain ⟨K, hK, hlo, hhi⟩ := hexK n 15 (Nat.lt_of_lt_of_le hn (by decide))
  have H := Lib.hid (fmtU n K (by omega) hK hlo hhi w ht)
  have HP := Lib.hid (lows_pad n K hhi (15 - K))
  have HL : Hid ((strB (lows (K + 1) n)).size = K + 1) := Lib.hid (by show (lows (K + 1) n).toArray.size = K + 1; simp [lows_length])
  clear hlo hhi ht
  have hn0 : (n : Int) < 9223372036854775808 := by omega
  clear hn
  go_enter Tryd.func8, Tryd.ntmps8
  go_upto_region 2 with (go_at_call 28; refine H.out.mono ?_; rintro e w1 ⟨rfl, hB⟩; have HB := Lib.hid hB; clear hB)
  obtain ⟨z, hz⟩ : ∃ z, z + (K + 1) = 16 := ⟨15 - K, by omega⟩
  have hs : (((strB (lows (K + 1) n)).size : Nat) : Int) = (K : Int) + 1 := by rw [HL.out]; rfl
  have HS : Hid (zeros z ++ strB (lows (K + 1) n) = strB (lows 16 n)) := Lib.hid (by
    have := HP.out
    rw [show K + 1 + (15 - K) = 16 by omega, show 15 - K = z by omega] at this
    rw [this, strB_append]
    congr 1)
  generalize strB (lows (K + 1) n) = sv at *
  have hz2 : (16 : Int) - ((K : Int) + 1) = (z : Int) := by omega
  have HZ : Hid (z ≤ 15) := Lib.hid (by omega)
  have hz3 : (16 : Int) - (sv.size : Int) = (z : Int) := by rw [hs]; exact hz2
  have hcat : ¬ 9223372036854775807 < (zeros z).size + sv.size := by
    have h1 : (zeros z).size = z := by show (Array.replicate z (48 : UInt8)).size = z; simp
    have := HL.out
    omega
  clear hz hs hz2 hK hn0
  go_wp2_with (go_at_call 29; refine (rep_zeros z HZ.out _).mono ?_; rintro e w' ⟨rfl, rfl⟩)
  go_ret
  exact ⟨by rw [← HS.out]; first | rfl | (congr 2), HB.out⟩
end Go.Proofs.YtehkgcmdndehaaaDoor
