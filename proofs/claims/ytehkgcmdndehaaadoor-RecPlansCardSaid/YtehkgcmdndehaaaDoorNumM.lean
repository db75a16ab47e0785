/-
  The document's Number: sixteen hex digits.
-/
import Derived.Test.YtehkgcmdndehaaaDoorNumN
import Derived.Laws.BitsLemmas
namespace Go.Proofs.YtehkgcmdndehaaaDoor
set_option linter.unusedSimpArgs false
set_option linter.unusedVariables false
open Go.RowKit

abbrev hexs : ByteArray := ⟨#[48, 49, 50, 51, 52, 53, 54, 55, 56, 57, 97, 98, 99, 100, 101, 102]⟩
theorem hex_at (d : Nat) (hd : d < 16) : hexs.extract d (d + 1) = strB [dig d] := by
  have h : ∀ d : Fin 16, (hexs.extract d.1 (d.1 + 1)).data.toList = [dig d.1] := by decide +kernel
  have := h ⟨d, hd⟩
  apply ByteArray.ext
  show _ = [dig d].toArray
  rw [← this]
theorem and15i (n : Int) : bits .and .i64 n 15 = n % 16 := by
  have h15 : (BitVec.ofInt 64 15).toNat = 2 ^ 4 - 1 := by decide
  have key : (BitVec.ofInt 64 n &&& BitVec.ofInt 64 15).toNat = (n % ((2 ^ 64 : Nat) : Int)).toNat % 2 ^ 4 := by
    rw [BitVec.toNat_and, BitVec.toNat_ofInt, h15, Nat.and_two_pow_sub_one_eq_mod]
  show IntKind.i64.wrap ((BitVec.ofInt 64 n &&& BitVec.ofInt 64 15).toNat : Nat) = n % 16
  rw [key, IntKind.wrap_i64]
  omega
theorem digI (n g : Nat) : bits .and .i64 ((n : Int) / 2 ^ (4 * g)) 15 = ((n / 16 ^ g % 16 : Nat) : Int) := by
  rw [and15i]
  have h : (2 : Nat) ^ (4 * g) = 16 ^ g := by rw [Nat.pow_mul]
  rw [← h]
  simp
theorem lows_get : ∀ m k n, k < m → (lows m n)[k]? = some (dig (n / 16 ^ (m - 1 - k) % 16))
  | 0, k, n, h => absurd h (by omega)
  | m + 1, 0, n, h => by simp [lows]
  | m + 1, k + 1, n, h => by
    have := lows_get m k n (by omega)
    rw [show m + 1 - 1 - (k + 1) = m - 1 - k by omega]
    simpa [lows] using this
set_option maxRecDepth 100000 in
theorem num_ref (n : Nat) (hn : n < 2 ^ 63) (w : World) :
    Calls Tryd.prog 9 #[.int .i64 n] w fun e w' => e = .returned (.string (strB (lows 16 n))) ∧ Below w.heap.size w w' := by
  have H := Lib.hid hn
  clear hn
  go_enter Tryd.func9, Tryd.ntmps9
  go_wp2
  go_loopg [4, 5, 6] 16 (fun g s4 s5 s6 wr => ∃ k : Nat, k + g = 16 ∧ s5 = .int .i64 ((g : Int) - 1) ∧ s4 = .string (strB ((lows 16 n).take k)) ∧ wr = w)
  case atStart => exact ⟨0, rfl, rfl, rfl, rfl⟩
  case round =>
    obtain ⟨k, hkg, rfl, rfl, rfl⟩ := hrel
    cases gk with
    | zero =>
      have hk : k = 16 := by omega
      subst hk
      go_wp2
      go_ret
      exact ⟨by rw [List.take_of_length_le (by rw [lows_length]; omega)]; rfl, Below.refl _ _⟩
    | succ g =>
      have hg : g < 16 := by omega
      obtain ⟨d, hd0⟩ : ∃ d, d = n / 16 ^ g % 16 := ⟨_, rfl⟩
      have hb : bits .and .i64 ((n : Int) / 2 ^ (4 * g)) 15 = (d : Int) := by rw [hd0]; exact digI n g
      have hd : d < 16 := by rw [hd0]; exact Nat.mod_lt _ (by omega)
      have hx : hexs.extract d (d + 1) = strB [dig d] := hex_at d hd
      have hsz : (strB ((lows 16 n).take k)).size ≤ 16 := by show ((lows 16 n).take k).toArray.size ≤ 16; simp [lows_length]; omega
      have hs1 : (strB [dig d]).size = 1 := rfl
      have HS : Hid (strB ((lows 16 n).take k) ++ strB [dig d] = strB ((lows 16 n).take (k + 1))) := Lib.hid (by rw [← strB_append, List.take_add_one, lows_get 16 k n (by omega), show 16 - 1 - k = g by omega, ← hd0]; rfl)
      clear hd0
      generalize strB ((lows 16 n).take k) = sv at *
      go_upto_region 7 with (fail)
      go_wp2
      go_roundg g
      case measure => omega
      case rel => exact ⟨k + 1, by omega, by first | rfl | go_num, by rw [HS.out], rfl⟩
end Go.Proofs.YtehkgcmdndehaaaDoor
