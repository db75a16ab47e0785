/-
  strings.Repeat of "0", up to 15 times; bits.TrailingZeros at 16.
-/
import Derived.Test.YtehkgcmdndehaaaDoorChecked
import Derived.WalkKit
namespace Go.Proofs.YtehkgcmdndehaaaDoor
set_option linter.unusedSimpArgs false
set_option linter.unusedVariables false
open Go.RowKit

/-- k zeros. -/
def zeros (k : Nat) : ByteArray := ⟨Array.replicate k 48⟩
set_option maxRecDepth 100000 in
theorem tz16 (w : World) (h : w.cell? ⟨3, 15, none⟩ = some (.int .u8 4)) : Calls Tryd.prog 85 #[.int .u64 16] w fun e w' => e = .returned (.int .i64 4) ∧ w = w' := by
  go_enter Tryd.func85, Tryd.ntmps85
  have e1 : IntKind.u64.wrap (-16) = 18446744073709551600 := by kernel_rfl
  have e2 : bits .and .u64 16 18446744073709551600 = 16 := by kernel_rfl
  have e3 : IntKind.u64.wrap (16 * 285870213051353865) / 288230376151711744 = 15 := by kernel_rfl
  go_wp2
  go_ret
  exact ⟨rfl, rfl⟩
set_option maxRecDepth 100000 in
theorem pow16 (w : World) : Calls Tryd.prog 84 #[.int .i64 16] w fun e w' => e = .returned (.bool true) ∧ w = w' := by
  go_enter Tryd.func84, Tryd.ntmps84
  go_wp2
  go_ret
  exact ⟨rfl, rfl⟩
set_option maxRecDepth 100000 in
theorem hpfx (s p : ByteArray) (w : World) (h0 : decide (p.size ≤ s.size) = true) (b : Bool) (hb : ((s.extract 0 p.size).toList == p.toList) = b) : Calls Tryd.prog 49 #[.string s, .string p] w fun e w' => e = .returned (.bool b) ∧ w = w' := by
  have h : (p.size : Int) ≤ (s.size : Int) := by simpa using h0
  clear h0
  go_enter Tryd.func49, Tryd.ntmps49
  go_wp2
  go_ret
  exact ⟨by rw [← hb]; rfl, rfl⟩
set_option maxHeartbeats 1600000 in
set_option maxRecDepth 100000 in
theorem rep_0 (w : World) : Calls Tryd.prog 29 #[.string ⟨#[48]⟩, .int .i64 0] w fun e w' => e = .returned (.string (zeros 0)) ∧ w = w' := by
  go_enter Tryd.func29, Tryd.ntmps29
  go_wp2
  go_ret
  exact ⟨by kernel_rfl, rfl⟩
set_option maxHeartbeats 1600000 in
set_option maxRecDepth 100000 in
theorem rep_1 (w : World) : Calls Tryd.prog 29 #[.string ⟨#[48]⟩, .int .i64 1] w fun e w' => e = .returned (.string (zeros 1)) ∧ w = w' := by
  go_enter Tryd.func29, Tryd.ntmps29
  go_wp2
  go_ret
  exact ⟨by kernel_rfl, rfl⟩
set_option maxRecDepth 100000 in
theorem mul_2 (w : World) : Calls Tryd.prog 48 #[.int .u64 1, .int .u64 2] w fun e w' => e = .returned (.tuple #[.int .u64 0, .int .u64 2]) ∧ w = w' := by
  go_enter Tryd.func48, Tryd.ntmps48
  have e1 : bits .and .u64 1 4294967295 = 1 := by kernel_rfl
  have e2 : bits .and .u64 2 4294967295 = 2 := by kernel_rfl
  have e3 : bits .and .u64 0 4294967295 = 0 := by kernel_rfl
  go_wp2
  go_ret2
  exact ⟨by kernel_rfl, rfl⟩
set_option maxHeartbeats 1600000 in
set_option maxRecDepth 100000 in
theorem rep_2 (w : World) : Calls Tryd.prog 29 #[.string ⟨#[48]⟩, .int .i64 2] w fun e w' => e = .returned (.string (zeros 2)) ∧ w = w' := by
  go_enter Tryd.func29, Tryd.ntmps29
  go_wp2_with (first
    | (go_at_call 48; refine (mul_2 _).mono ?_; rintro e w' ⟨rfl, rfl⟩)
    | (go_at_call 49; first | (refine (hpfx _ _ _ (by kernel_rfl) false (by decide +kernel)).mono ?_; rintro e w' ⟨rfl, rfl⟩) | (refine (hpfx _ _ _ (by kernel_rfl) true (by decide +kernel)).mono ?_; rintro e w' ⟨rfl, rfl⟩)))
  go_ret
  exact ⟨by kernel_rfl, rfl⟩
set_option maxRecDepth 100000 in
theorem mul_3 (w : World) : Calls Tryd.prog 48 #[.int .u64 1, .int .u64 3] w fun e w' => e = .returned (.tuple #[.int .u64 0, .int .u64 3]) ∧ w = w' := by
  go_enter Tryd.func48, Tryd.ntmps48
  have e1 : bits .and .u64 1 4294967295 = 1 := by kernel_rfl
  have e2 : bits .and .u64 3 4294967295 = 3 := by kernel_rfl
  have e3 : bits .and .u64 0 4294967295 = 0 := by kernel_rfl
  go_wp2
  go_ret2
  exact ⟨by kernel_rfl, rfl⟩
set_option maxHeartbeats 1600000 in
set_option maxRecDepth 100000 in
theorem rep_3 (w : World) : Calls Tryd.prog 29 #[.string ⟨#[48]⟩, .int .i64 3] w fun e w' => e = .returned (.string (zeros 3)) ∧ w = w' := by
  go_enter Tryd.func29, Tryd.ntmps29
  go_wp2_with (first
    | (go_at_call 48; refine (mul_3 _).mono ?_; rintro e w' ⟨rfl, rfl⟩)
    | (go_at_call 49; first | (refine (hpfx _ _ _ (by kernel_rfl) false (by decide +kernel)).mono ?_; rintro e w' ⟨rfl, rfl⟩) | (refine (hpfx _ _ _ (by kernel_rfl) true (by decide +kernel)).mono ?_; rintro e w' ⟨rfl, rfl⟩)))
  go_ret
  exact ⟨by kernel_rfl, rfl⟩
set_option maxRecDepth 100000 in
theorem mul_4 (w : World) : Calls Tryd.prog 48 #[.int .u64 1, .int .u64 4] w fun e w' => e = .returned (.tuple #[.int .u64 0, .int .u64 4]) ∧ w = w' := by
  go_enter Tryd.func48, Tryd.ntmps48
  have e1 : bits .and .u64 1 4294967295 = 1 := by kernel_rfl
  have e2 : bits .and .u64 4 4294967295 = 4 := by kernel_rfl
  have e3 : bits .and .u64 0 4294967295 = 0 := by kernel_rfl
  go_wp2
  go_ret2
  exact ⟨by kernel_rfl, rfl⟩
set_option maxHeartbeats 1600000 in
set_option maxRecDepth 100000 in
theorem rep_4 (w : World) : Calls Tryd.prog 29 #[.string ⟨#[48]⟩, .int .i64 4] w fun e w' => e = .returned (.string (zeros 4)) ∧ w = w' := by
  go_enter Tryd.func29, Tryd.ntmps29
  go_wp2_with (first
    | (go_at_call 48; refine (mul_4 _).mono ?_; rintro e w' ⟨rfl, rfl⟩)
    | (go_at_call 49; first | (refine (hpfx _ _ _ (by kernel_rfl) false (by decide +kernel)).mono ?_; rintro e w' ⟨rfl, rfl⟩) | (refine (hpfx _ _ _ (by kernel_rfl) true (by decide +kernel)).mono ?_; rintro e w' ⟨rfl, rfl⟩)))
  go_ret
  exact ⟨by kernel_rfl, rfl⟩
set_option maxRecDepth 100000 in
theorem mul_5 (w : World) : Calls Tryd.prog 48 #[.int .u64 1, .int .u64 5] w fun e w' => e = .returned (.tuple #[.int .u64 0, .int .u64 5]) ∧ w = w' := by
  go_enter Tryd.func48, Tryd.ntmps48
  have e1 : bits .and .u64 1 4294967295 = 1 := by kernel_rfl
  have e2 : bits .and .u64 5 4294967295 = 5 := by kernel_rfl
  have e3 : bits .and .u64 0 4294967295 = 0 := by kernel_rfl
  go_wp2
  go_ret2
  exact ⟨by kernel_rfl, rfl⟩
set_option maxHeartbeats 1600000 in
set_option maxRecDepth 100000 in
theorem rep_5 (w : World) : Calls Tryd.prog 29 #[.string ⟨#[48]⟩, .int .i64 5] w fun e w' => e = .returned (.string (zeros 5)) ∧ w = w' := by
  go_enter Tryd.func29, Tryd.ntmps29
  go_wp2_with (first
    | (go_at_call 48; refine (mul_5 _).mono ?_; rintro e w' ⟨rfl, rfl⟩)
    | (go_at_call 49; first | (refine (hpfx _ _ _ (by kernel_rfl) false (by decide +kernel)).mono ?_; rintro e w' ⟨rfl, rfl⟩) | (refine (hpfx _ _ _ (by kernel_rfl) true (by decide +kernel)).mono ?_; rintro e w' ⟨rfl, rfl⟩)))
  go_ret
  exact ⟨by kernel_rfl, rfl⟩
set_option maxRecDepth 100000 in
theorem mul_6 (w : World) : Calls Tryd.prog 48 #[.int .u64 1, .int .u64 6] w fun e w' => e = .returned (.tuple #[.int .u64 0, .int .u64 6]) ∧ w = w' := by
  go_enter Tryd.func48, Tryd.ntmps48
  have e1 : bits .and .u64 1 4294967295 = 1 := by kernel_rfl
  have e2 : bits .and .u64 6 4294967295 = 6 := by kernel_rfl
  have e3 : bits .and .u64 0 4294967295 = 0 := by kernel_rfl
  go_wp2
  go_ret2
  exact ⟨by kernel_rfl, rfl⟩
set_option maxHeartbeats 1600000 in
set_option maxRecDepth 100000 in
theorem rep_6 (w : World) : Calls Tryd.prog 29 #[.string ⟨#[48]⟩, .int .i64 6] w fun e w' => e = .returned (.string (zeros 6)) ∧ w = w' := by
  go_enter Tryd.func29, Tryd.ntmps29
  go_wp2_with (first
    | (go_at_call 48; refine (mul_6 _).mono ?_; rintro e w' ⟨rfl, rfl⟩)
    | (go_at_call 49; first | (refine (hpfx _ _ _ (by kernel_rfl) false (by decide +kernel)).mono ?_; rintro e w' ⟨rfl, rfl⟩) | (refine (hpfx _ _ _ (by kernel_rfl) true (by decide +kernel)).mono ?_; rintro e w' ⟨rfl, rfl⟩)))
  go_ret
  exact ⟨by kernel_rfl, rfl⟩
set_option maxRecDepth 100000 in
theorem mul_7 (w : World) : Calls Tryd.prog 48 #[.int .u64 1, .int .u64 7] w fun e w' => e = .returned (.tuple #[.int .u64 0, .int .u64 7]) ∧ w = w' := by
  go_enter Tryd.func48, Tryd.ntmps48
  have e1 : bits .and .u64 1 4294967295 = 1 := by kernel_rfl
  have e2 : bits .and .u64 7 4294967295 = 7 := by kernel_rfl
  have e3 : bits .and .u64 0 4294967295 = 0 := by kernel_rfl
  go_wp2
  go_ret2
  exact ⟨by kernel_rfl, rfl⟩
set_option maxHeartbeats 1600000 in
set_option maxRecDepth 100000 in
theorem rep_7 (w : World) : Calls Tryd.prog 29 #[.string ⟨#[48]⟩, .int .i64 7] w fun e w' => e = .returned (.string (zeros 7)) ∧ w = w' := by
  go_enter Tryd.func29, Tryd.ntmps29
  go_wp2_with (first
    | (go_at_call 48; refine (mul_7 _).mono ?_; rintro e w' ⟨rfl, rfl⟩)
    | (go_at_call 49; first | (refine (hpfx _ _ _ (by kernel_rfl) false (by decide +kernel)).mono ?_; rintro e w' ⟨rfl, rfl⟩) | (refine (hpfx _ _ _ (by kernel_rfl) true (by decide +kernel)).mono ?_; rintro e w' ⟨rfl, rfl⟩)))
  go_ret
  exact ⟨by kernel_rfl, rfl⟩
set_option maxRecDepth 100000 in
theorem mul_8 (w : World) : Calls Tryd.prog 48 #[.int .u64 1, .int .u64 8] w fun e w' => e = .returned (.tuple #[.int .u64 0, .int .u64 8]) ∧ w = w' := by
  go_enter Tryd.func48, Tryd.ntmps48
  have e1 : bits .and .u64 1 4294967295 = 1 := by kernel_rfl
  have e2 : bits .and .u64 8 4294967295 = 8 := by kernel_rfl
  have e3 : bits .and .u64 0 4294967295 = 0 := by kernel_rfl
  go_wp2
  go_ret2
  exact ⟨by kernel_rfl, rfl⟩
set_option maxHeartbeats 1600000 in
set_option maxRecDepth 100000 in
theorem rep_8 (w : World) : Calls Tryd.prog 29 #[.string ⟨#[48]⟩, .int .i64 8] w fun e w' => e = .returned (.string (zeros 8)) ∧ w = w' := by
  go_enter Tryd.func29, Tryd.ntmps29
  go_wp2_with (first
    | (go_at_call 48; refine (mul_8 _).mono ?_; rintro e w' ⟨rfl, rfl⟩)
    | (go_at_call 49; first | (refine (hpfx _ _ _ (by kernel_rfl) false (by decide +kernel)).mono ?_; rintro e w' ⟨rfl, rfl⟩) | (refine (hpfx _ _ _ (by kernel_rfl) true (by decide +kernel)).mono ?_; rintro e w' ⟨rfl, rfl⟩)))
  go_ret
  exact ⟨by kernel_rfl, rfl⟩
set_option maxRecDepth 100000 in
theorem mul_9 (w : World) : Calls Tryd.prog 48 #[.int .u64 1, .int .u64 9] w fun e w' => e = .returned (.tuple #[.int .u64 0, .int .u64 9]) ∧ w = w' := by
  go_enter Tryd.func48, Tryd.ntmps48
  have e1 : bits .and .u64 1 4294967295 = 1 := by kernel_rfl
  have e2 : bits .and .u64 9 4294967295 = 9 := by kernel_rfl
  have e3 : bits .and .u64 0 4294967295 = 0 := by kernel_rfl
  go_wp2
  go_ret2
  exact ⟨by kernel_rfl, rfl⟩
set_option maxHeartbeats 1600000 in
set_option maxRecDepth 100000 in
theorem rep_9 (w : World) : Calls Tryd.prog 29 #[.string ⟨#[48]⟩, .int .i64 9] w fun e w' => e = .returned (.string (zeros 9)) ∧ w = w' := by
  go_enter Tryd.func29, Tryd.ntmps29
  go_wp2_with (first
    | (go_at_call 48; refine (mul_9 _).mono ?_; rintro e w' ⟨rfl, rfl⟩)
    | (go_at_call 49; first | (refine (hpfx _ _ _ (by kernel_rfl) false (by decide +kernel)).mono ?_; rintro e w' ⟨rfl, rfl⟩) | (refine (hpfx _ _ _ (by kernel_rfl) true (by decide +kernel)).mono ?_; rintro e w' ⟨rfl, rfl⟩)))
  go_ret
  exact ⟨by kernel_rfl, rfl⟩
set_option maxRecDepth 100000 in
theorem mul_10 (w : World) : Calls Tryd.prog 48 #[.int .u64 1, .int .u64 10] w fun e w' => e = .returned (.tuple #[.int .u64 0, .int .u64 10]) ∧ w = w' := by
  go_enter Tryd.func48, Tryd.ntmps48
  have e1 : bits .and .u64 1 4294967295 = 1 := by kernel_rfl
  have e2 : bits .and .u64 10 4294967295 = 10 := by kernel_rfl
  have e3 : bits .and .u64 0 4294967295 = 0 := by kernel_rfl
  go_wp2
  go_ret2
  exact ⟨by kernel_rfl, rfl⟩
set_option maxHeartbeats 1600000 in
set_option maxRecDepth 100000 in
theorem rep_10 (w : World) : Calls Tryd.prog 29 #[.string ⟨#[48]⟩, .int .i64 10] w fun e w' => e = .returned (.string (zeros 10)) ∧ w = w' := by
  go_enter Tryd.func29, Tryd.ntmps29
  go_wp2_with (first
    | (go_at_call 48; refine (mul_10 _).mono ?_; rintro e w' ⟨rfl, rfl⟩)
    | (go_at_call 49; first | (refine (hpfx _ _ _ (by kernel_rfl) false (by decide +kernel)).mono ?_; rintro e w' ⟨rfl, rfl⟩) | (refine (hpfx _ _ _ (by kernel_rfl) true (by decide +kernel)).mono ?_; rintro e w' ⟨rfl, rfl⟩)))
  go_ret
  exact ⟨by kernel_rfl, rfl⟩
set_option maxRecDepth 100000 in
theorem mul_11 (w : World) : Calls Tryd.prog 48 #[.int .u64 1, .int .u64 11] w fun e w' => e = .returned (.tuple #[.int .u64 0, .int .u64 11]) ∧ w = w' := by
  go_enter Tryd.func48, Tryd.ntmps48
  have e1 : bits .and .u64 1 4294967295 = 1 := by kernel_rfl
  have e2 : bits .and .u64 11 4294967295 = 11 := by kernel_rfl
  have e3 : bits .and .u64 0 4294967295 = 0 := by kernel_rfl
  go_wp2
  go_ret2
  exact ⟨by kernel_rfl, rfl⟩
set_option maxHeartbeats 1600000 in
set_option maxRecDepth 100000 in
theorem rep_11 (w : World) : Calls Tryd.prog 29 #[.string ⟨#[48]⟩, .int .i64 11] w fun e w' => e = .returned (.string (zeros 11)) ∧ w = w' := by
  go_enter Tryd.func29, Tryd.ntmps29
  go_wp2_with (first
    | (go_at_call 48; refine (mul_11 _).mono ?_; rintro e w' ⟨rfl, rfl⟩)
    | (go_at_call 49; first | (refine (hpfx _ _ _ (by kernel_rfl) false (by decide +kernel)).mono ?_; rintro e w' ⟨rfl, rfl⟩) | (refine (hpfx _ _ _ (by kernel_rfl) true (by decide +kernel)).mono ?_; rintro e w' ⟨rfl, rfl⟩)))
  go_ret
  exact ⟨by kernel_rfl, rfl⟩
set_option maxRecDepth 100000 in
theorem mul_12 (w : World) : Calls Tryd.prog 48 #[.int .u64 1, .int .u64 12] w fun e w' => e = .returned (.tuple #[.int .u64 0, .int .u64 12]) ∧ w = w' := by
  go_enter Tryd.func48, Tryd.ntmps48
  have e1 : bits .and .u64 1 4294967295 = 1 := by kernel_rfl
  have e2 : bits .and .u64 12 4294967295 = 12 := by kernel_rfl
  have e3 : bits .and .u64 0 4294967295 = 0 := by kernel_rfl
  go_wp2
  go_ret2
  exact ⟨by kernel_rfl, rfl⟩
set_option maxHeartbeats 1600000 in
set_option maxRecDepth 100000 in
theorem rep_12 (w : World) : Calls Tryd.prog 29 #[.string ⟨#[48]⟩, .int .i64 12] w fun e w' => e = .returned (.string (zeros 12)) ∧ w = w' := by
  go_enter Tryd.func29, Tryd.ntmps29
  go_wp2_with (first
    | (go_at_call 48; refine (mul_12 _).mono ?_; rintro e w' ⟨rfl, rfl⟩)
    | (go_at_call 49; first | (refine (hpfx _ _ _ (by kernel_rfl) false (by decide +kernel)).mono ?_; rintro e w' ⟨rfl, rfl⟩) | (refine (hpfx _ _ _ (by kernel_rfl) true (by decide +kernel)).mono ?_; rintro e w' ⟨rfl, rfl⟩)))
  go_ret
  exact ⟨by kernel_rfl, rfl⟩
set_option maxRecDepth 100000 in
theorem mul_13 (w : World) : Calls Tryd.prog 48 #[.int .u64 1, .int .u64 13] w fun e w' => e = .returned (.tuple #[.int .u64 0, .int .u64 13]) ∧ w = w' := by
  go_enter Tryd.func48, Tryd.ntmps48
  have e1 : bits .and .u64 1 4294967295 = 1 := by kernel_rfl
  have e2 : bits .and .u64 13 4294967295 = 13 := by kernel_rfl
  have e3 : bits .and .u64 0 4294967295 = 0 := by kernel_rfl
  go_wp2
  go_ret2
  exact ⟨by kernel_rfl, rfl⟩
set_option maxHeartbeats 1600000 in
set_option maxRecDepth 100000 in
theorem rep_13 (w : World) : Calls Tryd.prog 29 #[.string ⟨#[48]⟩, .int .i64 13] w fun e w' => e = .returned (.string (zeros 13)) ∧ w = w' := by
  go_enter Tryd.func29, Tryd.ntmps29
  go_wp2_with (first
    | (go_at_call 48; refine (mul_13 _).mono ?_; rintro e w' ⟨rfl, rfl⟩)
    | (go_at_call 49; first | (refine (hpfx _ _ _ (by kernel_rfl) false (by decide +kernel)).mono ?_; rintro e w' ⟨rfl, rfl⟩) | (refine (hpfx _ _ _ (by kernel_rfl) true (by decide +kernel)).mono ?_; rintro e w' ⟨rfl, rfl⟩)))
  go_ret
  exact ⟨by kernel_rfl, rfl⟩
set_option maxRecDepth 100000 in
theorem mul_14 (w : World) : Calls Tryd.prog 48 #[.int .u64 1, .int .u64 14] w fun e w' => e = .returned (.tuple #[.int .u64 0, .int .u64 14]) ∧ w = w' := by
  go_enter Tryd.func48, Tryd.ntmps48
  have e1 : bits .and .u64 1 4294967295 = 1 := by kernel_rfl
  have e2 : bits .and .u64 14 4294967295 = 14 := by kernel_rfl
  have e3 : bits .and .u64 0 4294967295 = 0 := by kernel_rfl
  go_wp2
  go_ret2
  exact ⟨by kernel_rfl, rfl⟩
set_option maxHeartbeats 1600000 in
set_option maxRecDepth 100000 in
theorem rep_14 (w : World) : Calls Tryd.prog 29 #[.string ⟨#[48]⟩, .int .i64 14] w fun e w' => e = .returned (.string (zeros 14)) ∧ w = w' := by
  go_enter Tryd.func29, Tryd.ntmps29
  go_wp2_with (first
    | (go_at_call 48; refine (mul_14 _).mono ?_; rintro e w' ⟨rfl, rfl⟩)
    | (go_at_call 49; first | (refine (hpfx _ _ _ (by kernel_rfl) false (by decide +kernel)).mono ?_; rintro e w' ⟨rfl, rfl⟩) | (refine (hpfx _ _ _ (by kernel_rfl) true (by decide +kernel)).mono ?_; rintro e w' ⟨rfl, rfl⟩)))
  go_ret
  exact ⟨by kernel_rfl, rfl⟩
set_option maxRecDepth 100000 in
theorem mul_15 (w : World) : Calls Tryd.prog 48 #[.int .u64 1, .int .u64 15] w fun e w' => e = .returned (.tuple #[.int .u64 0, .int .u64 15]) ∧ w = w' := by
  go_enter Tryd.func48, Tryd.ntmps48
  have e1 : bits .and .u64 1 4294967295 = 1 := by kernel_rfl
  have e2 : bits .and .u64 15 4294967295 = 15 := by kernel_rfl
  have e3 : bits .and .u64 0 4294967295 = 0 := by kernel_rfl
  go_wp2
  go_ret2
  exact ⟨by kernel_rfl, rfl⟩
set_option maxHeartbeats 1600000 in
set_option maxRecDepth 100000 in
theorem rep_15 (w : World) : Calls Tryd.prog 29 #[.string ⟨#[48]⟩, .int .i64 15] w fun e w' => e = .returned (.string (zeros 15)) ∧ w = w' := by
  go_enter Tryd.func29, Tryd.ntmps29
  go_wp2_with (first
    | (go_at_call 48; refine (mul_15 _).mono ?_; rintro e w' ⟨rfl, rfl⟩)
    | (go_at_call 49; first | (refine (hpfx _ _ _ (by kernel_rfl) false (by decide +kernel)).mono ?_; rintro e w' ⟨rfl, rfl⟩) | (refine (hpfx _ _ _ (by kernel_rfl) true (by decide +kernel)).mono ?_; rintro e w' ⟨rfl, rfl⟩)))
  go_ret
  exact ⟨by kernel_rfl, rfl⟩
theorem rep_zeros (k : Nat) (hk : k ≤ 15) (w : World) : Calls Tryd.prog 29 #[.string ⟨#[48]⟩, .int .i64 k] w fun e w' => e = .returned (.string (zeros k)) ∧ w = w' := by
  match k, hk with
  | 0, _ => exact rep_0 w
  | 1, _ => exact rep_1 w
  | 2, _ => exact rep_2 w
  | 3, _ => exact rep_3 w
  | 4, _ => exact rep_4 w
  | 5, _ => exact rep_5 w
  | 6, _ => exact rep_6 w
  | 7, _ => exact rep_7 w
  | 8, _ => exact rep_8 w
  | 9, _ => exact rep_9 w
  | 10, _ => exact rep_10 w
  | 11, _ => exact rep_11 w
  | 12, _ => exact rep_12 w
  | 13, _ => exact rep_13 w
  | 14, _ => exact rep_14 w
  | 15, _ => exact rep_15 w
  | k + 16, h => exact absurd h (by omega)
end Go.Proofs.YtehkgcmdndehaaaDoor

