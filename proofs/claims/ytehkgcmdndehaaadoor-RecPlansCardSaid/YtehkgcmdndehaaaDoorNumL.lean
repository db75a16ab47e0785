/-
  Law RecNumbers, walked.
-/
import Derived.Test.YtehkgcmdndehaaaDoorNumO
import Derived.Lib.Strings
namespace Go.Proofs.YtehkgcmdndehaaaDoor
set_option linter.unusedSimpArgs false
set_option linter.unusedVariables false
open Go.RowKit

set_option maxRecDepth 100000 in
theorem known_ok (w : World) (ht : w.cell? ⟨3, 15, none⟩ = some (.int .u8 4)) :
    Calls Tryd.prog 7 #[] w fun e w' => e = .returned (.bool true) ∧ Below w.heap.size w w' := by
  have hk : strB (lows 16 255) = ⟨#[48, 48, 48, 48, 48, 48, 48, 48, 48, 48, 48, 48, 48, 48, 102, 102]⟩ := by decide +kernel
  have H := Lib.hid (num_rec 255 (by decide) w ht)
  rw [hk] at H
  clear hk ht
  go_enter Tryd.func7, Tryd.ntmps7
  go_wp2_with (go_at_call 8; refine H.out.mono ?_; rintro e w' ⟨rfl, hB⟩; have HB := Lib.hid hB; clear hB)
  go_ret
  exact ⟨by first | rfl | (congr 1), HB.out⟩
theorem strB_bytes (l : List UInt8) : (strB l).toList = l := by
  rw [Lib.toList_data]
  simp [strB]
def NumPost (w : World) (e : Ending) (w' : World) : Prop := e = .returned (.bool true) ∧ Below w.heap.size w w'
set_option maxRecDepth 100000 in
theorem rn_neg (a b : Int) (h : a < 0 ∨ b < 0) (w : World) (ht : w.cell? ⟨3, 15, none⟩ = some (.int .u8 4)) :
    Calls Tryd.prog 3 #[.int .i64 a, .int .i64 b] w (NumPost w) := by
  have H := Lib.hid (known_ok w ht)
  clear ht
  go_enter Tryd.func3, Tryd.ntmps3
  by_cases ha : a < 0
  · go_wp2_with (go_at_call 7; refine H.out.mono ?_; rintro e w' ⟨rfl, hB⟩; have HB := Lib.hid hB; clear hB)
    go_ret
    exact ⟨rfl, HB.out⟩
  · have hb : b < 0 := by omega
    go_wp2_with (go_at_call 7; refine H.out.mono ?_; rintro e w' ⟨rfl, hB⟩; have HB := Lib.hid hB; clear hB)
    go_ret
    exact ⟨rfl, HB.out⟩
set_option maxRecDepth 100000 in
theorem rn_main (n m : Nat) (hn : n < 2 ^ 63) (hm : m < 2 ^ 63) (w : World) (ht : w.cell? ⟨3, 15, none⟩ = some (.int .u8 4)) :
    Calls Tryd.prog 3 #[.int .i64 n, .int .i64 m] w (NumPost w) := by
  have H := Lib.hid (known_ok w ht)
  have HT : Hid (∀ w', Below w.heap.size w w' → w'.cell? ⟨3, 15, none⟩ = some (.int .u8 4)) := Lib.hid fun w' hB => (hB.cell (p := ⟨3, 15, none⟩) (World.block_lt_of_cell? w _ ht)).trans ht
  have HN := Lib.hid (And.intro hn hm)
  have a0 : decide ((n : Int) < 0) = false := by simp
  have b0 : decide ((m : Int) < 0) = false := by simp
  have k1 : Op.bytesLess (strB (lows 16 n)).toList (strB (lows 16 m)).toList = decide (n < m) := by
    rw [strB_bytes, strB_bytes, lows_less, Nat.mod_eq_of_lt (by omega), Nat.mod_eq_of_lt (by omega)]
  have k2 : ((strB (lows 16 n)).toList == (strB (lows 16 m)).toList) = ((n : Int) == (m : Int)) := by
    rw [strB_bytes, strB_bytes, Bool.eq_iff_iff, beq_iff_eq, beq_iff_eq, lows_inj, Nat.mod_eq_of_lt (by omega), Nat.mod_eq_of_lt (by omega)]
    omega
  clear ht hn hm
  go_enter Tryd.func3, Tryd.ntmps3
  go_upto_region 5 with (go_at_call 7; refine H.out.mono ?_; rintro e w1 ⟨rfl, hB⟩; have HB := Lib.hid hB; clear hB)
  go_wp2_with (first
    | (go_at_call 8; ((with_reducible refine (num_rec n HN.out.1 _ (HT.out _ HB.out)).mono ?_); rintro e w2 ⟨rfl, hB⟩; have HB2 := Lib.hid (HB.out.trans (hB.mono HB.out.size)); clear hB))
    | (go_at_call 8; ((with_reducible refine (num_rec m HN.out.2 _ (HT.out _ HB2.out)).mono ?_); rintro e w3 ⟨rfl, hB⟩; have HB3 := Lib.hid (HB2.out.trans (hB.mono HB2.out.size)); clear hB))
    | (go_at_call 9; refine (num_ref n HN.out.1 _).mono ?_; rintro e w4 ⟨rfl, hB⟩; have HB4 := Lib.hid (HB3.out.trans (hB.mono HB3.out.size)); clear hB))
  go_ret
  exact ⟨by first | rfl | simp, HB4.out⟩
end Go.Proofs.YtehkgcmdndehaaaDoor
