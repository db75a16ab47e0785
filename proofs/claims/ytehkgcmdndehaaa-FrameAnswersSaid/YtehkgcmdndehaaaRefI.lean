import Derived.Test.YtehkgcmdndehaaaRefR
namespace Go.Proofs.Ytehkgcmdndehaaa
set_option linter.unusedSimpArgs false
set_option linter.unusedVariables false
open Go.RowKit

def Rd.acc : Nat → Rd → Nat × Rd
  | 0, r => (0, r)
  | j + 1, r => ((Rd.acc j r).1 * 256 + (Rd.acc j r).2.one.1.toNat, (Rd.acc j r).2.one.2)

theorem one_nat (r : Rd) : r.one.1 = ((r.one.1.toNat : Nat) : Int) ∧ r.one.1.toNat ≤ 255 := by
  unfold Rd.one
  have := ((r.take 1).1.getD 0 0).toNat_lt
  constructor
  · simp only [Int.toNat_natCast]
  · simp only [Int.toNat_natCast]; omega
theorem acc_lt (r : Rd) : ∀ j, (Rd.acc j r).1 < 256 ^ j
  | 0 => by simp [Rd.acc]
  | j + 1 => by
    have h := acc_lt r j
    have h2 := (one_nat (Rd.acc j r).2).2
    rw [Rd.acc, Nat.pow_succ]
    simp only []
    omega
theorem one_cut (r : Rd) (h : r.cut = true) : r.one.2.cut = true := by unfold Rd.one Rd.take; rw [if_pos (.inl h)]
theorem acc_ok (r : Rd) (hc : r.cut = false) : ∀ j, j ≤ r.bs.length → Rd.acc j r = (decNat (r.bs.take j), ⟨r.bs.drop j, false⟩)
  | 0, _ => by cases r; cases hc; simp [Rd.acc, decNat]
  | j + 1, h => by
    obtain ⟨x, hx⟩ : ∃ x, r.bs[j]? = some x := ⟨_, List.getElem?_eq_getElem (by omega)⟩
    rw [Rd.acc, acc_ok r hc j (by omega), decNat_step _ _ _ hx]
    unfold Rd.one Rd.take
    rw [if_neg (by simp; omega)]
    simp [List.drop_drop, hx]
theorem acc_cut (r : Rd) : ∀ j, r.cut = true ∨ r.bs.length < j → (Rd.acc j r).2.cut = true
  | 0, h => by rcases h with h | h
               · exact h
               · omega
  | j + 1, h => by
    rw [Rd.acc]
    by_cases h2 : r.cut = true ∨ r.bs.length < j
    · exact one_cut _ (acc_cut r j h2)
    · simp only [not_or, Bool.not_eq_true] at h2
      have hj : r.bs.length = j := by
        rcases h with h | h
        · rw [h2.1] at h; cases h
        · omega
      rw [acc_ok r h2.1 j (by omega)]
      unfold Rd.one Rd.take
      rw [if_pos (.inr (by simp; omega))]
/-- The number of eight bytes, read one by one. -/
theorem acc_int (r : Rd) : (r.int.2.cut = (Rd.acc 8 r).2.cut) ∧ (r.int.2.cut = false → r.int.2 = (Rd.acc 8 r).2) ∧ r.int.1 = (if (Rd.acc 8 r).2.cut then 0 else IntKind.i64.wrap ((Rd.acc 8 r).1 : Int)) := by
  by_cases h : r.cut = true ∨ r.bs.length < 8
  · have h1 := acc_cut r 8 h
    have h2 : r.int = (0, ⟨r.bs, true⟩) := by unfold Rd.int Rd.take; rw [if_pos h, decInt, decInt_zero]; rw [show IntKind.i64.wrap ((0 : Nat) : Int) = 0 from IntWalk.i64_in _ (by omega)]
    rw [h1, h2]
    exact ⟨rfl, fun e => (by cases e), rfl⟩
  · have h' := h
    simp only [not_or, Bool.not_eq_true] at h'
    have h1 := acc_ok r h'.1 8 (by omega)
    have h2 : r.int = (decInt (r.bs.take 8), ⟨r.bs.drop 8, false⟩) := by unfold Rd.int Rd.take; rw [if_neg h]
    rw [h1, h2]
    exact ⟨rfl, fun _ => rfl, rfl⟩

theorem RefAt.of_cut {w : World} {xb : Nat} {bv : Value} {zs : List UInt8} {r r' : Rd} (h : RefAt w xb bv zs r) (h1 : r'.cut = r.cut) (h2 : r'.cut = false → r' = r) : RefAt w xb bv zs r' := by
  cases hc : r'.cut with
  | false => rw [h2 hc]; exact h
  | true =>
    obtain ⟨n, hn, hc1, _⟩ := h.c1
    exact ⟨h.lt, h.len, h.c0, ⟨n, hn, hc1, fun e => by rw [hc] at e; cases e⟩, by rw [h1]; exact h.c2, h.frz, h.reads, h.apart⟩

set_option maxHeartbeats 1600000 in
set_option maxRecDepth 100000 in
theorem ref_rint (xb : Nat) (bv : Value) (zs : List UInt8) (r : Rd) (w : World) (h : RefAt w xb bv zs r) :
    Calls Try.prog 60 #[.pointer (some ⟨xb, 0, none⟩)] w (RefPost w xb bv zs (.int .i64 r.int.1) r.int.2) := by
  have H := Lib.hid h
  clear h
  go_enter Try.func60, Try.ntmps60
  go_wp2
  go_loopg [3, 4] 8 (fun g s3 s4 wr => ∃ j : Nat, j + g = 8 ∧ s4 = .int .i64 j ∧ s3 = .int .u64 (Rd.acc j r).1 ∧ RefAt wr xb bv zs (Rd.acc j r).2 ∧ RefS w wr xb)
  case atStart => exact ⟨0, by omega, rfl, rfl, H.out, RefS.refl _ _⟩
  case round =>
    obtain ⟨j, hjg, rfl, rfl, hat, hs⟩ := hrel
    cases gk with
    | zero =>
      have hj : ¬ ((j : Int) < 8) := by omega
      obtain rfl : j = 8 := by omega
      have A := acc_int r
      have c2 := hat.c2
      have HA := Lib.hid (And.intro A (And.intro hat hs))
      clear A hat hs
      generalize Rd.acc 8 r = a8 at *
      obtain ⟨a, r8⟩ := a8
      simp only [] at *
      cases hc : r8.cut with
      | true =>
        have F : Hid (RefPost w xb bv zs (.int .i64 r.int.1) r.int.2 (.returned (.int .i64 0)) wr) := Lib.hid (by
          have e : r.int.1 = 0 := by rw [HA.out.1.2.2]; simp [hc]
          rw [e]
          exact ⟨rfl, HA.out.2.1.of_cut HA.out.1.1 HA.out.1.2.1, HA.out.2.2⟩)
        rw [hc] at c2
        simp only [if_true] at c2
        clear hc
        go_wp2
        go_ret
        exact F.out
      | false =>
        have F : Hid (RefPost w xb bv zs (.int .i64 r.int.1) r.int.2 (.returned (.int .i64 (IntKind.i64.wrap (a : Int)))) wr) := Lib.hid (by
          have e : r.int.1 = IntKind.i64.wrap (a : Int) := by rw [HA.out.1.2.2]; simp [hc]
          rw [e]
          exact ⟨rfl, HA.out.2.1.of_cut HA.out.1.1 HA.out.1.2.1, HA.out.2.2⟩)
        rw [hc] at c2
        simp only [Bool.false_eq_true, if_false] at c2
        clear hc
        go_wp2
        go_ret
        have := F.out
        rw [IntWalk.i64_left] at this
        exact this
    | succ g =>
      have hj : (j : Int) < 8 := by omega
      have hj' : j < 8 := by omega
      have hon := one_nat (Rd.acc j r).2
      have hlt := acc_lt r j
      have hlt2 : (Rd.acc j r).1 < 72057594037927936 := Nat.lt_of_lt_of_le hlt (Nat.le_trans (Nat.pow_le_pow_right (by omega) (show j ≤ 7 by omega)) (by decide))
      have HO := Lib.hid (or_byte (Rd.acc j r).1 (Rd.acc j r).2.one.1.toNat hlt2 (by omega))
      have HN := Lib.hid hon.1
      have HS := Lib.hid (And.intro hat hs)
      clear hat hs hon hlt hlt2
      go_wp2_with (go_at_call 58; refine (ref_u8 xb bv zs (Rd.acc j r).2 wr HS.out.1).mono ?_; rintro e w2 ⟨rfl, hat2, hs2⟩; have H2 := Lib.hid (And.intro hat2 hs2); clear hat2 hs2)
      go_roundg g
      case measure => omega
      case rel =>
        refine ⟨j + 1, by omega, by first | rfl | go_num, ?_, H2.out.1, HS.out.2.trans H2.out.2⟩
        rw [HN.out, HO.out]
        rfl
end Go.Proofs.Ytehkgcmdndehaaa
