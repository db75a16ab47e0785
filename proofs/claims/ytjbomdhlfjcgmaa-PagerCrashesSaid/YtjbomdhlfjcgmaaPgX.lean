/-
  package pager, plain: what Open finds.
-/
import Derived.Test.YtjbomdhlfjcgmaaPgW
namespace Go.Proofs.Ytjbomdhlfjcgmaa
set_option linter.unusedSimpArgs false
set_option linter.unusedVariables false

theorem SlotLow.keep {b : List UInt8} {m : Nat} (h : SlotLow b m) (acc : Nat × List UInt8) (ha : m ≤ acc.1) : slotStep acc b = acc :=
  slotStep_old (fun e => by
    rcases h.2 with h2 | h2
    · exact h2 e.1
    · have := e.2; omega)
theorem SlotLow.low {b : List UInt8} {m : Nat} (h : SlotLow b m) (acc : Nat × List UInt8) (ha : acc.1 < m) : (slotStep acc b).1 < m := by
  unfold slotStep
  split
  · rename_i e
    rcases h.2 with h2 | h2
    · exact absurd e.1 h2
    · exact h2
  · exact ha
theorem slotStep_newest (acc : Nat × List UInt8) (s : Nat) (r : List UInt8) (hs : s < 1000000000000000000) (hr : r.length ≤ 64) (ha : acc.1 < s) : slotStep acc (slotB s r) = (s, r) := by
  have e := slotB_seq s r hs
  rw [slotStep_new (slotB_word s r) (by rw [e]; exact ha) (slotB_len s r hr), e]
  have h : (UInt8.ofNat r.length).toNat = r.length := by rw [UInt8.toNat_ofNat', Nat.mod_eq_of_lt (by omega)]
  rw [h, slotB_root]
/-- What load finds in the slots. -/
theorem slots_of_ok {D : DiskS} {C : Comm} (h : DiskOk D C) : slotSt D 2 = (C.seq, C.root) := by
  rw [slotSt_succ, slotSt_succ, slotSt_zero]
  rcases Nat.eq_zero_or_pos C.seq with h0 | h0
  · have o0 := h.other 0 (by omega) (fun e => by omega)
    have o1 := h.other 1 (by omega) (fun e => by omega)
    rw [h0] at o0 o1
    rw [o0.keep _ (Nat.zero_le _), o1.keep _ (Nat.zero_le _), h0, (h.zero h0).1]
  · have hsl := h.slot h0
    rcases Nat.mod_two_eq_zero_or_one C.seq with hp | hp
    · rw [hp] at hsl
      rw [hsl, slotStep_newest _ _ _ h.seq h.root h0]
      exact (h.other 1 (by omega) (fun _ => by omega)).keep _ (Nat.le_refl _)
    · rw [hp] at hsl
      rw [hsl]
      exact slotStep_newest _ _ _ h.seq h.root ((h.other 0 (by omega) (fun _ => by omega)).low _ h0)
theorem bitOf_map (p : Nat → Bool) (i m : Nat) (hm : m < 4096) : bitOf (mapB p i) m = p (i * 4096 + m) := by
  obtain ⟨x, hx, hb⟩ := bitsB_read (fun k => p (i * 4096 + k)) m hm
  unfold bitOf
  rw [mapB_eq, List.getD_eq_getElem?_getD, hx]
  show (x.toNat / 2 ^ (m % 8) % 2 == 1) = _
  rw [hb]
  cases p (i * 4096 + m) <;> rfl
theorem tk_of_ok {D : DiskS} {C : Comm} (h : DiskOk D C) (n : Nat) : loadTk D C.seq n = C.has n := by
  rcases Nat.eq_zero_or_pos C.seq with h0 | h0
  · rw [h0, loadTk_zero]
    unfold Comm.has
    rw [(h.zero h0).2]
    rfl
  · by_cases hn : n < D.blocks
    · unfold loadTk
      have hm : n / 4096 < mapsN D.blocks := by unfold mapsN; omega
      rw [h.maps h0 _ hm, bitOf_map _ _ _ (by omega), show n / 4096 * 4096 + n % 4096 = n by omega]
      simp [h0, hn]
    · rw [loadTk_out (by omega)]
      cases hc : C.has n with
      | false => rfl
      | true => have := (h.first hc).2; omega
theorem ok_seqs {D : DiskS} {C : Comm} (h : DiskOk D C) (s : Nat) (hs : s < 2) : slotSeq (D.block s) < 9223372036854775808 := by
  rcases Nat.eq_zero_or_pos C.seq with h0 | h0
  · exact (h.other s hs (fun e => by omega)).1
  · by_cases e : s = C.seq % 2
    · rw [e, h.slot h0, slotB_seq _ _ h.seq]
      exact Nat.lt_trans h.seq (by decide)
    · exact (h.other s hs (fun _ => e)).1
/-- What Open makes. -/
theorem load_inv {D : DiskS} {C : Comm} (h : DiskOk D C) : PgInv D (loadS D) C := by
  have hs := slots_of_ok h
  have h1 : (loadS D).seq = C.seq := congrArg Prod.fst hs
  have h2 : (loadS D).root = C.root := congrArg Prod.snd hs
  have h3 : ∀ n, (loadS D).taken n = C.has n := fun n => by
    show loadTk D (slotSt D 2).1 n = _
    rw [hs]
    exact tk_of_ok h n
  have hfe : firstN D.blocks = 2 + 2 * mapsN D.blocks := rfl
  have hmm := maps_le h.wf.hi
  have hlo := h.lo
  refine ⟨h, ⟨hlo, h.wf.hi, fun n hn => ?_, fun n zs hn => (by cases hn), fun n hn => (by cases hn), rfl, ?_, by rw [h2]; exact h.root, by rw [h1]; exact h.seq⟩, rfl, h1, h2, h3⟩
  · rw [h3] at hn
    exact h.first hn
  · show firstN D.blocks ≤ firstN D.blocks ∧ firstN D.blocks < D.blocks
    omega

theorem DiskWf.new {n : Nat} (h1 : 1 ≤ n) (h2 : n ≤ 16384) : DiskWf (DiskS.new n) := ⟨h1, h2, fun k b hb => (by cases hb), by show (-1 : Int) ≤ -1; omega, by show (-1 : Int) < _; omega⟩
theorem zeros_low (m : Nat) : SlotLow (zerosB 512) m := by
  have e : slotSeq (zerosB 512) = 0 := by decide
  have e2 : (zerosB 512).take 8 ≠ wordB := by decide
  exact ⟨by rw [e]; decide, .inl e2⟩
theorem DiskOk.new {n : Nat} (h1 : 64 ≤ n) (h2 : n ≤ 16384) : DiskOk (DiskS.new n) Comm.new :=
  ⟨DiskWf.new (by omega) h2, h1, by decide, by decide, fun k b hb => (by cases hb), fun _ => ⟨rfl, fun _ => rfl⟩, fun h => absurd h (by decide), fun h => absurd h (by decide), fun s _ _ => zeros_low _⟩
theorem DiskWf.cut {D : DiskS} (h : DiskWf D) (n : Int) (hn : n < 9223372036854775808) : DiskWf (D.cut n) := ⟨h.lo, h.hi, h.len, by show -1 ≤ max n (-1); omega, by show max n (-1) < _; omega⟩
theorem DiskWf.start {D : DiskS} (h : DiskWf D) : DiskWf D.start := ⟨h.lo, h.hi, h.len, by show (-1 : Int) ≤ -1; omega, by show (-1 : Int) < _; omega⟩
theorem DiskOk.cut {D : DiskS} {C : Comm} (h : DiskOk D C) (n : Int) (hn : n < 9223372036854775808) : DiskOk (D.cut n) C := h.same (h.wf.cut n hn) rfl (fun _ _ => rfl)
theorem DiskOk.start {D : DiskS} {C : Comm} (h : DiskOk D C) : DiskOk D.start C := h.same h.wf.start rfl (fun _ _ => rfl)
end Go.Proofs.Ytjbomdhlfjcgmaa
