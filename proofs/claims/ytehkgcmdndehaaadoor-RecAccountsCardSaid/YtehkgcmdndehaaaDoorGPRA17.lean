/- Part of the proof: merged texts. -/
import Derived.Test.YtehkgcmdndehaaaDoorGPRA16
import Derived.Deep.QuietTactic
import Derived.BigQuiet
import Derived.Deep.DeepCutAuto
import Derived.Deep.CutBlock
import Derived.Deep.DeepMust
namespace Go.Proofs.YtehkgcmdndehaaaDoor
set_option linter.unusedSimpArgs false
set_option linter.unusedVariables false
open Go.RowKit

/-- The reference's reader at block xb: it reads the bytes zs, and has r before it. -/
structure RefAt (w : World) (xb : Nat) (bv : Value) (zs : List UInt8) (r : Rd) : Prop where
  lt : xb < w.heap.size
  len : zs.length ≤ 1000000
  c0 : w.cell? ⟨xb, 0, none⟩ = some bv
  c1 : ∃ n : Nat, n ≤ zs.length ∧ w.cell? ⟨xb, 1, none⟩ = some (.int .i64 n) ∧ (r.cut = false → r.bs = zs.drop n)
  c2 : w.cell? ⟨xb, 2, none⟩ = some (.int .i64 (if r.cut then 8 else 0))
  frz : ∀ o, w.frozen? ⟨xb, o, none⟩ = false
  reads : Reads w bv zs
  apart : bv.ownBlock ≠ some xb

/-- What a reading call leaves: the reader's block, and draws. -/
structure RefS (w w' : World) (xb : Nat) : Prop where
  os : w'.os = w.os
  tape : w'.tape = w.tape
  output : w'.output = w.output
  size : w'.heap.size = w.heap.size
  block : ∀ k, k ≠ xb → w'.heap[k]? = w.heap[k]?

theorem RefS.refl (w : World) (xb : Nat) : RefS w w xb := ⟨rfl, rfl, rfl, rfl, fun _ _ => rfl⟩
theorem RefS.trans {a b c : World} {xb : Nat} (h : RefS a b xb) (k : RefS b c xb) : RefS a c xb :=
  ⟨k.os.trans h.os, k.tape.trans h.tape, k.output.trans h.output, k.size.trans h.size, fun j hj => (k.block j hj).trans (h.block j hj)⟩
theorem RefS.cell {w w' : World} {xb : Nat} (h : RefS w w' xb) {a : Addr} (hr : a.block ≠ xb) : w'.cell? a = w.cell? a := World.cell?_of_block (h.block _ hr)
theorem RefS.frozen {w w' : World} {xb : Nat} (h : RefS w w' xb) {a : Addr} (hr : a.block ≠ xb) : w'.frozen? a = w.frozen? a := World.frozen?_of_block (h.block _ hr)
theorem RefS.set (w : World) (xb o : Nat) (x : Value) : RefS w (w.setCell ⟨xb, o, none⟩ x) xb :=
  ⟨rfl, rfl, rfl, by simp [World.setCell], fun k hk => Below.heap_setCell _ _ _ _ hk⟩
theorem RefS.drewN (w : World) (xb n : Nat) : RefS w (w.drewN n) xb := ⟨rfl, rfl, rfl, rfl, fun _ _ => rfl⟩

theorem RefAt.drewN {w : World} {xb : Nat} {bv : Value} {zs : List UInt8} {r : Rd} (h : RefAt w xb bv zs r) (n : Nat) : RefAt (w.drewN n) xb bv zs r :=
  ⟨h.lt, h.len, h.c0, h.c1, h.c2, h.frz, h.reads, h.apart⟩

/-- What a reading call answers. -/
def RefPost (w : World) (xb : Nat) (bv : Value) (zs : List UInt8) (val : Value) (r' : Rd) (e : Ending) (w' : World) : Prop :=
  e = .returned val ∧ RefAt w' xb bv zs r' ∧ RefS w w' xb

set_option maxHeartbeats 1600000 in
set_option maxRecDepth 100000 in
theorem ref_u8_cut (xb : Nat) (bv : Value) (zs : List UInt8) (r : Rd) (w : World) (h : RefAt w xb bv zs r) (hc : r.cut = true) :
    Calls Tryd.prog 64 #[.pointer (some ⟨xb, 0, none⟩)] w (RefPost w xb bv zs (.int .i64 r.one.1) r.one.2) := by
  have e1 : r.one = (0, ⟨r.bs, true⟩) := by unfold Rd.one Rd.take; rw [if_pos (.inl hc)]; rfl
  have c2 := h.c2
  rw [hc] at c2
  have er : (⟨r.bs, true⟩ : Rd) = r := by cases r; cases hc; rfl
  rw [e1, er]
  have H := Lib.hid h
  clear h hc e1 er
  simp only [if_true] at c2
  go_enter Tryd.func64, Tryd.ntmps64
  go_wp2_with fail
  go_quiet (fail)
  go_wp2
  go_ret
  exact ⟨rfl, H.out.drewN _, RefS.drewN _ _ _⟩

theorem RefAt.set2 {w : World} {xb : Nat} {bv : Value} {zs : List UInt8} {r : Rd} (h : RefAt w xb bv zs r) : RefAt (w.setCell ⟨xb, 2, none⟩ (.int .i64 8)) xb bv zs ⟨r.bs, true⟩ := by
  obtain ⟨n, hn, hc1, _⟩ := h.c1
  refine ⟨by simpa [World.setCell] using h.lt, h.len, (cell_set_ne (fun e => by cases e)).trans h.c0, ⟨n, hn, (cell_set_ne (fun e => by cases e)).trans hc1, fun e => by cases e⟩, cell_set_same h.c2, fun o => by simpa using h.frz o, h.reads.set h.apart, h.apart⟩
theorem RefAt.set1 {w : World} {xb : Nat} {bv : Value} {zs : List UInt8} {r : Rd} (h : RefAt w xb bv zs r) (hc : r.cut = false) (m : Nat) (hm : m ≤ zs.length) : RefAt (w.setCell ⟨xb, 1, none⟩ (.int .i64 m)) xb bv zs ⟨zs.drop m, false⟩ := by
  obtain ⟨n, hn, hc1, _⟩ := h.c1
  have c2 := h.c2
  rw [hc] at c2
  exact ⟨by simpa [World.setCell] using h.lt, h.len, (cell_set_ne (fun e => by cases e)).trans h.c0, ⟨m, hm, cell_set_same hc1, fun _ => rfl⟩, (cell_set_ne (fun e => by cases e)).trans c2, fun o => by simpa using h.frz o, h.reads.set h.apart, h.apart⟩

set_option maxHeartbeats 1600000 in
set_option maxRecDepth 100000 in
theorem ref_u8_end (xb : Nat) (bv : Value) (zs : List UInt8) (r : Rd) (w : World) (h : RefAt w xb bv zs r) (hc : r.cut = false) (hb : r.bs = []) :
    Calls Tryd.prog 64 #[.pointer (some ⟨xb, 0, none⟩)] w (RefPost w xb bv zs (.int .i64 r.one.1) r.one.2) := by
  have e1 : r.one = (0, ⟨r.bs, true⟩) := by unfold Rd.one Rd.take; rw [if_pos (.inr (by rw [hb]; decide))]; rfl
  obtain ⟨n, hn, c1, hd⟩ := h.c1
  have c2 := h.c2
  rw [hc] at c2
  have hnl : n = zs.length := by
    have := hd hc
    rw [hb] at this
    have := List.drop_eq_nil_iff.1 this.symm
    omega
  subst hnl
  rw [e1]
  have H2 := Lib.hid (h.set2)
  obtain ⟨a0, k0, hv⟩ := h.reads.len
  have c0 := h.c0
  have f2 := h.frz 2
  have H := Lib.hid h
  subst hv
  clear h hc e1 hd hn hb
  simp only [Bool.false_eq_true, if_false] at c2
  go_enter Tryd.func64, Tryd.ntmps64
  go_wp2_with fail
  go_quiet (fail)
  go_wp2
  go_ret
  exact ⟨rfl, H2.out.drewN _, (RefS.set _ _ _ _).trans (RefS.drewN _ _ _)⟩

set_option maxHeartbeats 1600000 in
set_option maxRecDepth 100000 in
theorem ref_u8_ok (xb : Nat) (bv : Value) (zs : List UInt8) (r : Rd) (w : World) (h : RefAt w xb bv zs r) (hc : r.cut = false) (hb : 1 ≤ r.bs.length) :
    Calls Tryd.prog 64 #[.pointer (some ⟨xb, 0, none⟩)] w (RefPost w xb bv zs (.int .i64 r.one.1) r.one.2) := by
  obtain ⟨n, hn, c1, hd⟩ := h.c1
  have c2 := h.c2
  rw [hc] at c2
  have hd := hd hc
  have hnl : n < zs.length := by rw [hd, List.length_drop] at hb; omega
  obtain ⟨x, hx⟩ : ∃ x, zs[n]? = some x := ⟨_, List.getElem?_eq_getElem hnl⟩
  have e1 : r.one = ((x.toNat : Int), ⟨zs.drop (n + 1), false⟩) := by
    unfold Rd.one Rd.take
    rw [if_neg (by rw [hc]; simp only [Bool.false_eq_true, false_or]; omega), hd]
    simp only [List.drop_drop, List.getD_eq_getElem?_getD, List.getElem?_take, List.getElem?_drop]
    simp [hx]
  rw [e1]
  have H1 := Lib.hid (fun k => (h.drewN k).set1 hc (n + 1) (by omega))
  have c0 := h.c0
  have f1 := h.frz 1
  have hl := h.len
  rcases h.reads with ⟨_, he⟩ | ⟨b, off, cap, rfl, hlc, hbb, hxs⟩
  · rw [he] at hnl; simp at hnl
  have hcx := hxs n x hx
  have hbx : b ≠ xb := fun e => h.apart (by rw [e]; rfl)
  have hlt := x.toNat_lt
  have hwx : IntKind.i64.wrap (x.toNat : Int) = (x.toNat : Int) := IntWalk.i64_in _ (by omega)
  have g1 : (n : Int) < (zs.length : Int) := by omega
  have g2 : ¬ (zs.length : Int) ≤ (n : Int) := by omega
  clear h hc e1 hd hb hx hxs
  simp only [Bool.false_eq_true, if_false] at c2
  go_enter Tryd.func64, Tryd.ntmps64
  go_wp2_with fail
  go_quiet (fail)
  go_wp2
  go_quiet (fail)
  go_wp2
  go_ret
  exact ⟨rfl, (H1.out _).drewN _, ((RefS.drewN w xb _).trans (RefS.set _ _ _ _)).trans (RefS.drewN _ _ _)⟩

theorem ref_u8 (xb : Nat) (bv : Value) (zs : List UInt8) (r : Rd) (w : World) (h : RefAt w xb bv zs r) :
    Calls Tryd.prog 64 #[.pointer (some ⟨xb, 0, none⟩)] w (RefPost w xb bv zs (.int .i64 r.one.1) r.one.2) := by
  cases hc : r.cut with
  | true => exact ref_u8_cut xb bv zs r w h hc
  | false =>
    by_cases hb : 1 ≤ r.bs.length
    · exact ref_u8_ok xb bv zs r w h hc hb
    · exact ref_u8_end xb bv zs r w h hc (List.eq_nil_of_length_eq_zero (by omega))
end Go.Proofs.YtehkgcmdndehaaaDoor

namespace Go.Proofs.YtehkgcmdndehaaaDoor
set_option linter.unusedSimpArgs false
set_option linter.unusedVariables false
open Go.RowKit

def Rd.acc : Nat → Rd → Nat × Rd
  | 0, r => (0, r)
  | j + 1, r => ((Rd.acc j r).1 * 256 + (Rd.acc j r).2.one.1.toNat, (Rd.acc j r).2.one.2)

theorem one_nat (r : Rd) : r.one.1 = ((r.one.1.toNat : Nat) : Int) ∧ r.one.1.toNat ≤ 255 := by
  unfold Rd.one
  have := ((r.take 1).1.getD 0 0).toNat_lt
  constructor
  · simp only [Int.toNat_natCast]
  · simp only [Int.toNat_natCast]; omega
theorem acc_lt (r : Rd) : ∀ j, (Rd.acc j r).1 < 256 ^ j
  | 0 => by simp [Rd.acc]
  | j + 1 => by
    have h := acc_lt r j
    have h2 := (one_nat (Rd.acc j r).2).2
    rw [Rd.acc, Nat.pow_succ]
    simp only []
    omega
theorem one_cut (r : Rd) (h : r.cut = true) : r.one.2.cut = true := by unfold Rd.one Rd.take; rw [if_pos (.inl h)]
theorem acc_ok (r : Rd) (hc : r.cut = false) : ∀ j, j ≤ r.bs.length → Rd.acc j r = (decNat (r.bs.take j), ⟨r.bs.drop j, false⟩)
  | 0, _ => by cases r; cases hc; simp [Rd.acc, decNat]
  | j + 1, h => by
    obtain ⟨x, hx⟩ : ∃ x, r.bs[j]? = some x := ⟨_, List.getElem?_eq_getElem (by omega)⟩
    rw [Rd.acc, acc_ok r hc j (by omega), decNat_step _ _ _ hx]
    unfold Rd.one Rd.take
    rw [if_neg (by simp; omega)]
    simp [List.drop_drop, hx]
theorem acc_cut (r : Rd) : ∀ j, r.cut = true ∨ r.bs.length < j → (Rd.acc j r).2.cut = true
  | 0, h => by rcases h with h | h
               · exact h
               · omega
  | j + 1, h => by
    rw [Rd.acc]
    by_cases h2 : r.cut = true ∨ r.bs.length < j
    · exact one_cut _ (acc_cut r j h2)
    · simp only [not_or, Bool.not_eq_true] at h2
      have hj : r.bs.length = j := by
        rcases h with h | h
        · rw [h2.1] at h; cases h
        · omega
      rw [acc_ok r h2.1 j (by omega)]
      unfold Rd.one Rd.take
      rw [if_pos (.inr (by simp; omega))]
/-- The number of eight bytes, read one by one. -/
theorem acc_int (r : Rd) : (r.int.2.cut = (Rd.acc 8 r).2.cut) ∧ (r.int.2.cut = false → r.int.2 = (Rd.acc 8 r).2) ∧ r.int.1 = (if (Rd.acc 8 r).2.cut then 0 else IntKind.i64.wrap ((Rd.acc 8 r).1 : Int)) := by
  by_cases h : r.cut = true ∨ r.bs.length < 8
  · have h1 := acc_cut r 8 h
    have h2 : r.int = (0, ⟨r.bs, true⟩) := by unfold Rd.int Rd.take; rw [if_pos h, decInt, decInt_zero]; rw [show IntKind.i64.wrap ((0 : Nat) : Int) = 0 from IntWalk.i64_in _ (by omega)]
    rw [h1, h2]
    exact ⟨rfl, fun e => (by cases e), rfl⟩
  · have h' := h
    simp only [not_or, Bool.not_eq_true] at h'
    have h1 := acc_ok r h'.1 8 (by omega)
    have h2 : r.int = (decInt (r.bs.take 8), ⟨r.bs.drop 8, false⟩) := by unfold Rd.int Rd.take; rw [if_neg h]
    rw [h1, h2]
    exact ⟨rfl, fun _ => rfl, rfl⟩

theorem RefAt.of_cut {w : World} {xb : Nat} {bv : Value} {zs : List UInt8} {r r' : Rd} (h : RefAt w xb bv zs r) (h1 : r'.cut = r.cut) (h2 : r'.cut = false → r' = r) : RefAt w xb bv zs r' := by
  cases hc : r'.cut with
  | false => rw [h2 hc]; exact h
  | true =>
    obtain ⟨n, hn, hc1, _⟩ := h.c1
    exact ⟨h.lt, h.len, h.c0, ⟨n, hn, hc1, fun e => by rw [hc] at e; cases e⟩, by rw [h1]; exact h.c2, h.frz, h.reads, h.apart⟩

set_option maxHeartbeats 1600000 in
set_option maxRecDepth 100000 in
theorem ref_rint (xb : Nat) (bv : Value) (zs : List UInt8) (r : Rd) (w : World) (h : RefAt w xb bv zs r) :
    Calls Tryd.prog 63 #[.pointer (some ⟨xb, 0, none⟩)] w (RefPost w xb bv zs (.int .i64 r.int.1) r.int.2) := by
  have H := Lib.hid h
  clear h
  go_enter Tryd.func63, Tryd.ntmps63
  go_wp2
  go_loopg [3, 4] 8 (fun g s3 s4 wr => ∃ j : Nat, j + g = 8 ∧ s4 = .int .i64 j ∧ s3 = .int .u64 (Rd.acc j r).1 ∧ RefAt wr xb bv zs (Rd.acc j r).2 ∧ RefS w wr xb)
  case atStart => exact ⟨0, by omega, rfl, rfl, H.out, RefS.refl _ _⟩
  case round =>
    obtain ⟨j, hjg, rfl, rfl, hat, hs⟩ := hrel
    cases gk with
    | zero =>
      have hj : ¬ ((j : Int) < 8) := by omega
      obtain rfl : j = 8 := by omega
      have A := acc_int r
      have c2 := hat.c2
      have HA := Lib.hid (And.intro A (And.intro hat hs))
      clear A hat hs
      generalize Rd.acc 8 r = a8 at *
      obtain ⟨a, r8⟩ := a8
      simp only [] at *
      cases hc : r8.cut with
      | true =>
        have F : Hid (RefPost w xb bv zs (.int .i64 r.int.1) r.int.2 (.returned (.int .i64 0)) wr) := Lib.hid (by
          have e : r.int.1 = 0 := by rw [HA.out.1.2.2]; simp [hc]
          rw [e]
          exact ⟨rfl, HA.out.2.1.of_cut HA.out.1.1 HA.out.1.2.1, HA.out.2.2⟩)
        rw [hc] at c2
        simp only [if_true] at c2
        clear hc
        go_wp2
        go_ret
        exact F.out
      | false =>
        have F : Hid (RefPost w xb bv zs (.int .i64 r.int.1) r.int.2 (.returned (.int .i64 (IntKind.i64.wrap (a : Int)))) wr) := Lib.hid (by
          have e : r.int.1 = IntKind.i64.wrap (a : Int) := by rw [HA.out.1.2.2]; simp [hc]
          rw [e]
          exact ⟨rfl, HA.out.2.1.of_cut HA.out.1.1 HA.out.1.2.1, HA.out.2.2⟩)
        rw [hc] at c2
        simp only [Bool.false_eq_true, if_false] at c2
        clear hc
        go_wp2
        go_ret
        have := F.out
        rw [IntWalk.i64_left] at this
        exact this
    | succ g =>
      have hj : (j : Int) < 8 := by omega
      have hj' : j < 8 := by omega
      have hon := one_nat (Rd.acc j r).2
      have hlt := acc_lt r j
      have hlt2 : (Rd.acc j r).1 < 72057594037927936 := Nat.lt_of_lt_of_le hlt (Nat.le_trans (Nat.pow_le_pow_right (by omega) (show j ≤ 7 by omega)) (by decide))
      have HO := Lib.hid (or_byte (Rd.acc j r).1 (Rd.acc j r).2.one.1.toNat hlt2 (by omega))
      have HN := Lib.hid hon.1
      have HS := Lib.hid (And.intro hat hs)
      clear hat hs hon hlt hlt2
      go_wp2_with (go_at_call 64; refine (ref_u8 xb bv zs (Rd.acc j r).2 wr HS.out.1).mono ?_; rintro e w2 ⟨rfl, hat2, hs2⟩; have H2 := Lib.hid (And.intro hat2 hs2); clear hat2 hs2)
      go_roundg g
      case measure => omega
      case rel =>
        refine ⟨j + 1, by omega, by first | rfl | go_num, ?_, H2.out.1, HS.out.2.trans H2.out.2⟩
        rw [HN.out, HO.out]
        rfl
end Go.Proofs.YtehkgcmdndehaaaDoor

namespace Go.Proofs.YtehkgcmdndehaaaDoor
set_option linter.unusedSimpArgs false
set_option linter.unusedVariables false
open Go.RowKit

theorem str_cut (r : Rd) (h : r.one.2.cut = true ∨ r.one.2.bs.length < r.one.1.toNat) : r.str = ([], ⟨r.one.2.bs, true⟩) := by
  unfold Rd.str
  have e : r.one.2.take r.one.1.toNat = (List.replicate r.one.1.toNat 0, ⟨r.one.2.bs, true⟩) := by rw [Rd.take, if_pos h]
  simp only [e, if_true]
theorem str_ok (r : Rd) (h : r.one.2.cut = false) (h2 : ¬ r.one.2.bs.length < r.one.1.toNat) : r.str = (r.one.2.bs.take r.one.1.toNat, ⟨r.one.2.bs.drop r.one.1.toNat, false⟩) := by
  unfold Rd.str
  have e : r.one.2.take r.one.1.toNat = (r.one.2.bs.take r.one.1.toNat, ⟨r.one.2.bs.drop r.one.1.toNat, false⟩) := by rw [Rd.take, if_neg (by rw [h]; simp only [Bool.false_eq_true, false_or]; exact h2)]
  simp [e]

theorem one_uncut (r : Rd) (h : r.one.2.cut = false) : r.cut = false ∧ 1 ≤ r.bs.length := by
  by_cases hc : r.cut = true ∨ r.bs.length < 1
  · unfold Rd.one Rd.take at h
    rw [if_pos hc] at h
    cases h
  · simp only [not_or, Bool.not_eq_true] at hc
    exact ⟨hc.1, by omega⟩

set_option maxHeartbeats 1600000 in
set_option maxRecDepth 100000 in
theorem ref_text_cut (xb : Nat) (bv : Value) (zs : List UInt8) (r : Rd) (w : World) (h : RefAt w xb bv zs r) (hc : r.one.2.cut = true) :
    Calls Tryd.prog 62 #[.pointer (some ⟨xb, 0, none⟩)] w (RefPost w xb bv zs (.string (strB r.str.1)) r.str.2) := by
  have e := str_cut r (.inl hc)
  have er : (⟨r.one.2.bs, true⟩ : Rd) = r.one.2 := by
    generalize r.one.2 = q at *
    cases q; cases hc; rfl
  rw [e, er]
  have H := Lib.hid (And.intro h hc)
  clear h hc e er
  go_enter Tryd.func62, Tryd.ntmps62
  go_upto_region 2 with (go_at_call 64; refine (ref_u8 xb bv zs r w H.out.1).mono ?_; rintro e w2 ⟨rfl, hat2, hs2⟩)
  have c2 := hat2.c2
  rw [H.out.2] at c2
  simp only [if_true] at c2
  have H2 := Lib.hid (And.intro hat2 hs2)
  clear hat2 hs2
  go_quiet (fail)
  go_wp2
  go_ret
  exact ⟨rfl, H2.out.1.drewN _, H2.out.2.trans (RefS.drewN _ _ _)⟩

set_option maxHeartbeats 1600000 in
set_option maxRecDepth 100000 in
theorem ref_text_few (xb : Nat) (bv : Value) (zs : List UInt8) (r : Rd) (w : World) (h : RefAt w xb bv zs r) (hc : r.one.2.cut = false) (hf : r.one.2.bs.length < r.one.1.toNat) :
    Calls Tryd.prog 62 #[.pointer (some ⟨xb, 0, none⟩)] w (RefPost w xb bv zs (.string (strB r.str.1)) r.str.2) := by
  have e := str_cut r (.inr hf)
  rw [e]
  have H := Lib.hid (And.intro h (And.intro hc hf))
  have hon := (one_nat r).1
  have hon2 := (one_nat r).2
  clear h hc e hf
  generalize hq : r.one = q at *
  obtain ⟨m', q⟩ := q
  simp only [] at *
  rw [hon] at hq
  generalize m'.toNat = m at *
  clear hon
  go_enter Tryd.func62, Tryd.ntmps62
  go_upto_region 2 with (go_at_call 64; refine (ref_u8 xb bv zs r w H.out.1).mono ?_; rw [hq]; rintro e w2 ⟨rfl, hat2, hs2⟩)
  have c2 := hat2.c2
  simp only [H.out.2.1, Bool.false_eq_true, if_false] at c2
  obtain ⟨n, hn, c1, hd⟩ := hat2.c1
  have hd := hd H.out.2.1
  obtain ⟨a0, k0, hv⟩ := hat2.reads.len
  have c0 := hat2.c0
  have f2 := hat2.frz 2
  have hl := hat2.len
  have g1 : (zs.length : Int) - (n : Int) < (m : Int) := by
    have h1 := H.out.2.2
    rw [hd, List.length_drop] at h1
    omega
  have H2 := Lib.hid (And.intro hat2.set2 hs2)
  subst hv
  clear hat2 hs2 hd hq
  go_quiet (fail)
  go_wp2
  go_ret
  exact ⟨rfl, H2.out.1.drewN _, (H2.out.2.trans (RefS.set _ _ _ _)).trans (RefS.drewN _ _ _)⟩

set_option maxHeartbeats 1600000 in
set_option maxRecDepth 100000 in
theorem ref_text_ok (xb : Nat) (bv : Value) (zs : List UInt8) (r : Rd) (w : World) (h : RefAt w xb bv zs r) (hc : r.one.2.cut = false) (hf : ¬ r.one.2.bs.length < r.one.1.toNat) :
    Calls Tryd.prog 62 #[.pointer (some ⟨xb, 0, none⟩)] w (RefPost w xb bv zs (.string (strB r.str.1)) r.str.2) := by
  have e := str_ok r hc hf
  rw [e]
  have hz1 : 1 ≤ zs.length := by
    obtain ⟨n0, hn0, _, hd0⟩ := h.c1
    have h1 := one_uncut r hc
    have h2 := h1.2
    rw [hd0 h1.1, List.length_drop] at h2
    omega
  have H := Lib.hid (And.intro h (And.intro hc hf))
  have hon := (one_nat r).1
  have hon2 := (one_nat r).2
  clear h hc e hf
  generalize hq : r.one = q at *
  obtain ⟨m', q⟩ := q
  simp only [] at *
  rw [hon] at hq
  generalize m'.toNat = m at *
  clear hon
  go_enter Tryd.func62, Tryd.ntmps62
  go_upto_region 2 with (go_at_call 64; refine (ref_u8 xb bv zs r w H.out.1).mono ?_; rw [hq]; rintro e w2 ⟨rfl, hat2, hs2⟩)
  have c2 := hat2.c2
  simp only [H.out.2.1, Bool.false_eq_true, if_false] at c2
  obtain ⟨n, hn, c1, hd⟩ := hat2.c1
  have hd := hd H.out.2.1
  have c0 := hat2.c0
  have f1 := hat2.frz 1
  have hl := hat2.len
  have hfit : m ≤ zs.length - n := by
    have h1 := H.out.2.2
    rw [hd, List.length_drop] at h1
    omega
  have g1 : ¬ (zs.length : Int) - (n : Int) < (m : Int) := by omega
  have hL1 := Lib.hid (fun k => (hat2.drewN k).set1 H.out.2.1 (n + m) (by omega))
  have HS2 := Lib.hid hs2
  rcases hat2.reads with ⟨_, he⟩ | ⟨b, off, cap, rfl, hlc, hbb, hxs⟩
  · rw [he] at hz1; simp at hz1
  have hbx : b ≠ xb := fun e => hat2.apart (by rw [e]; rfl)
  have hncap : n ≤ cap := by omega
  have hQ : q.bs.length = zs.length - n := by rw [hd, List.length_drop]
  have hlm : (q.bs.take m).length = m := by rw [List.length_take]; omega
  have hdm : q.bs.drop m = zs.drop (n + m) := by rw [hd, List.drop_drop]
  have HDM := Lib.hid hdm
  have g2 : ¬ (cap : Int) < (n : Int) := by omega
  by_cases hcn : cap = n
  · have hm0 : m = 0 := by omega
    have HM0 := Lib.hid hm0
    have hq0 : q.bs.take m = [] := by rw [hm0]; rfl
    have hr : Reads w2 (.slice (some ⟨b, off, none⟩) 0 0) (q.bs.take m) := by rw [hq0]; exact .inr ⟨b, off, 0, rfl, Nat.le_refl _, hbb, fun i x hi => by simp at hi⟩
    have hconv : ∀ k, (convert 29 9 (.slice (some ⟨b, off, none⟩) 0 0)).run Tryd.prog (w2.drewN k) = .ok (.string (strB (q.bs.take m))) (w2.drewN k) := fun k => run_string_of 29 9 5 Tryd.underlying29 Tryd.underlying5 Tryd.underlying9 (show Reads (w2.drewN k) _ _ from hr)
    clear hr hxs hat2 hs2 hd hq hQ hlm hdm hq0
    go_quiet (fail)
    go_wp2
    go_quiet (fail)
    go_wp2
    go_ret
    rw [HDM.out]
    have hl1 := hL1.out
    simp only [HM0.out, Nat.add_zero] at hl1 ⊢
    exact ⟨rfl, hl1 _, (HS2.out.trans (RefS.drewN _ _ _)).trans (RefS.set _ _ _ _)⟩
  · have hr : Reads w2 (.slice (some ⟨b, off + n, none⟩) m (cap - n)) (q.bs.take m) := by
      refine .inr ⟨b, off + n, cap - n, by rw [hlm], by rw [hlm]; omega, hbb, fun i x hi => ?_⟩
      rw [List.getElem?_take] at hi
      split at hi
      · rw [hd, List.getElem?_drop] at hi
        rw [Nat.add_assoc]
        exact hxs _ x hi
      · cases hi
    have hconv : ∀ k, (convert 29 9 (.slice (some ⟨b, off + n, none⟩) m (cap - n))).run Tryd.prog (w2.drewN k) = .ok (.string (strB (q.bs.take m))) (w2.drewN k) := fun k => run_string_of 29 9 5 Tryd.underlying29 Tryd.underlying5 Tryd.underlying9 (show Reads (w2.drewN k) _ _ from hr)
    clear hr hxs hat2 hs2 hd hq hQ hlm hdm
    go_quiet (fail)
    go_wp2
    go_quiet (fail)
    go_wp2
    go_ret
    rw [HDM.out]
    exact ⟨rfl, hL1.out _, (HS2.out.trans (RefS.drewN _ _ _)).trans (RefS.set _ _ _ _)⟩

theorem ref_text (xb : Nat) (bv : Value) (zs : List UInt8) (r : Rd) (w : World) (h : RefAt w xb bv zs r) :
    Calls Tryd.prog 62 #[.pointer (some ⟨xb, 0, none⟩)] w (RefPost w xb bv zs (.string (strB r.str.1)) r.str.2) := by
  cases hc : r.one.2.cut with
  | true => exact ref_text_cut xb bv zs r w h hc
  | false =>
    by_cases hf : r.one.2.bs.length < r.one.1.toNat
    · exact ref_text_few xb bv zs r w h hc hf
    · exact ref_text_ok xb bv zs r w h hc hf
end Go.Proofs.YtehkgcmdndehaaaDoor

namespace Go.Proofs.YtehkgcmdndehaaaDoor
set_option linter.unusedSimpArgs false
set_option linter.unusedVariables false
open Go.RowKit

/-- A value is answered; the world has drawn. -/
def DrewPost (w : World) (val : Value) (e : Ending) (w' : World) : Prop := e = .returned val ∧ ∃ k, w' = w.drewN k

set_option maxHeartbeats 1600000 in
set_option maxRecDepth 100000 in
theorem ref_end (xb n L : Nat) (a0 : Option Addr) (k0 : Nat) (er : Int) (w : World) (hl : L ≤ 1000000) (hn : n ≤ L) (c0 : w.cell? ⟨xb, 0, none⟩ = some (.slice a0 L k0)) (c1 : w.cell? ⟨xb, 1, none⟩ = some (.int .i64 n)) (c2 : w.cell? ⟨xb, 2, none⟩ = some (.int .i64 er)) :
    Calls Tryd.prog 36 #[.pointer (some ⟨xb, 0, none⟩)] w (DrewPost w (.int .i64 (if er = 0 ∧ n < L then 9 else er))) := by
  by_cases h1 : er = 0
  · subst h1
    by_cases h2 : n < L
    · have g : (n : Int) < (L : Int) := by omega
      rw [if_pos ⟨rfl, h2⟩]
      go_enter Tryd.func36, Tryd.ntmps36
      go_wp2_with fail
      go_quiet (fail)
      go_wp2
      go_ret
      exact ⟨rfl, _, rfl⟩
    · have g : ¬ (n : Int) < (L : Int) := by omega
      rw [if_neg (fun h => h2 h.2)]
      go_enter Tryd.func36, Tryd.ntmps36
      go_wp2_with fail
      go_quiet (fail)
      go_wp2
      go_ret
      exact ⟨rfl, _, rfl⟩
  · have gb : (er == 0) = false := by simp [h1]
    rw [if_neg (fun h => h1 h.1)]
    go_enter Tryd.func36, Tryd.ntmps36
    go_wp2_with fail
    go_quiet (fail)
    go_wp2
    go_ret
    exact ⟨rfl, _, rfl⟩
end Go.Proofs.YtehkgcmdndehaaaDoor

