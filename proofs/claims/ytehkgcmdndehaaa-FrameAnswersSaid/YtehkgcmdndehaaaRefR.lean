import Derived.Test.YtehkgcmdndehaaaRdB
import Derived.Deep.QuietTactic
import Derived.BigQuiet
namespace Go.Proofs.Ytehkgcmdndehaaa
set_option linter.unusedSimpArgs false
set_option linter.unusedVariables false
open Go.RowKit

/-- The reference's reader at block xb: it reads the bytes zs, and has r before it. -/
structure RefAt (w : World) (xb : Nat) (bv : Value) (zs : List UInt8) (r : Rd) : Prop where
  lt : xb < w.heap.size
  len : zs.length ≤ 1000000
  c0 : w.cell? ⟨xb, 0, none⟩ = some bv
  c1 : ∃ n : Nat, n ≤ zs.length ∧ w.cell? ⟨xb, 1, none⟩ = some (.int .i64 n) ∧ (r.cut = false → r.bs = zs.drop n)
  c2 : w.cell? ⟨xb, 2, none⟩ = some (.int .i64 (if r.cut then 8 else 0))
  frz : ∀ o, w.frozen? ⟨xb, o, none⟩ = false
  reads : Reads w bv zs
  apart : bv.ownBlock ≠ some xb

/-- What a reading call leaves: the reader's block, and draws. -/
structure RefS (w w' : World) (xb : Nat) : Prop where
  os : w'.os = w.os
  tape : w'.tape = w.tape
  output : w'.output = w.output
  size : w'.heap.size = w.heap.size
  block : ∀ k, k ≠ xb → w'.heap[k]? = w.heap[k]?

theorem RefS.refl (w : World) (xb : Nat) : RefS w w xb := ⟨rfl, rfl, rfl, rfl, fun _ _ => rfl⟩
theorem RefS.trans {a b c : World} {xb : Nat} (h : RefS a b xb) (k : RefS b c xb) : RefS a c xb :=
  ⟨k.os.trans h.os, k.tape.trans h.tape, k.output.trans h.output, k.size.trans h.size, fun j hj => (k.block j hj).trans (h.block j hj)⟩
theorem RefS.cell {w w' : World} {xb : Nat} (h : RefS w w' xb) {a : Addr} (hr : a.block ≠ xb) : w'.cell? a = w.cell? a := World.cell?_of_block (h.block _ hr)
theorem RefS.frozen {w w' : World} {xb : Nat} (h : RefS w w' xb) {a : Addr} (hr : a.block ≠ xb) : w'.frozen? a = w.frozen? a := World.frozen?_of_block (h.block _ hr)
theorem RefS.set (w : World) (xb o : Nat) (x : Value) : RefS w (w.setCell ⟨xb, o, none⟩ x) xb :=
  ⟨rfl, rfl, rfl, by simp [World.setCell], fun k hk => Below.heap_setCell _ _ _ _ hk⟩
theorem RefS.drewN (w : World) (xb n : Nat) : RefS w (w.drewN n) xb := ⟨rfl, rfl, rfl, rfl, fun _ _ => rfl⟩

theorem RefAt.drewN {w : World} {xb : Nat} {bv : Value} {zs : List UInt8} {r : Rd} (h : RefAt w xb bv zs r) (n : Nat) : RefAt (w.drewN n) xb bv zs r :=
  ⟨h.lt, h.len, h.c0, h.c1, h.c2, h.frz, h.reads, h.apart⟩

/-- What a reading call answers. -/
def RefPost (w : World) (xb : Nat) (bv : Value) (zs : List UInt8) (val : Value) (r' : Rd) (e : Ending) (w' : World) : Prop :=
  e = .returned val ∧ RefAt w' xb bv zs r' ∧ RefS w w' xb

set_option maxHeartbeats 1600000 in
set_option maxRecDepth 100000 in
theorem ref_u8_cut (xb : Nat) (bv : Value) (zs : List UInt8) (r : Rd) (w : World) (h : RefAt w xb bv zs r) (hc : r.cut = true) :
    Calls Try.prog 58 #[.pointer (some ⟨xb, 0, none⟩)] w (RefPost w xb bv zs (.int .i64 r.one.1) r.one.2) := by
  have e1 : r.one = (0, ⟨r.bs, true⟩) := by unfold Rd.one Rd.take; rw [if_pos (.inl hc)]; rfl
  have c2 := h.c2
  rw [hc] at c2
  have er : (⟨r.bs, true⟩ : Rd) = r := by cases r; cases hc; rfl
  rw [e1, er]
  have H := Lib.hid h
  clear h hc e1 er
  simp only [if_true] at c2
  go_enter Try.func58, Try.ntmps58
  go_wp2_with fail
  go_quiet (fail)
  go_wp2
  go_ret
  exact ⟨rfl, H.out.drewN _, RefS.drewN _ _ _⟩

theorem RefAt.set2 {w : World} {xb : Nat} {bv : Value} {zs : List UInt8} {r : Rd} (h : RefAt w xb bv zs r) : RefAt (w.setCell ⟨xb, 2, none⟩ (.int .i64 8)) xb bv zs ⟨r.bs, true⟩ := by
  obtain ⟨n, hn, hc1, _⟩ := h.c1
  refine ⟨by simpa [World.setCell] using h.lt, h.len, (cell_set_ne (fun e => by cases e)).trans h.c0, ⟨n, hn, (cell_set_ne (fun e => by cases e)).trans hc1, fun e => by cases e⟩, cell_set_same h.c2, fun o => by simpa using h.frz o, h.reads.set h.apart, h.apart⟩
theorem RefAt.set1 {w : World} {xb : Nat} {bv : Value} {zs : List UInt8} {r : Rd} (h : RefAt w xb bv zs r) (hc : r.cut = false) (m : Nat) (hm : m ≤ zs.length) : RefAt (w.setCell ⟨xb, 1, none⟩ (.int .i64 m)) xb bv zs ⟨zs.drop m, false⟩ := by
  obtain ⟨n, hn, hc1, _⟩ := h.c1
  have c2 := h.c2
  rw [hc] at c2
  exact ⟨by simpa [World.setCell] using h.lt, h.len, (cell_set_ne (fun e => by cases e)).trans h.c0, ⟨m, hm, cell_set_same hc1, fun _ => rfl⟩, (cell_set_ne (fun e => by cases e)).trans c2, fun o => by simpa using h.frz o, h.reads.set h.apart, h.apart⟩

set_option maxHeartbeats 1600000 in
set_option maxRecDepth 100000 in
theorem ref_u8_end (xb : Nat) (bv : Value) (zs : List UInt8) (r : Rd) (w : World) (h : RefAt w xb bv zs r) (hc : r.cut = false) (hb : r.bs = []) :
    Calls Try.prog 58 #[.pointer (some ⟨xb, 0, none⟩)] w (RefPost w xb bv zs (.int .i64 r.one.1) r.one.2) := by
  have e1 : r.one = (0, ⟨r.bs, true⟩) := by unfold Rd.one Rd.take; rw [if_pos (.inr (by rw [hb]; decide))]; rfl
  obtain ⟨n, hn, c1, hd⟩ := h.c1
  have c2 := h.c2
  rw [hc] at c2
  have hnl : n = zs.length := by
    have := hd hc
    rw [hb] at this
    have := List.drop_eq_nil_iff.1 this.symm
    omega
  subst hnl
  rw [e1]
  have H2 := Lib.hid (h.set2)
  obtain ⟨a0, k0, hv⟩ := h.reads.len
  have c0 := h.c0
  have f2 := h.frz 2
  have H := Lib.hid h
  subst hv
  clear h hc e1 hd hn hb
  simp only [Bool.false_eq_true, if_false] at c2
  go_enter Try.func58, Try.ntmps58
  go_wp2_with fail
  go_quiet (fail)
  go_wp2
  go_ret
  exact ⟨rfl, H2.out.drewN _, (RefS.set _ _ _ _).trans (RefS.drewN _ _ _)⟩

set_option maxHeartbeats 1600000 in
set_option maxRecDepth 100000 in
theorem ref_u8_ok (xb : Nat) (bv : Value) (zs : List UInt8) (r : Rd) (w : World) (h : RefAt w xb bv zs r) (hc : r.cut = false) (hb : 1 ≤ r.bs.length) :
    Calls Try.prog 58 #[.pointer (some ⟨xb, 0, none⟩)] w (RefPost w xb bv zs (.int .i64 r.one.1) r.one.2) := by
  obtain ⟨n, hn, c1, hd⟩ := h.c1
  have c2 := h.c2
  rw [hc] at c2
  have hd := hd hc
  have hnl : n < zs.length := by rw [hd, List.length_drop] at hb; omega
  obtain ⟨x, hx⟩ : ∃ x, zs[n]? = some x := ⟨_, List.getElem?_eq_getElem hnl⟩
  have e1 : r.one = ((x.toNat : Int), ⟨zs.drop (n + 1), false⟩) := by
    unfold Rd.one Rd.take
    rw [if_neg (by rw [hc]; simp only [Bool.false_eq_true, false_or]; omega), hd]
    simp only [List.drop_drop, List.getD_eq_getElem?_getD, List.getElem?_take, List.getElem?_drop]
    simp [hx]
  rw [e1]
  have H1 := Lib.hid (fun k => (h.drewN k).set1 hc (n + 1) (by omega))
  have c0 := h.c0
  have f1 := h.frz 1
  have hl := h.len
  rcases h.reads with ⟨_, he⟩ | ⟨b, off, cap, rfl, hlc, hbb, hxs⟩
  · rw [he] at hnl; simp at hnl
  have hcx := hxs n x hx
  have hbx : b ≠ xb := fun e => h.apart (by rw [e]; rfl)
  have hlt := x.toNat_lt
  have hwx : IntKind.i64.wrap (x.toNat : Int) = (x.toNat : Int) := IntWalk.i64_in _ (by omega)
  have g1 : (n : Int) < (zs.length : Int) := by omega
  have g2 : ¬ (zs.length : Int) ≤ (n : Int) := by omega
  clear h hc e1 hd hb hx hxs
  simp only [Bool.false_eq_true, if_false] at c2
  go_enter Try.func58, Try.ntmps58
  go_wp2_with fail
  go_quiet (fail)
  go_wp2
  go_quiet (fail)
  go_wp2
  go_ret
  exact ⟨rfl, (H1.out _).drewN _, ((RefS.drewN w xb _).trans (RefS.set _ _ _ _)).trans (RefS.drewN _ _ _)⟩

theorem ref_u8 (xb : Nat) (bv : Value) (zs : List UInt8) (r : Rd) (w : World) (h : RefAt w xb bv zs r) :
    Calls Try.prog 58 #[.pointer (some ⟨xb, 0, none⟩)] w (RefPost w xb bv zs (.int .i64 r.one.1) r.one.2) := by
  cases hc : r.cut with
  | true => exact ref_u8_cut xb bv zs r w h hc
  | false =>
    by_cases hb : 1 ≤ r.bs.length
    · exact ref_u8_ok xb bv zs r w h hc hb
    · exact ref_u8_end xb bv zs r w h hc (List.eq_nil_of_length_eq_zero (by omega))
end Go.Proofs.Ytehkgcmdndehaaa
