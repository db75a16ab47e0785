/- Part of the proof: merged texts. -/
import Derived.Test.YtehkgcmdndehaaaDoorGPRA17
import Derived.Test.YtehkgcmdndehaaaDoorGPRA09
import Derived.Test.YtehkgcmdndehaaaDoorGPRA10
import Derived.Test.YtehkgcmdndehaaaDoorGPRA03
namespace Go.Proofs.YtehkgcmdndehaaaDoor
set_option linter.unusedSimpArgs false
set_option linter.unusedVariables false
open Go.RowKit

/-- What a reading call leaves that makes blocks. -/
structure RefG (w w' : World) (xb : Nat) : Prop where
  os : w'.os = w.os
  tape : w'.tape = w.tape
  output : w'.output = w.output
  size : w.heap.size ≤ w'.heap.size
  block : ∀ k, k < w.heap.size → k ≠ xb → w'.heap[k]? = w.heap[k]?
theorem RefG.refl (w : World) (xb : Nat) : RefG w w xb := ⟨rfl, rfl, rfl, Nat.le_refl _, fun _ _ _ => rfl⟩
theorem RefG.trans {a b c : World} {xb : Nat} (h : RefG a b xb) (k : RefG b c xb) : RefG a c xb :=
  ⟨k.os.trans h.os, k.tape.trans h.tape, k.output.trans h.output, Nat.le_trans h.size k.size, fun j hj hx => (k.block j (Nat.lt_of_lt_of_le hj h.size) hx).trans (h.block j hj hx)⟩
theorem RefS.grow {w w' : World} {xb : Nat} (h : RefS w w' xb) : RefG w w' xb := ⟨h.os, h.tape, h.output, by rw [h.size]; exact Nat.le_refl _, fun k _ hx => h.block k hx⟩
theorem RefG.of_below {w w' : World} {xb : Nat} (h : Below w.heap.size w w') : RefG w w' xb := ⟨h.os, h.tape, h.output, h.size, fun k hk _ => h.block k hk⟩
theorem RefG.cell {w w' : World} {xb : Nat} (h : RefG w w' xb) {a : Addr} (hk : a.block < w.heap.size) (hr : a.block ≠ xb) : w'.cell? a = w.cell? a := World.cell?_of_block (h.block _ hk hr)
theorem RefG.frozen {w w' : World} {xb : Nat} (h : RefG w w' xb) {a : Addr} (hk : a.block < w.heap.size) (hr : a.block ≠ xb) : w'.frozen? a = w.frozen? a := World.frozen?_of_block (h.block _ hk hr)

theorem RefAt.of_below {w w' : World} {xb : Nat} {bv : Value} {zs : List UInt8} {r : Rd} (h : RefAt w xb bv zs r) (hB : Below w.heap.size w w') : RefAt w' xb bv zs r := by
  obtain ⟨n, hn, c1, hd⟩ := h.c1
  exact ⟨Nat.lt_of_lt_of_le h.lt hB.size, h.len, (hB.cell (p := ⟨xb, 0, none⟩) h.lt).trans h.c0, ⟨n, hn, (hB.cell (p := ⟨xb, 1, none⟩) h.lt).trans c1, hd⟩, (hB.cell (p := ⟨xb, 2, none⟩) h.lt).trans h.c2, fun o => (hB.frozen (p := ⟨xb, o, none⟩) h.lt).trans (h.frz o), h.reads.below hB, h.apart⟩
theorem RefAt.set {w : World} {xb : Nat} {bv x : Value} {zs : List UInt8} {r : Rd} {a : Addr} (h : RefAt w xb bv zs r) (h1 : a.block ≠ xb) (h2 : bv.ownBlock ≠ some a.block) : RefAt (w.setCell a x) xb bv zs r := by
  obtain ⟨n, hn, c1, hd⟩ := h.c1
  have ne : ∀ o, a ≠ ⟨xb, o, none⟩ := fun o e => h1 (by rw [e])
  exact ⟨by simpa [World.setCell] using h.lt, h.len, (cell_set_ne (ne 0)).trans h.c0, ⟨n, hn, (cell_set_ne (ne 1)).trans c1, hd⟩, (cell_set_ne (ne 2)).trans h.c2, fun o => by simpa using h.frz o, h.reads.set h2, h.apart⟩

/-- A struct's block that is filled from the reader: w0 the world at the beginning, sb the result's block. -/
structure BkAt (w0 W : World) (xb sb ab : Nat) (T : TypeId) (z : Array Value) (bv : Value) (zs : List UInt8) (r : Rd) (cs : Array Value) : Prop where
  lt : xb < w0.heap.size ∧ w0.heap.size ≤ sb ∧ sb < ab ∧ ab < W.heap.size
  own : ∀ k, bv.ownBlock = some k → k < w0.heap.size
  grow : RefG w0 W xb
  res : W.heap[sb]? = some (.cells z T (0, 0))
  rd : RefAt W xb bv zs r
  cells : ∀ o u, cs[o]? = some u → W.cell? ⟨ab, o, none⟩ = some u
  frz : ∀ o, W.frozen? ⟨ab, o, none⟩ = false

/-- A reading call, the block as it was. -/
def BkPost (w0 : World) (xb sb ab : Nat) (T : TypeId) (z : Array Value) (bv : Value) (zs : List UInt8) (val : Value) (r' : Rd) (cs : Array Value) (e : Ending) (w' : World) : Prop :=
  e = .returned val ∧ BkAt w0 w' xb sb ab T z bv zs r' cs

theorem BkAt.refs {w0 W w' : World} {xb sb ab : Nat} {T : TypeId} {z cs : Array Value} {bv : Value} {zs : List UInt8} {r r' : Rd} (S : BkAt w0 W xb sb ab T z bv zs r cs) (hs : RefS W w' xb) (hr : RefAt w' xb bv zs r') : BkAt w0 w' xb sb ab T z bv zs r' cs := by
  have hlt := S.lt
  exact ⟨⟨hlt.1, hlt.2.1, hlt.2.2.1, by rw [hs.size]; exact hlt.2.2.2⟩, S.own, S.grow.trans hs.grow, (hs.block sb (by omega)).trans S.res, hr, fun o u h => (hs.cell (a := ⟨ab, o, none⟩) (by show ab ≠ xb; omega)).trans (S.cells o u h), fun o => (hs.frozen (a := ⟨ab, o, none⟩) (by show ab ≠ xb; omega)).trans (S.frz o)⟩

theorem bk_u8 {w0 W : World} {xb sb ab : Nat} {T : TypeId} {z cs : Array Value} {bv : Value} {zs : List UInt8} {r : Rd} (S : BkAt w0 W xb sb ab T z bv zs r cs) :
    Calls Tryd.prog 64 #[.pointer (some ⟨xb, 0, none⟩)] W (BkPost w0 xb sb ab T z bv zs (.int .i64 r.one.1) r.one.2 cs) := by
  refine (ref_u8 xb bv zs r W S.rd).mono ?_
  rintro e w' ⟨rfl, hr, hs⟩
  exact ⟨rfl, S.refs hs hr⟩
theorem bk_int {w0 W : World} {xb sb ab : Nat} {T : TypeId} {z cs : Array Value} {bv : Value} {zs : List UInt8} {r : Rd} (S : BkAt w0 W xb sb ab T z bv zs r cs) :
    Calls Tryd.prog 63 #[.pointer (some ⟨xb, 0, none⟩)] W (BkPost w0 xb sb ab T z bv zs (.int .i64 r.int.1) r.int.2 cs) := by
  refine (ref_rint xb bv zs r W S.rd).mono ?_
  rintro e w' ⟨rfl, hr, hs⟩
  exact ⟨rfl, S.refs hs hr⟩

theorem BkAt.set {w0 W : World} {xb sb ab : Nat} {T : TypeId} {z cs : Array Value} {bv : Value} {zs : List UInt8} {r : Rd} (S : BkAt w0 W xb sb ab T z bv zs r cs) (o : Nat) (x : Value) (ho : o < cs.size) : BkAt w0 (W.setCell ⟨ab, o, none⟩ x) xb sb ab T z bv zs r (cs.setIfInBounds o x) := by
  have hlt := S.lt
  have hsz : (W.setCell ⟨ab, o, none⟩ x).heap.size = W.heap.size := by simp [World.setCell]
  refine ⟨⟨hlt.1, hlt.2.1, hlt.2.2.1, by rw [hsz]; exact hlt.2.2.2⟩, S.own, ⟨S.grow.os, S.grow.tape, S.grow.output, by rw [hsz]; exact S.grow.size, fun k hk hx => (Below.heap_setCell _ _ _ _ (by show k ≠ ab; omega)).trans (S.grow.block k hk hx)⟩, (Below.heap_setCell _ _ _ _ (by show sb ≠ ab; omega)).trans S.res, S.rd.set (by show ab ≠ xb; omega) (fun e => by have := S.own _ e; have : ab < w0.heap.size := this; omega), fun o' u h => ?_, fun o' => by simpa using S.frz o'⟩
  · by_cases e : o' = o
    · subst e
      rw [Array.getElem?_setIfInBounds_self_of_lt ho] at h
      cases h
      exact cell_set_same (S.cells o' _ (Array.getElem?_eq_getElem ho))
    · rw [Array.getElem?_setIfInBounds_ne (fun h => e h.symm)] at h
      exact (cell_set_ne (fun e' => by cases e'; exact e rfl)).trans (S.cells o' u h)

theorem BkAt.last {w0 W : World} {xb sb ab : Nat} {T : TypeId} {z cs : Array Value} {bv : Value} {zs : List UInt8} {r : Rd} (S : BkAt w0 W xb sb ab T z bv zs r cs) (cs' : Array Value) : RefAt (W.setRow sb cs') xb bv zs r ∧ RefG w0 (W.setRow sb cs') xb := by
  have hlt := S.lt
  have h := S.rd
  obtain ⟨n, hn, c1, hd⟩ := h.c1
  have hne : xb ≠ sb := by omega
  refine ⟨⟨by simpa using h.lt, h.len, (cell_setRow_other _ _ _ ⟨xb, 0, none⟩ hne).trans h.c0, ⟨n, hn, (cell_setRow_other _ _ _ ⟨xb, 1, none⟩ hne).trans c1, hd⟩, (cell_setRow_other _ _ _ ⟨xb, 2, none⟩ hne).trans h.c2, fun o => (World.frozen?_of_block (a := ⟨xb, o, none⟩) (setRow_other _ _ _ _ hne)).trans (h.frz o), ?_, h.apart⟩, ⟨S.grow.os, S.grow.tape, S.grow.output, by simpa using S.grow.size, fun k hk hx => (setRow_other _ _ _ _ (by omega)).trans (S.grow.block k hk hx)⟩⟩
  rcases h.reads with h' | ⟨b, off, cap, rfl, hc, hb, hxs⟩
  · exact .inl h'
  · have hb2 := S.own b rfl
    exact .inr ⟨b, off, cap, rfl, hc, by simpa using hb, fun i x hi => (cell_setRow_other _ _ _ ⟨b, off + i, none⟩ (by show b ≠ sb; omega)).trans (hxs i x hi)⟩

def RsPost (w : World) (xb : Nat) (bv : Value) (zs : List UInt8) (cs : Array Value) (r' : Rd) (e : Ending) (w' : World) : Prop :=
  e = .returned (.agg cs) ∧ RefAt w' xb bv zs r' ∧ RefG w w' xb

set_option maxHeartbeats 3200000 in
set_option maxRecDepth 100000 in
theorem ref_rstmt (xb : Nat) (bv : Value) (zs : List UInt8) (r : Rd) (w : World) (h : RefAt w xb bv zs r) :
    Calls Tryd.prog 41 #[.pointer (some ⟨xb, 0, none⟩)] w (RsPost w xb bv zs (stmtOf r.str.1 (Rd.ints 8 r.str.2).1).cells (Rd.ints 8 r.str.2).2) := by
  have H := Lib.hid h
  clear h
  go_enter Tryd.func41, Tryd.ntmps41
  go_upto_region 1 with (fail)
  change Code.wp _ _ _ _ (w.alloc (.cells stmtZ.cells 28))
  have hB0 := below_alloc w (.cells stmtZ.cells 28)
  have res0 : (w.alloc (.cells stmtZ.cells 28)).heap[w.heap.size]? = some (.cells stmtZ.cells 28 (0, 0)) := heap_alloc_new _ _
  have hrd0 := H.out.of_below hB0
  have hs0 : (w.alloc (.cells stmtZ.cells 28)).heap.size = w.heap.size + 1 := by simp
  generalize w.alloc (.cells stmtZ.cells 28) = W0 at *
  have H0 := Lib.hid (And.intro hB0 (And.intro res0 (And.intro hrd0 hs0)))
  clear hB0 res0 hrd0 hs0
  go_upto_region 2 with (go_at_call 62; refine (ref_text xb bv zs r W0 H0.out.2.2.1).mono ?_; rintro e w2 ⟨rfl, hr2, hs2⟩; have H2 := Lib.hid (And.intro hr2 hs2); clear hr2 hs2)
  generalize hstr : r.str = s at *
  have HSTR := Lib.hid hstr
  clear hstr
  change Code.wp _ _ _ _ (w2.alloc (.cells (StmtD.mk (strB s.1) 0 0 0 0 0 0 0 0).cells 28))
  have S : BkAt w (w2.alloc (.cells (StmtD.mk (strB s.1) 0 0 0 0 0 0 0 0).cells 28)) xb w.heap.size w2.heap.size 28 stmtZ.cells bv zs s.2 (StmtD.mk (strB s.1) 0 0 0 0 0 0 0 0).cells := by
    have hab := heap_alloc_new w2 (.cells (StmtD.mk (strB s.1) 0 0 0 0 0 0 0 0).cells 28)
    have hal := below_alloc w2 (.cells (StmtD.mk (strB s.1) 0 0 0 0 0 0 0 0).cells 28)
    have hsz3 : (w2.alloc (.cells (StmtD.mk (strB s.1) 0 0 0 0 0 0 0 0).cells 28)).heap.size = w2.heap.size + 1 := by simp
    have hx := H.out.lt
    have h0 := H0.out.2.2.2
    have hs2 := H2.out.2.size
    refine ⟨⟨hx, Nat.le_refl _, by omega, by omega⟩, (reads_own_lt H.out.reads), ?_, ?_, H2.out.1.of_below hal, fun o u h => ?_, fun o => frozen_of_row _ _ _ _ _ hab⟩
    · exact ((RefG.of_below (H0.out.1)).trans H2.out.2.grow).trans (RefG.of_below hal)
    · exact (hal.block _ (by omega)).trans ((H2.out.2.block _ (by omega)).trans H0.out.2.1)
    · rw [cell_of_row _ _ _ _ _ _ hab]; exact h
  have T0 := Lib.hid S
  generalize w2.alloc (.cells (StmtD.mk (strB s.1) 0 0 0 0 0 0 0 0).cells 28) = v0 at *
  generalize w2.heap.size = ab at *
  have hG : Hid (w.heap.size = w.heap.size) := Lib.hid rfl
  generalize hsb : w.heap.size = sb at T0 ⊢
  have HSB := Lib.hid hsb
  clear S H0 H2 hsb hG
  go_upto_region 3 with (go_at_call 63; refine (bk_int T0.out).mono ?_; generalize hi1 : Rd.int s.2 = i1 at *; have HI1 := Lib.hid hi1; clear hi1; rintro e u1 ⟨rfl, S⟩; have k1 : u1.cell? ⟨ab, 1, none⟩ = some (.int .i64 0) := S.cells 1 _ rfl; have kf := S.frz 1; have Q1 := Lib.hid S; clear S)
  have S := Q1.out.set 1 (.int .i64 i1.1) (by show 1 < 9; decide)
  generalize u1.setCell ⟨ab, 1, none⟩ (.int .i64 i1.1) = v1 at *
  have T1 : Hid (BkAt w v1 xb sb ab 28 stmtZ.cells bv zs i1.2 (StmtD.mk (strB s.1) i1.1 0 0 0 0 0 0 0).cells) := Lib.hid S
  clear S k1 kf Q1 T0
  go_upto_region 4 with (go_at_call 63; refine (bk_int T1.out).mono ?_; generalize hi2 : Rd.int i1.2 = i2 at *; have HI2 := Lib.hid hi2; clear hi2; rintro e u2 ⟨rfl, S⟩; have k1 : u2.cell? ⟨ab, 2, none⟩ = some (.int .i64 0) := S.cells 2 _ rfl; have kf := S.frz 2; have Q2 := Lib.hid S; clear S)
  have S := Q2.out.set 2 (.int .i64 i2.1) (by show 2 < 9; decide)
  generalize u2.setCell ⟨ab, 2, none⟩ (.int .i64 i2.1) = v2 at *
  have T2 : Hid (BkAt w v2 xb sb ab 28 stmtZ.cells bv zs i2.2 (StmtD.mk (strB s.1) i1.1 i2.1 0 0 0 0 0 0).cells) := Lib.hid S
  clear S k1 kf Q2 T1
  go_upto_region 5 with (go_at_call 63; refine (bk_int T2.out).mono ?_; generalize hi3 : Rd.int i2.2 = i3 at *; have HI3 := Lib.hid hi3; clear hi3; rintro e u3 ⟨rfl, S⟩; have k1 : u3.cell? ⟨ab, 3, none⟩ = some (.int .i64 0) := S.cells 3 _ rfl; have kf := S.frz 3; have Q3 := Lib.hid S; clear S)
  have S := Q3.out.set 3 (.int .i64 i3.1) (by show 3 < 9; decide)
  generalize u3.setCell ⟨ab, 3, none⟩ (.int .i64 i3.1) = v3 at *
  have T3 : Hid (BkAt w v3 xb sb ab 28 stmtZ.cells bv zs i3.2 (StmtD.mk (strB s.1) i1.1 i2.1 i3.1 0 0 0 0 0).cells) := Lib.hid S
  clear S k1 kf Q3 T2
  go_upto_region 6 with (go_at_call 63; refine (bk_int T3.out).mono ?_; generalize hi4 : Rd.int i3.2 = i4 at *; have HI4 := Lib.hid hi4; clear hi4; rintro e u4 ⟨rfl, S⟩; have k1 : u4.cell? ⟨ab, 4, none⟩ = some (.int .i64 0) := S.cells 4 _ rfl; have kf := S.frz 4; have Q4 := Lib.hid S; clear S)
  have S := Q4.out.set 4 (.int .i64 i4.1) (by show 4 < 9; decide)
  generalize u4.setCell ⟨ab, 4, none⟩ (.int .i64 i4.1) = v4 at *
  have T4 : Hid (BkAt w v4 xb sb ab 28 stmtZ.cells bv zs i4.2 (StmtD.mk (strB s.1) i1.1 i2.1 i3.1 i4.1 0 0 0 0).cells) := Lib.hid S
  clear S k1 kf Q4 T3
  go_upto_region 7 with (go_at_call 63; refine (bk_int T4.out).mono ?_; generalize hi5 : Rd.int i4.2 = i5 at *; have HI5 := Lib.hid hi5; clear hi5; rintro e u5 ⟨rfl, S⟩; have k1 : u5.cell? ⟨ab, 5, none⟩ = some (.int .i64 0) := S.cells 5 _ rfl; have kf := S.frz 5; have Q5 := Lib.hid S; clear S)
  have S := Q5.out.set 5 (.int .i64 i5.1) (by show 5 < 9; decide)
  generalize u5.setCell ⟨ab, 5, none⟩ (.int .i64 i5.1) = v5 at *
  have T5 : Hid (BkAt w v5 xb sb ab 28 stmtZ.cells bv zs i5.2 (StmtD.mk (strB s.1) i1.1 i2.1 i3.1 i4.1 i5.1 0 0 0).cells) := Lib.hid S
  clear S k1 kf Q5 T4
  go_upto_region 8 with (go_at_call 63; refine (bk_int T5.out).mono ?_; generalize hi6 : Rd.int i5.2 = i6 at *; have HI6 := Lib.hid hi6; clear hi6; rintro e u6 ⟨rfl, S⟩; have k1 : u6.cell? ⟨ab, 6, none⟩ = some (.int .i64 0) := S.cells 6 _ rfl; have kf := S.frz 6; have Q6 := Lib.hid S; clear S)
  have S := Q6.out.set 6 (.int .i64 i6.1) (by show 6 < 9; decide)
  generalize u6.setCell ⟨ab, 6, none⟩ (.int .i64 i6.1) = v6 at *
  have T6 : Hid (BkAt w v6 xb sb ab 28 stmtZ.cells bv zs i6.2 (StmtD.mk (strB s.1) i1.1 i2.1 i3.1 i4.1 i5.1 i6.1 0 0).cells) := Lib.hid S
  clear S k1 kf Q6 T5
  go_upto_region 9 with (go_at_call 63; refine (bk_int T6.out).mono ?_; generalize hi7 : Rd.int i6.2 = i7 at *; have HI7 := Lib.hid hi7; clear hi7; rintro e u7 ⟨rfl, S⟩; have k1 : u7.cell? ⟨ab, 7, none⟩ = some (.int .i64 0) := S.cells 7 _ rfl; have kf := S.frz 7; have Q7 := Lib.hid S; clear S)
  have S := Q7.out.set 7 (.int .i64 i7.1) (by show 7 < 9; decide)
  generalize u7.setCell ⟨ab, 7, none⟩ (.int .i64 i7.1) = v7 at *
  have T7 : Hid (BkAt w v7 xb sb ab 28 stmtZ.cells bv zs i7.2 (StmtD.mk (strB s.1) i1.1 i2.1 i3.1 i4.1 i5.1 i6.1 i7.1 0).cells) := Lib.hid S
  clear S k1 kf Q7 T6
  go_upto_region 10 with (go_at_call 63; refine (bk_int T7.out).mono ?_; generalize hi8 : Rd.int i7.2 = i8 at *; have HI8 := Lib.hid hi8; clear hi8; rintro e u8 ⟨rfl, S⟩; have k1 : u8.cell? ⟨ab, 8, none⟩ = some (.int .i64 0) := S.cells 8 _ rfl; have kf := S.frz 8; have Q8 := Lib.hid S; clear S)
  have S := Q8.out.set 8 (.int .i64 i8.1) (by show 8 < 9; decide)
  generalize u8.setCell ⟨ab, 8, none⟩ (.int .i64 i8.1) = v8 at *
  have T8 : Hid (BkAt w v8 xb sb ab 28 stmtZ.cells bv zs i8.2 (StmtD.mk (strB s.1) i1.1 i2.1 i3.1 i4.1 i5.1 i6.1 i7.1 i8.1).cells) := Lib.hid S
  clear S k1 kf Q8 T7
  have E : Rd.ints 8 s.2 = ([i1.1, i2.1, i3.1, i4.1, i5.1, i6.1, i7.1, i8.1], i8.2) := by
    simp only [Rd.ints, HI1.out, HI2.out, HI3.out, HI4.out, HI5.out, HI6.out, HI7.out, HI8.out]
  rw [E]
  have TE := Lib.hid E
  clear E
  go_step
  refine wpList_load_mid rfl 28 (.tmp 3) rfl ab 0 rfl ((StmtD.mk (strB s.1) i1.1 i2.1 i3.1 i4.1 i5.1 i6.1 i7.1 i8.1).cells).toList _ (fun j u hj => by rw [Nat.zero_add]; exact T8.out.cells j u (by simpa using hj)) Tryd.underlying28 rfl (by kernel_rfl) ?_
  refine wpList_store_row rfl 28 (.tmp 2) (.tmp 31) rfl sb ((StmtD.mk (strB s.1) i1.1 i2.1 i3.1 i4.1 i5.1 i6.1 i7.1 i8.1).cells) rfl rfl 28 stmtZ.cells T8.out.res (by kernel_rfl) rfl (stmt_one_cells _) ?_
  go_wp2
  (try simp only [Exit.inBlock, Exit.then])
  refine bodyPost_ret (results_cell_row rfl _ _ sb 28 ((StmtD.mk (strB s.1) i1.1 i2.1 i3.1 i4.1 i5.1 i6.1 i7.1 i8.1).cells) (0, 0) _ rfl (setRow_heap _ _ _ _ _ _ T8.out.res) Tryd.underlying28 rfl (by kernel_rfl)) rfl ?_
  rw [TE.out]
  have L := T8.out.last ((StmtD.mk (strB s.1) i1.1 i2.1 i3.1 i4.1 i5.1 i6.1 i7.1 i8.1).cells)
  exact ⟨rfl, L.1, L.2⟩
end Go.Proofs.YtehkgcmdndehaaaDoor

