/-
  The document's reader with its error's number; a call's own blocks beside it.
-/
import Derived.Test.YtehkgcmdndehaaaDoorGPRA24
import Derived.Test.YtehkgcmdndehaaaDoorGPRA16
import Derived.Test.YtehkgcmdndehaaaDoorGPRA14
namespace Go.Proofs.YtehkgcmdndehaaaDoor
set_option linter.unusedSimpArgs false
set_option linter.unusedVariables false
open Go.RowKit

structure RefE (w : World) (xb : Nat) (bv : Value) (zs : List UInt8) (q : Re) : Prop where
  lt : xb < w.heap.size
  len : zs.length ≤ 1000000
  c0 : w.cell? ⟨xb, 0, none⟩ = some bv
  c1 : ∃ n : Nat, n ≤ zs.length ∧ w.cell? ⟨xb, 1, none⟩ = some (.int .i64 n) ∧ (q.err = 0 → q.bs = zs.drop n)
  c2 : w.cell? ⟨xb, 2, none⟩ = some (.int .i64 q.err)
  frz : ∀ o, w.frozen? ⟨xb, o, none⟩ = false
  reads : Reads w bv zs
  apart : bv.ownBlock ≠ some xb
def OkE (q : Re) : Prop := q.err = 0 ∨ q.err = 8
theorem RefE.of_at {w : World} {xb : Nat} {bv : Value} {zs : List UInt8} {r : Rd} (h : RefAt w xb bv zs r) : RefE w xb bv zs (reOf r) := by
  obtain ⟨n, hn, c1, hd⟩ := h.c1
  refine ⟨h.lt, h.len, h.c0, ⟨n, hn, c1, fun he => hd ?_⟩, h.c2, h.frz, h.reads, h.apart⟩
  unfold reOf at he
  simp only at he
  cases hc : r.cut with
  | true => rw [hc] at he; simp at he
  | false => rfl
theorem RefE.at {w : World} {xb : Nat} {bv : Value} {zs : List UInt8} {q : Re} (h : RefE w xb bv zs q) (ho : OkE q) : ∃ r : Rd, reOf r = q ∧ RefAt w xb bv zs r := by
  obtain ⟨n, hn, c1, hd⟩ := h.c1
  have e : reOf ⟨q.bs, decide (q.err ≠ 0)⟩ = q := by
    unfold reOf
    rcases ho with ho | ho
    · cases q; simp only at ho; subst ho; rfl
    · cases q; simp only at ho; subst ho; rfl
  refine ⟨⟨q.bs, decide (q.err ≠ 0)⟩, e, h.lt, h.len, h.c0, ⟨n, hn, c1, fun hc => hd (by simpa using hc)⟩, ?_, h.frz, h.reads, h.apart⟩
  have c2 := h.c2
  rw [← e] at c2
  exact c2
theorem ok_reOf (r : Rd) : OkE (reOf r) := by
  unfold reOf OkE
  cases r.cut
  · exact .inl rfl
  · exact .inr rfl
theorem ok_take {q : Re} (n : Nat) (h : OkE q) : OkE (q.take n).2 := by
  unfold Re.take Re.fail OkE at *
  split
  · simp only
    split
    · exact .inr rfl
    · exact h
  · exact .inl rfl
theorem ok_one {q : Re} (h : OkE q) : OkE q.one.2 := ok_take 1 h
theorem ok_int {q : Re} (h : OkE q) : OkE q.int.2 := ok_take 8 h
theorem ok_str {q : Re} (h : OkE q) : OkE q.str.2 := ok_take _ (ok_one h)
theorem ok_ints : ∀ (n : Nat) {q : Re}, OkE q → OkE (Re.ints n q).2
  | 0, _, h => h
  | n + 1, _, h => ok_ints n (ok_int h)
theorem one_err {q : Re} (h : q.one.2.err ≠ 0) : q.one.1 = 0 := by
  unfold Re.one at *
  unfold Re.take at *
  split at h
  · rename_i hc
    rw [if_pos hc]
    rfl
  · simp at h
theorem RefE.refs {w w' : World} {xb : Nat} {bv : Value} {zs : List UInt8} {q : Re} (h : RefE w xb bv zs q) (hB : Below w.heap.size w w') : RefE w' xb bv zs q := by
  obtain ⟨n, hn, c1, hd⟩ := h.c1
  exact ⟨Nat.lt_of_lt_of_le h.lt hB.size, h.len, (hB.cell (p := ⟨xb, 0, none⟩) h.lt).trans h.c0, ⟨n, hn, (hB.cell (p := ⟨xb, 1, none⟩) h.lt).trans c1, hd⟩, (hB.cell (p := ⟨xb, 2, none⟩) h.lt).trans h.c2, fun o => (hB.frozen (p := ⟨xb, o, none⟩) h.lt).trans (h.frz o), h.reads.below hB, h.apart⟩

/-- The reader and what the call has turned: nothing but the reader's block and blocks of its own. -/
structure Rdg (w0 W : World) (xb : Nat) (bv : Value) (zs : List UInt8) (q : Re) : Prop where
  rd : RefE W xb bv zs q
  grow : RefG w0 W xb
  own : ∀ k, bv.ownBlock = some k → k < w0.heap.size
  lt : xb < w0.heap.size
/-- A reading call's post: a value, the reader behind it. -/
def RdgPost (w0 W : World) (xb : Nat) (bv : Value) (zs : List UInt8) (val : Value) (q : Re) (e : Ending) (w' : World) : Prop := e = .returned val ∧ Rdg w0 w' xb bv zs q ∧ RefG W w' xb
/-- A whole block of the call's own. -/
def Blk (W : World) (b : Nat) (T : TypeId) (cs : Array Value) : Prop := W.heap[b]? = some (.cells cs T (0, 0))
theorem Blk.lt {W : World} {b : Nat} {T : TypeId} {cs : Array Value} (h : Blk W b T cs) : b < W.heap.size := (Array.getElem?_eq_some_iff.1 h).1
theorem Blk.cell {W : World} {b : Nat} {T : TypeId} {cs : Array Value} (h : Blk W b T cs) (o : Nat) : W.cell? ⟨b, o, none⟩ = cs[o]? := cell_of_row _ _ _ _ _ _ h
theorem Blk.frz {W : World} {b : Nat} {T : TypeId} {cs : Array Value} (h : Blk W b T cs) (o : Nat) : W.frozen? ⟨b, o, none⟩ = false := frozen_of_row _ _ _ _ _ h
theorem Blk.grow {W W' : World} {xb b : Nat} {T : TypeId} {cs : Array Value} (h : Blk W b T cs) (hg : RefG W W' xb) (hb : b ≠ xb) : Blk W' b T cs := (hg.block b h.lt hb).trans h
theorem Blk.below {W W' : World} {b : Nat} {T : TypeId} {cs : Array Value} (h : Blk W b T cs) (hB : Below W.heap.size W W') : Blk W' b T cs := (hB.block b h.lt).trans h
theorem Blk.new (W : World) (T : TypeId) (cs : Array Value) : Blk (W.alloc (.cells cs T)) W.heap.size T cs := heap_alloc_new _ _
theorem Blk.set {W : World} {b o : Nat} {T : TypeId} {cs : Array Value} (h : Blk W b T cs) (v : Value) (ho : o < cs.size) : Blk (W.setCell ⟨b, o, none⟩ v) b T (cs.setIfInBounds o v) := by
  unfold Blk
  rw [setCell_eq_setRow W b o cs T (0, 0) v h]
  exact setRow_heap _ _ _ _ _ _ h
theorem Blk.other {W : World} {b b2 o : Nat} {T : TypeId} {cs : Array Value} (h : Blk W b T cs) (v : Value) (hb : b ≠ b2) : Blk (W.setCell ⟨b2, o, none⟩ v) b T cs := (Below.heap_setCell _ _ _ _ hb).trans h
theorem Blk.setRow {W : World} {b : Nat} {T : TypeId} {cs : Array Value} (h : Blk W b T cs) (cs' : Array Value) : Blk (W.setRow b cs') b T cs' := setRow_heap _ _ _ _ _ _ h
theorem Blk.otherRow {W : World} {b b2 : Nat} {T : TypeId} {cs : Array Value} (h : Blk W b T cs) (cs' : Array Value) (hb : b ≠ b2) : Blk (W.setRow b2 cs') b T cs := (setRow_other _ _ _ _ hb).trans h
theorem Rdg.below {w0 W W' : World} {xb : Nat} {bv : Value} {zs : List UInt8} {q : Re} (h : Rdg w0 W xb bv zs q) (hB : Below W.heap.size W W') : Rdg w0 W' xb bv zs q := ⟨h.rd.refs hB, h.grow.trans (RefG.of_below hB), h.own, h.lt⟩
/-- A block of the call's own is written. -/
theorem Rdg.turn {w0 W W' : World} {xb b : Nat} {bv : Value} {zs : List UInt8} {q : Re} (h : Rdg w0 W xb bv zs q) (hb : w0.heap.size ≤ b) (ho : W'.os = W.os) (ht : W'.tape = W.tape) (hu : W'.output = W.output) (hs : W.heap.size ≤ W'.heap.size) (hk : ∀ k, k < W.heap.size → k ≠ b → W'.heap[k]? = W.heap[k]?) : Rdg w0 W' xb bv zs q := by
  have hx := h.lt
  have hgs := h.grow.size
  have hxb : W'.heap[xb]? = W.heap[xb]? := hk xb (by omega) (by omega)
  obtain ⟨n, hn, c1, hd⟩ := h.rd.c1
  refine ⟨⟨by omega, h.rd.len, (World.cell?_of_block (a := ⟨xb, 0, none⟩) hxb).trans h.rd.c0, ⟨n, hn, (World.cell?_of_block (a := ⟨xb, 1, none⟩) hxb).trans c1, hd⟩, (World.cell?_of_block (a := ⟨xb, 2, none⟩) hxb).trans h.rd.c2, fun o => (World.frozen?_of_block (a := ⟨xb, o, none⟩) hxb).trans (h.rd.frz o), ?_, h.rd.apart⟩, ⟨ho.trans h.grow.os, ht.trans h.grow.tape, hu.trans h.grow.output, by omega, fun k h1 h2 => (hk k (by omega) (by omega)).trans (h.grow.block k h1 h2)⟩, h.own, h.lt⟩
  rcases h.rd.reads with hh | ⟨b1, off, cap, rfl, hcap, hb1, hx1⟩
  · exact .inl hh
  · have := h.own b1 rfl
    exact .inr ⟨b1, off, cap, rfl, hcap, by omega, fun i x hi => (World.cell?_of_block (a := ⟨b1, off + i, none⟩) (hk b1 hb1 (by omega))).trans (hx1 i x hi)⟩
theorem Rdg.set {w0 W : World} {xb b o : Nat} {bv : Value} {zs : List UInt8} {q : Re} (h : Rdg w0 W xb bv zs q) (hb : w0.heap.size ≤ b) (v : Value) : Rdg w0 (W.setCell ⟨b, o, none⟩ v) xb bv zs q :=
  h.turn hb rfl rfl rfl (by simp [World.setCell]) (fun k _ hk => Below.heap_setCell _ _ _ _ hk)
theorem Rdg.setRow {w0 W : World} {xb b : Nat} {bv : Value} {zs : List UInt8} {q : Re} (h : Rdg w0 W xb bv zs q) (hb : w0.heap.size ≤ b) (cs : Array Value) : Rdg w0 (W.setRow b cs) xb bv zs q :=
  h.turn hb rfl rfl rfl (by simp) (fun k _ hk => setRow_other _ _ _ _ hk)
theorem Rdg.setCells {w0 W : World} {xb b : Nat} {bv : Value} {zs : List UInt8} {q : Re} (h : Rdg w0 W xb bv zs q) (hb : w0.heap.size ≤ b) (o : Nat) (vs : List Value) : Rdg w0 (W.setCells b o vs) xb bv zs q := by
  obtain ⟨h1, h2, h3, h4, h5⟩ := setCells_keeps b vs o W
  exact h.turn hb h1 h2 h3 (by rw [h4]; exact Nat.le_refl _) (fun k _ hk => h5 k hk)
theorem rdg_of {w0 W w' : World} {xb : Nat} {bv : Value} {zs : List UInt8} {q : Re} (h : Rdg w0 W xb bv zs q) (hr : RefE w' xb bv zs q) (hg : RefG W w' xb) : Rdg w0 w' xb bv zs q := ⟨hr, h.grow.trans hg, h.own, h.lt⟩
theorem rg_u8 {w0 W : World} {xb : Nat} {bv : Value} {zs : List UInt8} {q : Re} (h : Rdg w0 W xb bv zs q) (ho : OkE q) : Calls Tryd.prog 64 #[.pointer (some ⟨xb, 0, none⟩)] W (RdgPost w0 W xb bv zs (.int .i64 q.one.1) q.one.2) := by
  obtain ⟨r, rfl, ha⟩ := h.rd.at ho
  refine (ref_u8 xb bv zs r W ha).mono ?_
  rintro e w' ⟨rfl, hr, hs⟩
  rw [re_one]
  exact ⟨rfl, ⟨RefE.of_at hr, h.grow.trans hs.grow, h.own, h.lt⟩, hs.grow⟩
theorem rg_int {w0 W : World} {xb : Nat} {bv : Value} {zs : List UInt8} {q : Re} (h : Rdg w0 W xb bv zs q) (ho : OkE q) : Calls Tryd.prog 63 #[.pointer (some ⟨xb, 0, none⟩)] W (RdgPost w0 W xb bv zs (.int .i64 q.int.1) q.int.2) := by
  obtain ⟨r, rfl, ha⟩ := h.rd.at ho
  refine (ref_rint xb bv zs r W ha).mono ?_
  rintro e w' ⟨rfl, hr, hs⟩
  rw [re_int]
  exact ⟨rfl, ⟨RefE.of_at hr, h.grow.trans hs.grow, h.own, h.lt⟩, hs.grow⟩
theorem rg_text {w0 W : World} {xb : Nat} {bv : Value} {zs : List UInt8} {q : Re} (h : Rdg w0 W xb bv zs q) (ho : OkE q) : Calls Tryd.prog 62 #[.pointer (some ⟨xb, 0, none⟩)] W (RdgPost w0 W xb bv zs (.string (strB q.str.1)) q.str.2) := by
  obtain ⟨r, rfl, ha⟩ := h.rd.at ho
  refine (ref_text xb bv zs r W ha).mono ?_
  rintro e w' ⟨rfl, hr, hs⟩
  rw [re_str]
  exact ⟨rfl, ⟨RefE.of_at hr, h.grow.trans hs.grow, h.own, h.lt⟩, hs.grow⟩
theorem rg_plan {w0 W : World} {xb : Nat} {bv : Value} {zs : List UInt8} {q : Re} (h : Rdg w0 W xb bv zs q) (ho : OkE q) : Calls Tryd.prog 40 #[.pointer (some ⟨xb, 0, none⟩)] W (RdgPost w0 W xb bv zs (.agg (planRd q).1.cells) (planRd q).2) := by
  obtain ⟨r, rfl, ha⟩ := h.rd.at ho
  refine (ref_rplan xb bv zs r W ha).mono ?_
  rintro e w' ⟨rfl, hr, hg⟩
  have e1 : planRd (reOf r) = (planOf r.str.1 (Rd.ints 9 r.str.2).1, reOf (Rd.ints 9 r.str.2).2) := by unfold planRd; rw [re_str]; simp only [re_ints]
  rw [e1]
  exact ⟨rfl, ⟨RefE.of_at hr, h.grow.trans hg, h.own, h.lt⟩, hg⟩
theorem rg_stmt {w0 W : World} {xb : Nat} {bv : Value} {zs : List UInt8} {q : Re} (h : Rdg w0 W xb bv zs q) (ho : OkE q) : Calls Tryd.prog 41 #[.pointer (some ⟨xb, 0, none⟩)] W (RdgPost w0 W xb bv zs (.agg (stmtRd q).1.cells) (stmtRd q).2) := by
  obtain ⟨r, rfl, ha⟩ := h.rd.at ho
  refine (ref_rstmt xb bv zs r W ha).mono ?_
  rintro e w' ⟨rfl, hr, hg⟩
  have e1 : stmtRd (reOf r) = (stmtOf r.str.1 (Rd.ints 8 r.str.2).1, reOf (Rd.ints 8 r.str.2).2) := by unfold stmtRd; rw [re_str]; simp only [re_ints]
  rw [e1]
  exact ⟨rfl, ⟨RefE.of_at hr, h.grow.trans hg, h.own, h.lt⟩, hg⟩
attribute [local irreducible] Re.ints Re.str
theorem ok_plan {q : Re} (h : OkE q) : OkE (planRd q).2 := ok_ints 9 (ok_str h)
theorem ok_stmt {q : Re} (h : OkE q) : OkE (stmtRd q).2 := ok_ints 8 (ok_str h)
end Go.Proofs.YtehkgcmdndehaaaDoor

