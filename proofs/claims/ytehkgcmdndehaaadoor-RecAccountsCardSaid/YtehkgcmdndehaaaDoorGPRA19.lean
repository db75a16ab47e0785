/-
  A record that is written: its row, all its other cells; what its small callers leave.
-/
import Derived.Test.YtehkgcmdndehaaaDoorGPRA12
import Derived.Test.YtehkgcmdndehaaaDoorGPRA15
import Derived.Test.YtehkgcmdndehaaaDoorGPRA10
import Derived.Test.YtehkgcmdndehaaaDoorGPRA09
namespace Go.Proofs.YtehkgcmdndehaaaDoor
set_option linter.unusedSimpArgs false
set_option linter.unusedVariables false
open Go.RowKit

/-- Cells that are laid over others, from place o of the block on (the list begins at place 2). -/
def wrC (cs : List Value) (o : Nat) (vs : List Value) : List Value := cs.take (o - 2) ++ vs ++ cs.drop (o - 2 + vs.length)
theorem wrC_length (cs : List Value) (o : Nat) (vs : List Value) (h : o - 2 + vs.length ≤ cs.length) : (wrC cs o vs).length = cs.length := by
  unfold wrC; simp only [List.length_append, List.length_take, List.length_drop]; omega
theorem wrC_in (cs : List Value) (o : Nat) (vs : List Value) (h : o - 2 + vs.length ≤ cs.length) (j : Nat) (hj : j < vs.length) : (wrC cs o vs)[o - 2 + j]? = vs[j]? := by
  unfold wrC
  rw [List.getElem?_append_left (by simp; omega), List.getElem?_append_right (by simp; omega)]
  congr 1; simp; omega
theorem wrC_out (cs : List Value) (o : Nat) (vs : List Value) (h : o - 2 + vs.length ≤ cs.length) (j : Nat) (hj : j < o - 2 ∨ o - 2 + vs.length ≤ j) : (wrC cs o vs)[j]? = cs[j]? := by
  unfold wrC
  rcases hj with hj | hj
  · rw [List.append_assoc, List.getElem?_append_left (by simp; omega), List.getElem?_take, if_pos (by omega)]
  · rw [List.getElem?_append_right (by simp; omega), List.getElem?_drop]
    congr 1; simp; omega

/-- What the writers of a row leave, whatever they do in the row's own block. -/
structure Gr (w w' : World) (rb : Nat) (v v' : Value) : Prop where
  os : w'.os = w.os
  tape : w'.tape = w.tape
  output : w'.output = w.output
  size : w.heap.size ≤ w'.heap.size
  block : ∀ k, k < w.heap.size → k ≠ rb → v.ownBlock ≠ some k → w'.heap[k]? = w.heap[k]?
  new : v'.ownBlock = v.ownBlock ∨ ∃ k, v'.ownBlock = some k ∧ w.heap.size ≤ k
theorem Gr.refl (w : World) (rb : Nat) (v : Value) : Gr w w rb v v := ⟨rfl, rfl, rfl, Nat.le_refl _, fun _ _ _ _ => rfl, .inl rfl⟩
theorem Gr.trans {w w1 w2 : World} {rb : Nat} {v v1 v2 : Value} (h : Gr w w1 rb v v1) (k : Gr w1 w2 rb v1 v2) : Gr w w2 rb v v2 := by
  refine ⟨k.os.trans h.os, k.tape.trans h.tape, k.output.trans h.output, Nat.le_trans h.size k.size, fun j hj hr hv => ?_, ?_⟩
  · rw [k.block j (Nat.lt_of_lt_of_le hj h.size) hr ?_, h.block j hj hr hv]
    intro e
    rcases h.new with h' | ⟨m, h', hm⟩
    · exact hv (h'.symm.trans e)
    · rw [h'] at e; cases e; omega
  · rcases k.new with k' | ⟨m, k', hm⟩
    · rcases h.new with h' | ⟨m, h', hm⟩
      · exact .inl (k'.trans h')
      · exact .inr ⟨m, k'.trans h', hm⟩
    · exact .inr ⟨m, k', Nat.le_trans h.size hm⟩
theorem Puts.gr {w w' : World} {rb : Nat} {v v' : Value} (h : Puts w w' rb v v') : Gr w w' rb v v' := ⟨h.os, h.tape, h.output, h.size, h.block, h.new⟩
theorem Gr.of_below {w w' : World} {rb : Nat} {v : Value} (h : Below w.heap.size w w') : Gr w w' rb v v := ⟨h.os, h.tape, h.output, h.size, fun k hk _ _ => h.block k hk, .inl rfl⟩
theorem setCells_keeps (b : Nat) : ∀ (vs : List Value) (o : Nat) (w : World), (w.setCells b o vs).os = w.os ∧ (w.setCells b o vs).tape = w.tape ∧ (w.setCells b o vs).output = w.output ∧ (w.setCells b o vs).heap.size = w.heap.size ∧ ∀ k, k ≠ b → (w.setCells b o vs).heap[k]? = w.heap[k]?
  | [], _, _ => ⟨rfl, rfl, rfl, rfl, fun _ _ => rfl⟩
  | v :: r, o, w => by
    obtain ⟨h1, h2, h3, h4, h5⟩ := setCells_keeps b r (o + 1) (w.setCell ⟨b, o, none⟩ v)
    rw [World.setCells]
    exact ⟨h1, h2, h3, by rw [h4]; simp [World.setCell], fun k hk => (h5 k hk).trans (Below.heap_setCell _ _ _ _ hk)⟩
theorem Gr.of_setCells {w : World} {rb : Nat} {v : Value} (o : Nat) (vs : List Value) : Gr w (w.setCells rb o vs) rb v v := by
  obtain ⟨h1, h2, h3, h4, h5⟩ := setCells_keeps rb vs o w
  exact ⟨h1, h2, h3, by rw [h4]; exact Nat.le_refl _, fun k _ hk _ => h5 k hk, .inl rfl⟩
theorem Gr.cell {w w' : World} {rb : Nat} {v v' : Value} (h : Gr w w' rb v v') {a : Addr} (hk : a.block < w.heap.size) (hr : a.block ≠ rb) (hv : v.ownBlock ≠ some a.block) : w'.cell? a = w.cell? a :=
  World.cell?_of_block (h.block _ hk hr hv)
theorem Gr.other {w w' : World} {rb : Nat} {v v' : Value} (h : Gr w w' rb v v') {k : Nat} (hk : k < w.heap.size) (hv : v.ownBlock ≠ some k) : v'.ownBlock ≠ some k := by
  intro e
  rcases h.new with h' | ⟨m, h', hm⟩
  · exact hv (h'.symm.trans e)
  · rw [h'] at e; cases e; omega
theorem Gr.undrew {w w' : World} {rb : Nat} {v v' : Value} (h : Gr w.drew w' rb v v') : Gr w w' rb v v' := ⟨h.os, h.tape, h.output, h.size, h.block, h.new⟩
theorem Gr.below_new {n rb : Nat} {w W w1 : World} {v0 v : Value} (h : Gr W w1 rb v0 v) (hv : v0.ownBlock = none) (hB : Below n w W) (hn : n ≤ rb) (hs : n ≤ W.heap.size) : Below n w w1 :=
  hB.trans ⟨h.os, h.tape, h.output, h.size, fun k hk => h.block k (by omega) (by omega) (by rw [hv]; simp)⟩
theorem Gr.items {w w' : World} {rb : Nat} {v v' u : Value} {n : Nat} {xs : List (List Value)} (h : Gr w w' rb v v') (hi : Items w u n xs) (h1 : liveB u ≠ some rb) (h2 : ∀ k, liveB u = some k → v.ownBlock ≠ some k) : Items w' u n xs :=
  hi.of_block h.size (fun k hk hlt => h.block k hlt (fun e => h1 (e ▸ hk)) (h2 k hk))

/-- A record at block rb: its row holds the bytes xs, its other cells are cs. -/
structure RW (w : World) (rb : Nat) (v : Value) (xs : List UInt8) (cs : List Value) : Prop where
  row : RowAt w rb v xs
  rng : w.rangeAt rb 2 cs
  len : cs.length = 79
  fr : ∀ o, 2 ≤ o → o < 81 → w.frozen? ⟨rb, o, none⟩ = false
  lt : rb < w.heap.size
def RWPost (w : World) (rb : Nat) (v : Value) (xs : List UInt8) (cs : List Value) (e : Ending) (w' : World) : Prop :=
  ∃ v', e = .returned (.tuple #[]) ∧ RW w' rb v' xs cs ∧ Gr w w' rb v v'

theorem RW.cell {w : World} {rb : Nat} {v u : Value} {xs : List UInt8} {cs : List Value} (h : RW w rb v xs cs) (o : Nat) (ho : 2 ≤ o) (hu : cs[o - 2]? = some u) : w.cell? ⟨rb, o, none⟩ = some u := by
  have := h.rng (o - 2) u hu
  rwa [show 2 + (o - 2) = o by omega] at this
theorem RW.puts {w w' : World} {rb : Nat} {v v' : Value} {xs ys : List UInt8} {cs : List Value} (h : RW w rb v xs cs) (hr : RowAt w' rb v' ys) (hp : Puts w w' rb v v') : RW w' rb v' ys cs :=
  ⟨hr, fun j u hj => (hp.row _ (by omega)).trans (h.rng j u hj), h.len, fun o h1 h2 => (hp.frz o).trans (h.fr o h1 h2), Nat.lt_of_lt_of_le h.lt hp.size⟩
theorem RW.post {w w' : World} {rb : Nat} {v : Value} {xs ys : List UInt8} {cs : List Value} {e : Ending} (h : RW w rb v xs cs) (hp : PutPost w rb v ys e w') : RWPost w rb v ys cs e w' := by
  obtain ⟨v', rfl, hr, hq⟩ := hp
  exact ⟨v', rfl, h.puts hr hq, hq.gr⟩
theorem RW.below {w w' : World} {rb : Nat} {v : Value} {xs : List UInt8} {cs : List Value} (h : RW w rb v xs cs) (hB : Below w.heap.size w w') : RW w' rb v xs cs :=
  ⟨h.row.of_below h.lt hB, fun j u hj => (hB.cell (p := ⟨rb, 2 + j, none⟩) h.lt).trans (h.rng j u hj), h.len, fun o h1 h2 => (hB.frozen (p := ⟨rb, o, none⟩) h.lt).trans (h.fr o h1 h2), Nat.lt_of_lt_of_le h.lt hB.size⟩
theorem RW.there {w : World} {rb : Nat} {v : Value} {xs : List UInt8} {cs : List Value} (h : RW w rb v xs cs) (o n : Nat) (ho : 2 ≤ o) (hn : o + n ≤ 81) : w.there rb o n := fun j hj => by
  have hl := h.len
  have := h.cell (o + j) (by omega) (List.getElem?_eq_getElem (by omega))
  exact ⟨by rw [this]; rfl, h.fr _ (by omega) (by omega)⟩
theorem RW.range {w : World} {rb : Nat} {v : Value} {xs : List UInt8} {cs : List Value} (h : RW w rb v xs cs) (o : Nat) (ho : 2 ≤ o) (vs : List Value) (hv : ∀ (j : Nat) (u : Value), vs[j]? = some u → cs[o - 2 + j]? = some u) : w.rangeAt rb o vs := fun j u hj =>
  h.cell (o + j) (by omega) (by rw [show o + j - 2 = o - 2 + j by omega]; exact hv j u hj)
theorem RW.set {w : World} {rb : Nat} {v : Value} {xs : List UInt8} {cs : List Value} (h : RW w rb v xs cs) (o : Nat) (vs : List Value) (ho : 2 ≤ o) (hn : o + vs.length ≤ 81) : RW (w.setCells rb o vs) rb v xs (wrC cs o vs) := by
  have hl := h.len
  have hth := h.there o vs.length ho hn
  obtain ⟨k1, k2, k3, k4, k5⟩ := setCells_keeps rb vs o w
  have hout : ∀ p, (p < o ∨ o + vs.length ≤ p) → (w.setCells rb o vs).cell? ⟨rb, p, none⟩ = w.cell? ⟨rb, p, none⟩ := fun p hp =>
    World.cell?_setCells_out rb vs o w ⟨rb, p, none⟩ (fun _ _ => by simp only; omega)
  have hvr : v.ownBlock ≠ some rb := fun e => by have := h.row.own.lt rb e; omega
  refine ⟨⟨(hout 0 (by omega)).trans h.row.cell, by rw [World.frozen?_setCells]; exact h.row.free, h.row.own.kept (row := some rb) ⟨k1, k2, k3, by rw [k4]; exact Nat.le_refl _, fun k _ hk => k5 k (fun e => hk (by rw [e]))⟩ (.inr hvr)⟩, fun j u hj => ?_, by rw [wrC_length _ _ _ (by omega)]; exact hl, fun p h1 h2 => by rw [World.frozen?_setCells]; exact h.fr p h1 h2, by rw [k4]; exact h.lt⟩
  by_cases hin : o - 2 ≤ j ∧ j < o - 2 + vs.length
  · obtain ⟨i, rfl⟩ : ∃ i, j = o - 2 + i := ⟨j - (o - 2), by omega⟩
    rw [wrC_in _ _ _ (by omega) i (by omega)] at hj
    have := World.rangeAt_setCells_same w rb o vs hth i u hj
    rwa [show 2 + (o - 2 + i) = o + i by omega]
  · rw [wrC_out _ _ _ (by omega) j (by omega)] at hj
    rw [hout (2 + j) (by omega)]
    exact h.rng j u hj
theorem fits_small {n : Nat} (h : n ≤ 1000000) : Fits n := fits_of _ (by omega)

theorem rw_byte (rb : Nat) (v : Value) (xs : List UInt8) (cs : List Value) (n : Int) (w : World) (h : RW w rb v xs cs) (hl : xs.length + 1 ≤ 1000000) :
    Calls Tryd.prog 55 #[.pointer (some ⟨rb, 0, none⟩), .int .i64 n] w (RWPost w rb v (xs ++ [byteOf n]) cs) :=
  (rrow_byte rb v xs n w h.row h.lt (fits_small hl)).mono fun e w' hp => h.post hp
theorem rw_text (rb : Nat) (v : Value) (xs : List UInt8) (cs : List Value) (s : ByteArray) (w : World) (h : RW w rb v xs cs) (hl : xs.length + (encText s).length ≤ 1000000) :
    Calls Tryd.prog 54 #[.pointer (some ⟨rb, 0, none⟩), .string s] w (RWPost w rb v (xs ++ encText s) cs) :=
  (rrow_text rb v xs s w h.row h.lt (fits_small hl)).mono fun e w' hp => h.post hp
/-- Numbers in a new block, put. -/
theorem rw_ints (rb nb m : Nat) (cs0 : Array Value) (T : TypeId) (v : Value) (xs : List UInt8) (cs : List Value) (ns : List Int) (w wx : World) (h : RW w rb v xs cs) (hl : xs.length + 8 * ns.length ≤ 1000000) (hlen : ns.length < 1000)
    (hm : m = ns.length) (hB : Below w.heap.size w wx) (hnb : w.heap.size ≤ nb) (hblk : wx.heap[nb]? = some (.cells cs0 T (0, 0))) (hcs : cs0 = (ns.map (Value.int .i64)).toArray) :
    Calls Tryd.prog 56 #[.pointer (some ⟨rb, 0, none⟩), .slice (some ⟨nb, 0, none⟩) m m] wx (RWPost w rb v (xs ++ encInts ns) cs) :=
  (rrow_ints rb nb m cs0 T v xs ns w wx h.row h.lt (fits_small hl) hlen hm hB hnb hblk hcs).mono fun e w' hp => h.post hp
/-- A plan, a statement of the record's, put. -/
theorem rw_plan (rb : Nat) (v : Value) (xs : List UInt8) (cs : List Value) (p : PlanD) (w : World) (h : RW w rb v xs cs) (hp : ∀ (j : Nat) (u : Value), p.cells.toList[j]? = some u → cs[j]? = some u) (hl : xs.length + (encPlan p).length ≤ 1000000) :
    Calls Tryd.prog 30 #[.pointer (some ⟨rb, 0, none⟩), .int .i64 0] w (RWPost w rb v (xs ++ encPlan p) cs) :=
  (rr_write_plan rb v xs p w h.row h.lt (fits_small hl) (h.cell 2 (by omega) (hp 0 _ rfl)) (fun k n hk => h.cell (3 + k) (by omega) (by rw [show 3 + k - 2 = k + 1 by omega]; exact hp _ _ (by rw [Array.getElem?_toList]; exact planCells_at p k n hk)))).mono fun e w' hq => h.post hq
theorem rw_stmt (rb : Nat) (v : Value) (xs : List UInt8) (cs : List Value) (p : StmtD) (w : World) (h : RW w rb v xs cs) (hp : ∀ (j : Nat) (u : Value), p.cells.toList[j]? = some u → cs[10 + j]? = some u) (hl : xs.length + (encStmt p).length ≤ 1000000) :
    Calls Tryd.prog 30 #[.pointer (some ⟨rb, 0, none⟩), .int .i64 1] w (RWPost w rb v (xs ++ encStmt p) cs) :=
  (rr_write_stmt rb v xs p w h.row h.lt (fits_small hl) (h.cell 12 (by omega) (hp 0 _ rfl)) (fun k n hk => h.cell (13 + k) (by omega) (by rw [show 13 + k - 2 = 10 + (k + 1) by omega]; exact hp _ _ (by rw [Array.getElem?_toList]; exact stmtCells_at p k n hk)))).mono fun e w' hq => h.post hq
end Go.Proofs.YtehkgcmdndehaaaDoor

