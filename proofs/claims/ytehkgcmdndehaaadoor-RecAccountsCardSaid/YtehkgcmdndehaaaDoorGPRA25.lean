/-
  A record that is read: its row, all its other cells; what its small callers leave.
-/
import Derived.Test.YtehkgcmdndehaaaDoorGPRA24
namespace Go.Proofs.YtehkgcmdndehaaaDoor
set_option linter.unusedSimpArgs false
set_option linter.unusedVariables false
open Go.RowKit

abbrev MA (w w' : World) (rb : Nat) : Prop := Mods w w' rb (fun _ => True)
/-- A record at block rb: its row is read from r on, its other cells are cs. -/
structure RR (w : World) (rb : Nat) (v : Value) (r : Re) (cs : List Value) : Prop where
  rat : ReAt w rb v r
  rng : w.rangeAt rb 2 cs
  len : cs.length = 79
  fr : ∀ o, 2 ≤ o → o < 81 → w.frozen? ⟨rb, o, none⟩ = false
  lt : rb < w.heap.size
  small : r.bs.length ≤ 1000000
def RRPost (w : World) (rb : Nat) (v : Value) (r : Re) (cs : List Value) (e : Ending) (w' : World) : Prop :=
  ∃ v', e = .returned (.tuple #[]) ∧ RR w' rb v' r cs ∧ v'.ownBlock = v.ownBlock ∧ MA w w' rb
def RRVal (w : World) (rb : Nat) (v val : Value) (r : Re) (cs : List Value) (e : Ending) (w' : World) : Prop :=
  ∃ v', e = .returned val ∧ RR w' rb v' r cs ∧ v'.ownBlock = v.ownBlock ∧ MA w w' rb
theorem RR.cell {w : World} {rb : Nat} {v u : Value} {r : Re} {cs : List Value} (h : RR w rb v r cs) (o : Nat) (ho : 2 ≤ o) (hu : cs[o - 2]? = some u) : w.cell? ⟨rb, o, none⟩ = some u := by
  have := h.rng (o - 2) u hu
  rwa [show 2 + (o - 2) = o by omega] at this
theorem RR.rds {w w' : World} {rb : Nat} {v v' : Value} {r r' : Re} {cs : List Value} (h : RR w rb v r cs) (hr : ReAt w' rb v' r') (hd : Rds w w' rb) (hl : r'.bs.length ≤ r.bs.length) : RR w' rb v' r' cs :=
  ⟨hr, fun j u hj => (hd.row _ (by omega) (by omega)).trans (h.rng j u hj), h.len, fun o h1 h2 => (hd.frz o).trans (h.fr o h1 h2), Nat.lt_of_lt_of_le h.lt hd.size, Nat.le_trans hl h.small⟩
theorem RR.below {w w' : World} {rb : Nat} {v : Value} {r : Re} {cs : List Value} (h : RR w rb v r cs) (hB : Below w.heap.size w w') : RR w' rb v r cs :=
  ⟨h.rat.of_below h.lt hB, fun j u hj => (hB.cell (p := ⟨rb, 2 + j, none⟩) h.lt).trans (h.rng j u hj), h.len, fun o h1 h2 => (hB.frozen (p := ⟨rb, o, none⟩) h.lt).trans (h.fr o h1 h2), Nat.lt_of_lt_of_le h.lt hB.size, h.small⟩
theorem RR.there {w : World} {rb : Nat} {v : Value} {r : Re} {cs : List Value} (h : RR w rb v r cs) (o n : Nat) (ho : 2 ≤ o) (hn : o + n ≤ 81) : w.there rb o n := fun j hj => by
  have hl := h.len
  have := h.cell (o + j) (by omega) (List.getElem?_eq_getElem (by omega))
  exact ⟨by rw [this]; rfl, h.fr _ (by omega) (by omega)⟩
theorem RR.range {w : World} {rb : Nat} {v : Value} {r : Re} {cs : List Value} (h : RR w rb v r cs) (o : Nat) (ho : 2 ≤ o) (vs : List Value) (hv : ∀ (j : Nat) (u : Value), vs[j]? = some u → cs[o - 2 + j]? = some u) : w.rangeAt rb o vs := fun j u hj =>
  h.cell (o + j) (by omega) (by rw [show o + j - 2 = o - 2 + j by omega]; exact hv j u hj)
theorem RR.range_in {w : World} {rb : Nat} {v : Value} {r : Re} {cs : List Value} {o : Nat} {vs : List Value} (h : RR w rb v r (wrC cs o vs)) (ho : 2 ≤ o) (hn : o - 2 + vs.length ≤ cs.length) : w.rangeAt rb o vs :=
  h.range o ho vs (fun j u hj => by rw [wrC_in _ _ _ hn j (List.getElem?_eq_some_iff.1 hj).1]; exact hj)
/-- Cells of its own are stored, new blocks are made, nothing else: as a reading call or a store leaves it. -/
theorem RR.mods {w w' : World} {rb : Nat} {v v' : Value} {r r' : Re} {cs : List Value} (h : RR w rb v r cs) (o : Nat) (vs : List Value) (ho : 2 ≤ o) (hn : o + vs.length ≤ 81) (hr : ReAt w' rb v' r') (hl : r'.bs.length ≤ r.bs.length)
    (hs : w.heap.size ≤ w'.heap.size) (hf : ∀ p, 2 ≤ p → p < 81 → w'.frozen? ⟨rb, p, none⟩ = w.frozen? ⟨rb, p, none⟩) (hin : w'.rangeAt rb o vs) (hout : ∀ p, 2 ≤ p → (p < o ∨ o + vs.length ≤ p) → w'.cell? ⟨rb, p, none⟩ = w.cell? ⟨rb, p, none⟩) : RR w' rb v' r' (wrC cs o vs) := by
  have hlc := h.len
  refine ⟨hr, fun j u hj => ?_, by rw [wrC_length _ _ _ (by omega)]; exact hlc, fun p h1 h2 => (hf p h1 h2).trans (h.fr p h1 h2), Nat.lt_of_lt_of_le h.lt hs, Nat.le_trans hl h.small⟩
  by_cases hi : o - 2 ≤ j ∧ j < o - 2 + vs.length
  · obtain ⟨i, rfl⟩ : ∃ i, j = o - 2 + i := ⟨j - (o - 2), by omega⟩
    rw [wrC_in _ _ _ (by omega) i (by omega)] at hj
    have := hin i u hj
    rwa [show 2 + (o - 2 + i) = o + i by omega]
  · rw [wrC_out _ _ _ (by omega) j (by omega)] at hj
    rw [hout (2 + j) (by omega) (by omega)]
    exact h.rng j u hj
theorem RR.set {w : World} {rb : Nat} {v : Value} {r : Re} {cs : List Value} (h : RR w rb v r cs) (o : Nat) (vs : List Value) (ho : 2 ≤ o) (hn : o + vs.length ≤ 81) : RR (w.setCells rb o vs) rb v r (wrC cs o vs) := by
  have hth := h.there o vs.length ho hn
  obtain ⟨k1, k2, k3, k4, k5⟩ := setCells_keeps rb vs o w
  have hm : Mods w (w.setCells rb o vs) rb (fun p => 2 ≤ p) := Mods.of_setCells vs o w (fun j hj => by omega)
  exact h.mods o vs ho hn (h.rat.mods hm (by omega) (by omega)) (Nat.le_refl _) (by rw [k4]; exact Nat.le_refl _) (fun p _ _ => World.frozen?_setCells _ _ _ _ _) (World.rangeAt_setCells_same w rb o vs hth)
    (fun p _ hp => World.cell?_setCells_out rb vs o w ⟨rb, p, none⟩ (fun _ _ => by simp only; omega))
theorem ma_setCells (w : World) (rb o : Nat) (vs : List Value) : MA w (w.setCells rb o vs) rb := Mods.of_setCells vs o w (fun _ _ => trivial)
theorem ma_rds {w w' : World} {rb : Nat} (h : Rds w w' rb) : MA w w' rb := Mods.of_rds h trivial trivial
theorem ma_below {w w' : World} {rb : Nat} (h : Below w.heap.size w w') (hb : rb < w.heap.size) : MA w w' rb := Mods.of_below h hb
theorem RR.val {w w' : World} {rb : Nat} {v val : Value} {r r' : Re} {cs : List Value} {e : Ending} (h : RR w rb v r cs) (hl : r'.bs.length ≤ r.bs.length) (hp : RePost w rb v val r' e w') : RRVal w rb v val r' cs e w' := by
  obtain ⟨v', rfl, hr, hd, ho⟩ := hp
  exact ⟨v', rfl, h.rds hr hd hl, ho, ma_rds hd⟩
theorem rr_one (rb : Nat) (v : Value) (r : Re) (cs : List Value) (w : World) (h : RR w rb v r cs) : Calls Tryd.prog 77 #[.pointer (some ⟨rb, 0, none⟩)] w (RRVal w rb v (.int .i64 r.one.1) r.one.2 cs) :=
  (rrd_one rb v r w h.rat h.lt (by have := h.small; omega)).mono fun e w' hp => h.val r.one_le hp
theorem rr_str (rb : Nat) (v : Value) (r : Re) (cs : List Value) (w : World) (h : RR w rb v r cs) : Calls Tryd.prog 76 #[.pointer (some ⟨rb, 0, none⟩)] w (RRVal w rb v (.string (strB r.str.1)) r.str.2 cs) :=
  (rrd_str rb v r w h.rat h.lt (by have := h.small; omega)).mono fun e w' hp => h.val r.str_le hp
theorem rr_fail (rb : Nat) (v : Value) (r : Re) (cs : List Value) (x : Int) (w : World) (h : RR w rb v r cs) : Calls Tryd.prog 89 #[.pointer (some ⟨rb, 0, none⟩), .int .i64 x] w (RRPost w rb v (r.fail x) cs) := by
  refine (rrd_fail rb v r x w h.rat).mono ?_
  rintro e w' ⟨rfl, hr, hd⟩
  exact ⟨v, rfl, h.rds hr hd (fail_le r x), rfl, ma_rds hd⟩
def offL (O n : Nat) : List Nat := (List.range n).map (O + ·)
theorem offL_at (O n k : Nat) : (offL O n)[k]? = if k < n then some (O + k) else none := by
  unfold offL
  rw [List.getElem?_map]
  by_cases h : k < n
  · rw [if_pos h, List.getElem?_range h]; rfl
  · rw [if_neg h, List.getElem?_eq_none (by simp; omega)]; rfl
theorem offL_mem {O n o : Nat} (h : o ∈ offL O n) : O ≤ o ∧ o < O + n := by
  unfold offL at h
  obtain ⟨i, hi, rfl⟩ := List.mem_map.1 h
  have := List.mem_range.1 hi
  omega
theorem offL_length (O n : Nat) : (offL O n).length = n := by simp [offL]
theorem offL_nodup (O n : Nat) : (offL O n).Nodup := by
  unfold offL
  rw [List.nodup_iff_pairwise_ne, List.pairwise_map]
  refine List.Pairwise.imp ?_ (List.nodup_range (n := n))
  intro a b hab e
  omega
/-- Pointers to places of the block ab, in a block from B on. -/
def Ptrs (w : World) (B ab : Nat) (offs : List Nat) (ao : Option Addr) : Prop :=
  ∀ k o, offs[k]? = some o → ∃ nb, ao = some ⟨nb, 0, none⟩ ∧ B ≤ nb ∧ nb < w.heap.size ∧ w.cell? ⟨nb, k, none⟩ = some (.pointer (some ⟨ab, o, none⟩))
theorem ptrs_of_block {w : World} {B ab nb : Nat} {offs : List Nat} {T : TypeId} (hn : B ≤ nb) (hb : w.heap[nb]? = some (.cells (offs.map fun o => Value.pointer (some ⟨ab, o, none⟩)).toArray T (0, 0))) : Ptrs w B ab offs (some ⟨nb, 0, none⟩) :=
  fun k o hk => ⟨nb, rfl, hn, (Array.getElem?_eq_some_iff.1 hb).1, by rw [cell_of_row _ _ _ _ _ _ hb]; simp [hk]⟩
/-- Numbers are read into the record's own cells. -/
theorem rr_ints (rb O n m c : Nat) (v : Value) (r : Re) (cs : List Value) (ao : Option Addr) (W wx : World) (h : RR W rb v r cs) (hB : Below W.heap.size W wx) (hm : m = n) (hO : 2 ≤ O) (hn : O + n ≤ 81) (hP : Ptrs wx W.heap.size rb (offL O n) ao) :
    Calls Tryd.prog 78 #[.pointer (some ⟨rb, 0, none⟩), .slice ao m c] wx (RRPost W rb v (Re.ints n r).2 (wrC cs O ((Re.ints n r).1.map (Value.int .i64)))) := by
  subst hm
  have hx := h.below hB
  have hlt := h.lt
  have hsz := hB.size
  refine (rrd_ints rb rb v ao (offL O m) m c r wx (offL_length O m).symm hx.rat hx.lt hx.lt (by have := h.small; omega) (by rw [offL_length]; omega) (offL_nodup O m) (fun _ o ho => by have := offL_mem ho; omega) hx.rat.apart
    (fun k o hk => by obtain ⟨nb, h1, h2, h3, h4⟩ := hP k o hk; exact ⟨nb, h1, h3, by omega, by omega, h4⟩)
    (fun o ho => by
      have := offL_mem ho
      have hl := hx.len
      exact ⟨_, hx.cell o (by omega) (List.getElem?_eq_getElem (by omega)), hx.fr o (by omega) (by omega)⟩)).mono ?_
  rintro e w' ⟨rfl, hi⟩
  obtain ⟨v', hr', ho'⟩ := hi.rd
  rw [offL_length] at hr'
  have hvals := hi.vals
  rw [offL_length] at hvals
  refine ⟨v', rfl, ?_, ho', (ma_below hB hlt).trans (Mods.of_ints hi hx.lt trivial trivial (fun _ _ => trivial))⟩
  refine hx.mods O _ hO (by rw [List.length_map, Re.ints_length]; omega) hr' (Re.ints_le m r) hi.size (fun p _ _ => hi.frz rb p hx.lt) (fun j u hj => ?_) (fun p hp hp2 => hi.keep rb p hx.lt (fun _ => by omega) (fun _ hm => by have := offL_mem hm; rw [List.length_map, Re.ints_length] at hp2; omega))
  rw [List.getElem?_map] at hj
  obtain ⟨x, hx1, hx2⟩ := Option.map_eq_some_iff.1 hj
  subst hx2
  have hjm : j < m := by have := (List.getElem?_eq_some_iff.1 hx1).1; rwa [Re.ints_length] at this
  have := hvals j (O + j) (by rw [offL_at, if_pos hjm])
  rw [this]
  simp [List.getD, hx1]
/-- Numbers are read into a block of the caller's own. -/
def PInts (W : World) (rb pb : Nat) (v : Value) (r : Re) (cs : List Value) (ns : List Int) (e : Ending) (w' : World) : Prop :=
  ∃ v', e = .returned (.tuple #[]) ∧ RR w' rb v' r cs ∧ v'.ownBlock = v.ownBlock ∧ MA W w' rb ∧ w'.rangeAt pb 0 (ns.map (Value.int .i64)) ∧ pb < w'.heap.size ∧ w'.frozen? ⟨pb, 0, none⟩ = false
theorem rr_intsP (rb pb n m c : Nat) (v : Value) (r : Re) (cs : List Value) (ao : Option Addr) (W W1 wx : World) (h : RR W rb v r cs) (hB1 : Below W.heap.size W W1) (hB : Below W1.heap.size W1 wx) (hm : m = n) (hn : n < 100) (hpb : W.heap.size ≤ pb) (hpl : pb < W1.heap.size)
    (hcs : ∀ o, o < n → ∃ u, W1.cell? ⟨pb, o, none⟩ = some u ∧ W1.frozen? ⟨pb, o, none⟩ = false) (hn0 : 0 < n) (hP : Ptrs wx W1.heap.size pb (offL 0 n) ao) :
    Calls Tryd.prog 78 #[.pointer (some ⟨rb, 0, none⟩), .slice ao m c] wx (PInts W rb pb v (Re.ints n r).2 cs (Re.ints n r).1) := by
  subst hm
  have hx1 := h.below hB1
  have hx := hx1.below hB
  have hlt := h.lt
  have hs1 := hB1.size
  have hsz := hB.size
  have hvp : v.ownBlock ≠ some pb := fun e => by
    have := reads_own_lt h.rat.reads _ e
    omega
  refine (rrd_ints rb pb v ao (offL 0 m) m c r wx (offL_length 0 m).symm hx.rat hx.lt (by omega) (by have := h.small; omega) (by rw [offL_length]; omega) (offL_nodup 0 m) (fun e => by omega) hvp
    (fun k o hk => by obtain ⟨nb, h1, h2, h3, h4⟩ := hP k o hk; exact ⟨nb, h1, h3, by omega, by omega, h4⟩)
    (fun o ho => by
      have := offL_mem ho
      obtain ⟨u, h1, h2⟩ := hcs o (by omega)
      exact ⟨u, (hB.cell (p := ⟨pb, o, none⟩) hpl).trans h1, (hB.frozen (p := ⟨pb, o, none⟩) hpl).trans h2⟩)).mono ?_
  rintro e w' ⟨rfl, hi⟩
  obtain ⟨v', hr', ho'⟩ := hi.rd
  rw [offL_length] at hr'
  have hvals := hi.vals
  rw [offL_length] at hvals
  have hbel := hB1.trans (hB.mono hs1)
  refine ⟨v', rfl, ⟨hr', fun j u hj => (hi.keep rb (2 + j) hx.lt (fun _ => by omega) (fun e => by omega)).trans (hx.rng j u hj), hx.len, fun p h1 h2 => (hi.frz rb p hx.lt).trans (hx.fr p h1 h2), Nat.lt_of_lt_of_le hx.lt hi.size, Nat.le_trans (Re.ints_le m r) hx.small⟩, ho', ?_, fun j u hj => ?_, by have := hi.size; omega, ?_⟩
  · have hbs := hbel.size
    exact ⟨hi.os.trans hbel.os, hi.tape.trans hbel.tape, hi.output.trans hbel.output, Nat.le_trans hbel.size hi.size, fun k hk hr => (hi.block k (by omega) hr (by omega)).trans (hbel.block k hk), fun _ h => absurd trivial h, fun o => (hi.frz rb o hx.lt).trans (hbel.frozen (p := ⟨rb, o, none⟩) hlt)⟩
  · rw [List.getElem?_map] at hj
    obtain ⟨x, hx2, hx3⟩ := Option.map_eq_some_iff.1 hj
    subst hx3
    have hjm : j < m := by have := (List.getElem?_eq_some_iff.1 hx2).1; rwa [Re.ints_length] at this
    have := hvals j (0 + j) (by rw [offL_at, if_pos hjm])
    rw [this]
    simp [List.getD, hx2]
  · rw [hi.frz pb 0 (by omega), hB.frozen (p := ⟨pb, 0, none⟩) hpl]
    obtain ⟨u, h1, h2⟩ := hcs 0 hn0
    exact h2
end Go.Proofs.YtehkgcmdndehaaaDoor

