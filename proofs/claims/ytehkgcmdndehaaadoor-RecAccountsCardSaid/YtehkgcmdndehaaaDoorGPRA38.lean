/-
  Lists that the document's readers build: what stands while they grow. No function in sight.
-/
import Derived.Test.YtehkgcmdndehaaaDoorGPRA37
import Derived.Test.YtehkgcmdndehaaaDoorGPRA32
namespace Go.Proofs.YtehkgcmdndehaaaDoor
set_option linter.unusedSimpArgs false
set_option linter.unusedVariables false
open Go.RowKit

/-- Of what there was, the blocks xb and tb alone may have changed. -/
structure MX (w w' : World) (xb tb : Nat) : Prop where
  size : w.heap.size ≤ w'.heap.size
  block : ∀ k, k < w.heap.size → k ≠ xb → k ≠ tb → w'.heap[k]? = w.heap[k]?
theorem MX.refl (w : World) (xb tb : Nat) : MX w w xb tb := ⟨Nat.le_refl _, fun _ _ _ _ => rfl⟩
theorem MX.trans {w w1 w2 : World} {xb tb : Nat} (h : MX w w1 xb tb) (k : MX w1 w2 xb tb) : MX w w2 xb tb :=
  ⟨Nat.le_trans h.size k.size, fun j hj h1 h2 => (k.block j (Nat.lt_of_lt_of_le hj h.size) h1 h2).trans (h.block j hj h1 h2)⟩
theorem MX.of {w w' : World} {xb tb : Nat} (h : RefG w w' xb) : MX w w' xb tb := ⟨h.size, fun k hk h1 _ => h.block k hk h1⟩
theorem MX.set (w : World) (xb tb o : Nat) (v : Value) : MX w (w.setCell ⟨tb, o, none⟩ v) xb tb := ⟨by simp [World.setCell], fun k _ _ hk => Below.heap_setCell _ _ _ _ hk⟩
theorem MX.blk {w w' : World} {xb tb b : Nat} {T : TypeId} {cs : Array Value} (h : Blk w b T cs) (m : MX w w' xb tb) (h1 : b ≠ xb) (h2 : b ≠ tb) : Blk w' b T cs := (m.block b h.lt h1 h2).trans h
theorem Items.mx {w w' : World} {xb tb B n : Nat} {v : Value} {xs : List (List Value)} (h : Items w v n xs) (m : MX w w' xb tb) (hf : Fr B v) (hx : xb < B) (ht : tb < B) : Items w' v n xs :=
  h.of_block m.size (fun k hk hlt => m.block k hlt (fun e => by have := hf k (live_own hk); omega) (fun e => by have := hf k (live_own hk); omega))
theorem OwnI.mx {w w' : World} {xb tb B n : Nat} {E : TypeId} {v : Value} {xs : List (List Value)} (h : OwnI w B E n v xs) (m : MX w w' xb tb) (hx : xb < B) (ht : tb < B) : OwnI w' B E n v xs :=
  h.of_block (fun k hk hlt => m.block k hlt (fun e => by have := h.base k hk; omega) (fun e => by have := h.base k hk; omega))
theorem AccOut.mx {w w' : World} {xb tb B : Nat} {a : AccD} {lv hv wv : Value} {hs : List (HoldD × Value)} (h : AccOut w B a lv hv wv hs) (m : MX w w' xb tb) (hx : xb < B) (ht : tb < B) : AccOut w' B a lv hv wv hs :=
  ⟨h.lots.mx m h.nl hx ht, ⟨h.holds.1.mx m h.nh hx ht, fun x hx' => Items.mx (h.holds.2 x hx') m (h.np x hx') hx ht⟩, h.heq, h.win.mx m h.nw hx ht, h.nl, h.nh, h.nw, h.np⟩

/-- A round of a loop: an element's block is filled, the reader goes on. -/
structure LS (w wr W : World) (xb eb : Nat) (bv : Value) (zs : List UInt8) (q : Re) (ET : TypeId) (ec : Array Value) : Prop where
  rd : Rdg w W xb bv zs q
  ebk : Blk W eb ET ec
  g : RefG wr W xb
  lo : wr.heap.size ≤ eb
  ne : eb ≠ xb
  le : w.heap.size ≤ wr.heap.size
theorem RefG.over {w W W' : World} {xb b : Nat} (h : RefG w W xb) (hb : w.heap.size ≤ b) (ho : W'.os = W.os) (ht : W'.tape = W.tape) (hu : W'.output = W.output) (hs : W.heap.size ≤ W'.heap.size) (hk : ∀ k, k < W.heap.size → k ≠ b → W'.heap[k]? = W.heap[k]?) : RefG w W' xb :=
  ⟨ho.trans h.os, ht.trans h.tape, hu.trans h.output, Nat.le_trans h.size hs, fun k h1 h2 => (hk k (Nat.lt_of_lt_of_le h1 h.size) (by omega)).trans (h.block k h1 h2)⟩
theorem LS.new {w wr u : World} {xb : Nat} {bv : Value} {zs : List UInt8} {q : Re} (ET : TypeId) (ec : Array Value) (hr : Rdg w u xb bv zs q) (hg : RefG wr u xb) (hx : xb < wr.heap.size) (hl : w.heap.size ≤ wr.heap.size) : LS w wr (u.alloc (.cells ec ET)) xb u.heap.size bv zs q ET ec :=
  ⟨hr.below (below_alloc _ _), Blk.new _ _ _, hg.trans (RefG.of_below (below_alloc _ _)), hg.size, by have := hg.size; omega, hl⟩
theorem LS.put {w wr W u : World} {xb eb : Nat} {bv : Value} {zs : List UInt8} {q q' : Re} {ET : TypeId} {ec : Array Value} (h : LS w wr W xb eb bv zs q ET ec) (hr : Rdg w u xb bv zs q') (hg : RefG W u xb) (o : Nat) (v : Value) (ho : o < ec.size) :
    LS w wr (u.setCell ⟨eb, o, none⟩ v) xb eb bv zs q' ET (ec.setIfInBounds o v) :=
  ⟨hr.set (by have := h.lo; have := h.le; omega) v, (h.ebk.grow hg h.ne).set v ho, (h.g.trans hg).over h.lo rfl rfl rfl (by simp [World.setCell]) (fun k _ hk => Below.heap_setCell _ _ _ _ hk), h.lo, h.ne, h.le⟩
theorem LS.cell {w wr W : World} {xb eb : Nat} {bv : Value} {zs : List UInt8} {q : Re} {ET : TypeId} {ec : Array Value} (h : LS w wr W xb eb bv zs q ET ec) (o : Nat) : W.cell? ⟨eb, o, none⟩ = ec[o]? := h.ebk.cell o
/-- A list is read into cell ci of block tb, so far. -/
structure LA (w wa wx : World) (xb tb : Nat) (bv : Value) (zs : List UInt8) (TT : TypeId) (c0 : Array Value) (ci : Nat) (E : TypeId) (n : Nat) (xs : List (List Value)) (q : Re) (uv : Value) : Prop where
  rd : Rdg w wx xb bv zs q
  tbk : Blk wx tb TT (c0.setIfInBounds ci uv)
  mx : MX wa wx xb tb
  own : OwnI wx wa.heap.size E n uv xs
  len : xs.length ≤ 255
theorem LA.app {w wa wr W6 wb w8 : World} {xb tb eb ci n : Nat} {bv uv v' : Value} {zs : List UInt8} {TT E ET : TypeId} {c0 ec : Array Value} {xs : List (List Value)} {x : List Value} {q q6 : Re} (h : LA w wa wr xb tb bv zs TT c0 ci E n xs q uv) (hl : LS w wr W6 xb eb bv zs q6 ET ec)
    (hxa : xb < wa.heap.size) (hta : tb < wa.heap.size) (htw : w.heap.size ≤ tb) (htx : tb ≠ xb) (hci : ci < c0.size) (hxs : xs.length < 255) (hxn : x.length = n)
    (hB : Below W6.heap.size W6 wb) (hgrow : wb.grownBy w8 uv.ownBlock) (hown8 : w8.ownsRow wa.heap.size E n v' (xs.length + 1) (xs.flatten ++ x)) :
    LA w wa (w8.setCell ⟨tb, ci, none⟩ v') xb tb bv zs TT c0 ci E n (xs ++ [x]) q6 v' := by
  have hub : ∀ k, uv.ownBlock = some k → wa.heap.size ≤ k ∧ k < wr.heap.size := fun k hk => h.own.base k hk
  have hvb : ∀ k, v'.ownBlock = some k → wa.heap.size ≤ k := fun k hk => (hown8.lt k hk).1
  have hg6 := hl.g.size
  have hma := h.mx.size
  have hB6 := hB.size
  have hblk : ∀ k, k < wb.heap.size → uv.ownBlock ≠ some k → w8.heap[k]? = wb.heap[k]? := fun k hk hu => hgrow.block k hk (fun e => hu e.symm)
  have r8 : Rdg w w8 xb bv zs q6 := by
    have rb := hl.rd.below hB
    cases hu : uv.ownBlock with
    | none => exact rb.turn htw hgrow.os hgrow.tape hgrow.output hgrow.size (fun k hk _ => hblk k hk (by rw [hu]; simp))
    | some g => exact rb.turn (b := g) (by have := (hub g hu).1; omega) hgrow.os hgrow.tape hgrow.output hgrow.size (fun k hk hne => hblk k hk (by rw [hu]; simp; omega))
  have t6 : Blk W6 tb TT (c0.setIfInBounds ci uv) := h.tbk.grow hl.g htx
  have t8 : Blk w8 tb TT (c0.setIfInBounds ci uv) := (hblk tb (by omega) (fun e => by have := (hub _ e).1; omega)).trans ((hB.block tb (by omega)).trans t6)
  refine ⟨r8.set htw v', ?_, ?_, h.own.add hxn hown8 (fun e => by have := hvb _ e; omega) _, by simp; omega⟩
  · have := t8.set (o := ci) v' (by simpa using hci)
    rwa [Array.setIfInBounds_setIfInBounds] at this
  · refine ⟨by simp [World.setCell]; have := hgrow.size; omega, fun k hk h1 h2 => ?_⟩
    rw [Below.heap_setCell _ _ _ _ h2, hblk k (by omega) (fun e => by have := (hub _ e).1; omega), hB.block k (by omega), hl.g.block k (by omega) h1]
    exact h.mx.block k hk h1 h2
theorem LS.of_la {w wr W wa wx : World} {xb eb ci n : Nat} {bv uv : Value} {zs : List UInt8} {q q0 q' : Re} {ET E : TypeId} {ec : Array Value} {xs : List (List Value)} (h : LS w wr W xb eb bv zs q ET ec) (hg : RefG W wa xb) (hr0 : Rdg w wr xb bv zs q0) (a : LA w wa wx xb eb bv zs ET ec ci E n xs q' uv) :
    LS w wr wx xb eb bv zs q' ET (ec.setIfInBounds ci uv) := by
  have h1 := h.g.trans hg
  have h2 := h1.size
  have h3 := h.lo
  refine ⟨a.rd, a.tbk, ⟨a.rd.grow.os.trans hr0.grow.os.symm, a.rd.grow.tape.trans hr0.grow.tape.symm, a.rd.grow.output.trans hr0.grow.output.symm, Nat.le_trans h2 a.mx.size, fun k hk hx => ?_⟩, h.lo, h.ne, h.le⟩
  exact (a.mx.block k (by omega) hx (by omega)).trans (h1.block k hk hx)
/-- The holds that were read: each one's parts lie in a block of their own. -/
def HXs (w : World) (base : Nat) (hs : List (HoldD × Value)) (ps : List HoldD) (uv : Value) : Prop :=
  hs.map (·.1) = ps ∧ ∀ h ∈ hs, RdParts w h.2 h.1.parts ∧ Fr base h.2 ∧ ∀ k, liveB h.2 = some k → uv.ownBlock ≠ some k
theorem HXs.nil (w : World) (base : Nat) (uv : Value) : HXs w base [] [] uv := ⟨rfl, fun _ h => by cases h⟩
theorem HXs.app {wr We w8 : World} {o : Obj} {base xb tb ci g' n cap : Nat} {hs : List (HoldD × Value)} {ps : List HoldD} {pd : HoldD} {uv pv v : Value} (h : HXs wr base hs ps uv) (hx : xb < base) (ht : tb < base) (hbw : base ≤ wr.heap.size) (hu : ∀ k, uv.ownBlock = some k → k < wr.heap.size) (g : RefG wr We xb)
    (hpv : RdParts We pv pd.parts) (hpf : Fr wr.heap.size pv) (hgrow : (We.alloc o).grownBy w8 uv.ownBlock) (hg : uv.ownBlock = some g' ∨ g' = We.heap.size + 1) :
    HXs (w8.setCell ⟨tb, ci, none⟩ v) base (hs ++ [(pd, pv)]) (ps ++ [pd]) (.slice (some ⟨g', 0, none⟩) n cap) := by
  have hgs := g.size
  have hs8 := hgrow.size
  have hsA : (We.alloc o).heap.size = We.heap.size + 1 := by simp
  have hblk : ∀ k, k < We.heap.size → uv.ownBlock ≠ some k → k ≠ tb → (w8.setCell ⟨tb, ci, none⟩ v).heap[k]? = We.heap[k]? := fun k hk hu2 h2 => by
    rw [Below.heap_setCell _ _ _ _ h2, hgrow.block k (by omega) (fun e => hu2 e.symm), (below_alloc We o).block k hk]
  have hsz : We.heap.size ≤ (w8.setCell ⟨tb, ci, none⟩ v).heap.size := by simp [World.setCell]; omega
  refine ⟨by rw [List.map_append, h.1]; rfl, fun y hy => ?_⟩
  rcases List.mem_append.1 hy with hy | hy
  · obtain ⟨h1, h2, h3⟩ := h.2 y hy
    have hlt := h1.own_lt
    refine ⟨Items.of_block h1 (by omega) (fun k hk hlt2 => ?_), h2, fun k hk e => ?_⟩
    · have := h2 k (live_own hk)
      rw [hblk k (by omega) (h3 k hk) (by omega)]
      exact g.block k hlt2 (by omega)
    · have hkl := hlt k hk
      have e2 : g' = k := by simpa [Value.ownBlock] using e
      rcases hg with hg | hg
      · exact h3 k hk (by rw [hg, e2])
      · omega
  · simp only [List.mem_singleton] at hy
    subst hy
    have hlt := hpv.own_lt
    refine ⟨Items.of_block hpv (by omega) (fun k hk hlt2 => ?_), fun k hk => by have := hpf k hk; omega, fun k hk e => ?_⟩
    · have hpk := hpf k (live_own hk)
      exact hblk k hlt2 (fun e => by have := hu k e; omega) (by omega)
    · have hkl := hlt k hk
      have hpk := hpf k (live_own hk)
      have e2 : g' = k := by simpa [Value.ownBlock] using e
      rcases hg with hg | hg
      · have := hu g' hg; omega
      · omega
theorem HXs.mx {w w' : World} {xb tb B : Nat} {hs : List (HoldD × Value)} {ps : List HoldD} {uv : Value} (h : HXs w B hs ps uv) (m : MX w w' xb tb) (hx : xb < B) (ht : tb < B) : HXs w' B hs ps uv :=
  ⟨h.1, fun y hy => ⟨Items.mx (h.2 y hy).1 m (h.2 y hy).2.1 hx ht, (h.2 y hy).2⟩⟩
theorem ok_many {α : Type} (f : Re → α × Re) (hf : ∀ r, OkE r → OkE (f r).2) : ∀ n r, OkE r → OkE (manyRd f n r).2
  | 0, r, h => h
  | n + 1, r, h => by
    unfold manyRd
    split
    · exact ok_many f hf n _ (hf r h)
    · exact h
theorem LS.puts {w wr W u : World} {xb eb : Nat} {bv : Value} {zs : List UInt8} {q q' : Re} {ET : TypeId} {ec : Array Value} (h : LS w wr W xb eb bv zs q ET ec) (hr : Rdg w u xb bv zs q') (hg : RefG W u xb) (o : Nat) (vs : List Value) (ho : o + vs.length ≤ ec.size) :
    ∃ cs', LS w wr (u.setCells eb o vs) xb eb bv zs q' ET cs' ∧ cs'.size = ec.size ∧ (∀ j : Nat, j < vs.length → cs'[o + j]? = vs[j]?) ∧ ∀ j : Nat, (j < o ∨ o + vs.length ≤ j) → cs'[j]? = ec[j]? := by
  obtain ⟨cs', k1, k2, k3, k4⟩ := Blk.setCells (W := u) vs o (h.ebk.grow hg h.ne) ho
  obtain ⟨h1, h2, h3, h4, h5⟩ := setCells_keeps eb vs o u
  exact ⟨cs', ⟨hr.setCells (by have := h.lo; have := h.le; omega) _ _, k1, (h.g.trans hg).over h.lo h1 h2 h3 (by rw [h4]; exact Nat.le_refl _) (fun k _ hk => h5 k hk), h.lo, h.ne, h.le⟩, k2, k3, k4⟩
theorem MX.setRow (w : World) (xb tb : Nat) (cs : Array Value) : MX w (w.setRow tb cs) xb tb := ⟨by simp, fun k _ _ hk => setRow_other _ _ _ _ hk⟩
theorem set_ans_cells (id : Int) (an a0 : AnsD) (cs : Array Value) (h : cs.size = 14) (h1 : ∀ j : Nat, j < 13 → cs[1 + j]? = an.cells.toList[j]?) (h2 : ∀ j : Nat, (j < 1 ∨ 1 + 13 ≤ j) → cs[j]? = (EntryD.mk id a0).cells[j]?) : cs = (EntryD.mk id an).cells := by
  apply Array.ext_getElem?
  intro i
  match i with
  | 0 => rw [h2 0 (by omega)]; rfl
  | 1 => exact (h1 0 (by omega)).trans rfl
  | 2 => exact (h1 1 (by omega)).trans rfl
  | 3 => exact (h1 2 (by omega)).trans rfl
  | 4 => exact (h1 3 (by omega)).trans rfl
  | 5 => exact (h1 4 (by omega)).trans rfl
  | 6 => exact (h1 5 (by omega)).trans rfl
  | 7 => exact (h1 6 (by omega)).trans rfl
  | 8 => exact (h1 7 (by omega)).trans rfl
  | 9 => exact (h1 8 (by omega)).trans rfl
  | 10 => exact (h1 9 (by omega)).trans rfl
  | 11 => exact (h1 10 (by omega)).trans rfl
  | 12 => exact (h1 11 (by omega)).trans rfl
  | 13 => exact (h1 12 (by omega)).trans rfl
  | i + 14 => rw [Array.getElem?_eq_none (by omega), Array.getElem?_eq_none (by show 14 ≤ _; omega)]
attribute [local irreducible] Re.ints manyRd Re.one Re.str
theorem ok_lot (r : Re) (h : OkE r) : OkE (lotRd r).2 := ok_ints 9 h
theorem ok_part (r : Re) (h : OkE r) : OkE (partRd r).2 := ok_ints 2 h
theorem ok_hold (r : Re) (h : OkE r) : OkE (holdRd r).2 := by
  rw [holdRd_eq]
  exact ok_ints 2 (ok_many partRd ok_part _ _ (ok_one (ok_ints 1 h)))
theorem ok_lots (r : Re) (h : OkE r) : OkE (lotsRd r).2 := ok_many lotRd ok_lot _ _ (ok_one h)
theorem ok_holds (r : Re) (h : OkE r) : OkE (holdsRd r).2 := ok_many holdRd ok_hold _ _ (ok_one h)
end Go.Proofs.YtehkgcmdndehaaaDoor

