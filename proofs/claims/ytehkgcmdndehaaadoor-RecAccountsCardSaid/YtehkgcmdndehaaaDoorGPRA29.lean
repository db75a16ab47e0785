/- Part of the proof: merged texts. -/
import Derived.Test.YtehkgcmdndehaaaDoorGPRA27
import Derived.Test.YtehkgcmdndehaaaDoorGPRA28
namespace Go.Proofs.YtehkgcmdndehaaaDoor
set_option linter.unusedSimpArgs false
set_option linter.unusedVariables false
open Go.RowKit

theorem wrC_self (cs : List Value) (o : Nat) (vs : List Value) (h : o - 2 + vs.length ≤ cs.length) (hv : ∀ (j : Nat) (u : Value), vs[j]? = some u → cs[o - 2 + j]? = some u) : wrC cs o vs = cs := by
  apply List.ext_getElem?
  intro j
  by_cases hi : o - 2 ≤ j ∧ j < o - 2 + vs.length
  · obtain ⟨i, rfl⟩ : ∃ i, j = o - 2 + i := ⟨j - (o - 2), by omega⟩
    rw [wrC_in _ _ _ h i (by omega)]
    have hg : vs[i]? = some (vs[i]'(by omega)) := List.getElem?_eq_getElem (by omega)
    rw [hg, hv i _ hg]
  · rw [wrC_out _ _ _ h j (by omega)]
theorem news_row (w : World) (cs : Array Value) (E : TypeId) : ∀ (j : Nat) (u : Value), cs.toList[j]? = some u → (w.alloc (.cells cs E)).cell? ((⟨w.heap.size, 0, none⟩ : Addr).add j) = some u := by
  intro j u hj
  rw [Addr.add_lit, cell_of_row _ _ _ _ _ _ (heap_alloc_new w (.cells cs E)), Nat.zero_add]
  simpa using hj
theorem one_cells_mem {cs : Array Value} (h : cs.all (·.oneCell') = true) : ∀ u ∈ cs.toList, u.oneCell' = true := by
  rw [Array.all_eq_true_iff_forall_mem] at h
  exact fun u hu => h u (by simpa using hu)
/-- Behind an append to a slice of its own and the store of its value into one of the record's cells. -/
theorem RR.app {w wa w1 : World} {rb : Nat} {v uv : Value} {r : Re} {cs : List Value} (h : RR w rb v r cs) (ha : Below w.heap.size w wa) (hg : wa.grownBy w1 uv.ownBlock) (hu : uv.ownBlock ≠ some rb) (huv : ∀ k, uv.ownBlock = some k → v.ownBlock ≠ some k) (v' : Value) (o : Nat) (ho : 2 ≤ o) (ho2 : o < 81) :
    RR (w1.setCell ⟨rb, o, none⟩ v') rb v r (wrC cs o [v']) := by
  have hlt := h.lt
  have hsa := ha.size
  have hsg := hg.size
  have hblk : ∀ k, k < w.heap.size → uv.ownBlock ≠ some k → w1.heap[k]? = w.heap[k]? := fun k hk hv => (hg.block k (by omega) (fun e => hv e.symm)).trans (ha.block k hk)
  have hrb : w1.heap[rb]? = w.heap[rb]? := hblk rb hlt hu
  have hc : ∀ p, w1.cell? ⟨rb, p, none⟩ = w.cell? ⟨rb, p, none⟩ := fun p => World.cell?_of_block (a := ⟨rb, p, none⟩) hrb
  have hf : ∀ p, w1.frozen? ⟨rb, p, none⟩ = w.frozen? ⟨rb, p, none⟩ := fun p => World.frozen?_of_block (a := ⟨rb, p, none⟩) hrb
  have hr1 : ReAt w1 rb v r := ⟨(hc 0).trans h.rat.c0, (hc 1).trans h.rat.c1, (hf 0).trans h.rat.f0, (hf 1).trans h.rat.f1, by
    rcases h.rat.reads with hh | ⟨b, off, cap, rfl, hcap, hb, hx⟩
    · exact .inl hh
    · exact .inr ⟨b, off, cap, rfl, hcap, by omega, fun i x hi => (World.cell?_of_block (a := ⟨b, off + i, none⟩) (hblk b hb (fun e => huv b e rfl))).trans (hx i x hi)⟩, h.rat.apart⟩
  refine h.mods o [v'] ho (by simp; omega) (hr1.set (fun e => by cases e; omega) (fun e => by cases e; omega) h.rat.apart) (Nat.le_refl _) (by simp [World.setCell]; omega) (fun p _ _ => by simp only [World.frozen?_setCell]; exact hf p) (fun j u hj => ?_) (fun p _ hp => ?_)
  · match j, hj with
    | 0, hj =>
      cases hj
      have hl := h.len
      have := h.cell o ho (List.getElem?_eq_getElem (by omega))
      exact cell_set_same ((hc o).trans this)
    | j + 1, hj => simp at hj
  · rw [cell_set_ne (fun e => by cases e; simp at hp; omega)]
    exact hc p
theorem ma_app {w0 w wa w1 : World} {rb : Nat} {uv v' : Value} {o : Nat} (hm : MA w0 w rb) (ha : Below w.heap.size w wa) (hg : wa.grownBy w1 uv.ownBlock) (hb : ∀ k, uv.ownBlock = some k → w0.heap.size ≤ k) (hu : uv.ownBlock ≠ some rb) (hlt : rb < w.heap.size) : MA w0 (w1.setCell ⟨rb, o, none⟩ v') rb := by
  have hs := hm.size
  have hsa := ha.size
  have hsg := hg.size
  refine ⟨hg.os.trans (ha.os.trans hm.os), hg.tape.trans (ha.tape.trans hm.tape), hg.output.trans (ha.output.trans hm.output), by simp [World.setCell]; omega, fun k hk hr => ?_, fun _ h => absurd trivial h, fun p => ?_⟩
  · rw [Below.heap_setCell _ _ _ _ hr]
    exact ((hg.block k (by omega) (fun e => by have := hb k e.symm; omega)).trans (ha.block k (by omega))).trans (hm.block k hk hr)
  · simp only [World.frozen?_setCell]
    rw [World.frozen?_of_block (a := ⟨rb, p, none⟩) ((hg.block rb (by omega) (fun e => hu e.symm)).trans (ha.block rb hlt))]
    exact hm.frz p
/-- A slice of rows of n cells that the call itself has made, from block base on. -/
def OwnI (w : World) (base : Nat) (E : TypeId) (n : Nat) (v : Value) (items : List (List Value)) : Prop := w.ownsRow base E n v items.length items.flatten ∧ ∀ x ∈ items, x.length = n
theorem OwnI.nil (w : World) (base : Nat) (E : TypeId) (n : Nat) : OwnI w base E n (.slice none 0 0) [] := ⟨World.ownsRow_nil _ _ _ _, fun _ h => by cases h⟩
theorem flatten_at {n : Nat} : ∀ (items : List (List Value)) (i : Nat) (x : List Value), (∀ x ∈ items, x.length = n) → items[i]? = some x → ∀ (j : Nat) (u : Value), x[j]? = some u → items.flatten[i * n + j]? = some u
  | [], _, _, _, h, _, _, _ => by simp at h
  | y :: r, 0, x, hl, h, j, u, hj => by
    simp at h; subst h
    rw [List.flatten_cons, List.getElem?_append_left (by have := (List.getElem?_eq_some_iff.1 hj).1; omega)]
    rw [show 0 * n + j = j by omega]
    exact hj
  | y :: r, i + 1, x, hl, h, j, u, hj => by
    have hy := hl y (by simp)
    rw [List.flatten_cons, List.getElem?_append_right (by rw [hy, Nat.succ_mul]; omega), hy, show (i + 1) * n + j - n = i * n + j by rw [Nat.succ_mul]; omega]
    exact flatten_at r i x (fun z hz => hl z (by simp [hz])) (by simpa using h) j u hj
theorem OwnI.items {w : World} {base : Nat} {E : TypeId} {n : Nat} {v : Value} {xs : List (List Value)} (h : OwnI w base E n v xs) : Items w v n xs := by
  rcases h.1.2 with ⟨rfl, h0⟩ | ⟨g, cap, cur, rfl, _, hg, hn, hm, hs, ht⟩
  · exact .inl ⟨List.eq_nil_of_length_eq_zero h0, none, 0, rfl⟩
  · refine .inr ⟨g, 0, cap, rfl, hn, (Array.getElem?_eq_some_iff.1 hg).1, fun i x hx => ⟨h.2 x (List.mem_of_getElem? hx), fun j u hj => ?_⟩⟩
    have hf := flatten_at xs i x h.2 hx j u hj
    rw [Nat.zero_add, cell_of_row w g _ cur _ _ hg]
    rw [← ht, List.getElem?_take] at hf
    split at hf
    · simpa using hf
    · cases hf
theorem OwnI.of_block {w w' : World} {base : Nat} {E : TypeId} {n : Nat} {v : Value} {xs : List (List Value)} (h : OwnI w base E n v xs) (hb : ∀ k, v.ownBlock = some k → k < w.heap.size → w'.heap[k]? = w.heap[k]?) : OwnI w' base E n v xs := by
  refine ⟨⟨h.1.1, ?_⟩, h.2⟩
  rcases h.1.2 with h0 | ⟨g, cap, cur, rfl, hbg, hg, rest⟩
  · exact .inl h0
  · exact .inr ⟨g, cap, cur, rfl, hbg, (hb g rfl (Array.getElem?_eq_some_iff.1 hg).1).trans hg, rest⟩
theorem OwnI.ma {w w' : World} {rb base : Nat} {E : TypeId} {n : Nat} {v : Value} {xs : List (List Value)} (h : OwnI w base E n v xs) (hm : MA w w' rb) (hr : v.ownBlock ≠ some rb) : OwnI w' base E n v xs :=
  h.of_block (fun k hk hlt => hm.block k hlt (fun e => hr (e ▸ hk)))
theorem OwnI.base {w : World} {base : Nat} {E : TypeId} {n : Nat} {v : Value} {xs : List (List Value)} (h : OwnI w base E n v xs) : ∀ k, v.ownBlock = some k → base ≤ k ∧ k < w.heap.size := fun k hk => h.1.lt k hk
theorem OwnI.add {w w1 : World} {rb base : Nat} {E : TypeId} {n o : Nat} {v v' : Value} {xs : List (List Value)} {x : List Value} (h : OwnI w base E n v xs) (hx : x.length = n) (hown : w1.ownsRow base E n v' (xs.length + 1) (xs.flatten ++ x)) (hr : v'.ownBlock ≠ some rb) (u : Value) : OwnI (w1.setCell ⟨rb, o, none⟩ u) base E n v' (xs ++ [x]) := by
  refine ⟨?_, fun y hy => ?_⟩
  · have := ownsRow_setCell_other hown (a := ⟨rb, o, none⟩) hr u
    simpa using this
  · rcases List.mem_append.1 hy with hy | hy
    · exact h.2 y hy
    · simp at hy; subst hy; exact hx
theorem infoPart : (Tryd.prog.info? 86).map (fun i => (i.zero, i.size, i.bytes)) = some (some (.agg #[.int .i64 0, .int .i64 0]), 2, 16) := by kernel_rfl
def partsC (ps : List PartD) : List (List Value) := ps.map (·.cells.toList)
attribute [local irreducible] Re.ints Re.str manyRd Re.one ansRd tailRd
/-- What reading a hold leaves. -/
def PartsAt (w0 : World) (rb : Nat) (v0 : Value) (c4 : List Value) (p : List PartD × Re) (wx : World) : Prop :=
  ∃ vr uv, RR wx rb vr p.2 (wrC c4 44 [uv]) ∧ vr.ownBlock = v0.ownBlock ∧ MA w0 wx rb ∧ OwnI wx w0.heap.size 86 2 uv (partsC p.1) ∧ p.1.length ≤ 255
def HoldRdPost (w : World) (rb : Nat) (v : Value) (r : Re) (cs : List Value) (e : Ending) (w' : World) : Prop :=
  ∃ v' cs' pv, e = .returned (.tuple #[]) ∧ RR w' rb v' (holdRd r).2 cs' ∧ v'.ownBlock = v.ownBlock ∧ MA w w' rb ∧ (∀ (j : Nat) (u : Value), ((holdRd r).1.cells pv).toList[j]? = some u → cs'[41 + j]? = some u) ∧ (∀ j : Nat, 45 ≤ j → cs'[j]? = cs[j]?) ∧ OwnI w' w.heap.size 86 2 pv (partsC (holdRd r).1.parts)
theorem holdRd_eq (r : Re) : holdRd r = (⟨(Re.ints 1 r).1.getD 0 0, (manyRd partRd (Re.ints 1 r).2.one.1.toNat (Re.ints 1 r).2.one.2).1, (Re.ints 2 (manyRd partRd (Re.ints 1 r).2.one.1.toNat (Re.ints 1 r).2.one.2).2).1.getD 0 0, (Re.ints 2 (manyRd partRd (Re.ints 1 r).2.one.1.toNat (Re.ints 1 r).2.one.2).2).1.getD 1 0⟩, (Re.ints 2 (manyRd partRd (Re.ints 1 r).2.one.1.toNat (Re.ints 1 r).2.one.2).2).2) := rfl
theorem partRd_eq (r : Re) : partRd r = (⟨(Re.ints 2 r).1.getD 0 0, (Re.ints 2 r).1.getD 1 0⟩, (Re.ints 2 r).2) := rfl
theorem part_new (w : World) (T : TypeId) (o : Nat) (ho : o < 2) : ∃ u, (w.alloc (.cells #[.int .i64 0, .int .i64 0] T)).cell? ⟨w.heap.size, o, none⟩ = some u ∧ (w.alloc (.cells #[.int .i64 0, .int .i64 0] T)).frozen? ⟨w.heap.size, o, none⟩ = false := by
  refine ⟨.int .i64 0, ?_, frozen_of_row _ _ _ _ _ (heap_alloc_new _ _)⟩
  rw [cell_of_row _ _ _ _ _ _ (heap_alloc_new _ _)]
  match o, ho with
  | 0, _ => rfl
  | 1, _ => rfl
theorem two_map (l : List Int) (h : l.length = 2) : l.map (Value.int .i64) = (PartD.mk (l.getD 0 0) (l.getD 1 0)).cells.toList := by
  match l, h with
  | [a, b], _ => rfl
theorem one_map (l : List Int) (h : l.length = 1) : l.map (Value.int .i64) = [.int .i64 (l.getD 0 0)] := by
  match l, h with
  | [a], _ => rfl
theorem two_map' (l : List Int) (h : l.length = 2) : l.map (Value.int .i64) = [.int .i64 (l.getD 0 0), .int .i64 (l.getD 1 0)] := by
  match l, h with
  | [a, b], _ => rfl

set_option maxHeartbeats 3200000 in
set_option maxRecDepth 100000 in
theorem rr_hold (rb : Nat) (v : Value) (r : Re) (cs : List Value) (w : World) (h : RR w rb v r cs) :
    Calls Tryd.prog 61 #[.pointer (some ⟨rb, 0, none⟩), .int .i64 4] w (HoldRdPost w rb v r cs) := by
  obtain ⟨i0, hi, hz0, hz1, hz2⟩ := info_parts infoPart
  have H := Lib.hid (And.intro h h.len)
  have hrb := h.lt
  clear h
  go_enter Tryd.func61, Tryd.ntmps61
  go_upto_region 12 with (refine wpList_store_mid rfl 75 (.tmp 48) (.tmp 46) rfl rb 43 (holdZ.cells (.slice none 0 0)) rfl rfl (H.out.1.there 43 4 (by omega) (by omega)) (by kernel_rfl) (hold_one_cells _ _ _ _) ?_)
  change Code.wp _ _ _ _ (w.setCells rb 43 (holdZ.cells (.slice none 0 0)).toList)
  have X2 : Hid (RR (w.setCells rb 43 (holdZ.cells (.slice none 0 0)).toList) rb v r (wrC cs 43 (holdZ.cells (.slice none 0 0)).toList) ∧ MA w (w.setCells rb 43 (holdZ.cells (.slice none 0 0)).toList) rb) := Lib.hid ⟨H.out.1.set 43 _ (by omega) (by show 43 + 4 ≤ 81; omega), ma_setCells _ _ _ _⟩
  generalize w.setCells rb 43 (holdZ.cells (.slice none 0 0)).toList = W2 at *
  have hrb2 := X2.out.1.lt
  go_region_with (go_at_call 78; go_must (refine (rr_ints rb 43 1 _ _ v r _ _ W2 _ X2.out.1 (below_alloc _ _).drew rfl (by omega) (by omega) (ptrs_of_block (Nat.le_refl _) (heap_alloc_new _ _))).mono ?_); rintro e w4 ⟨v4, rfl, hr4, ho4, hm4⟩; have X4 := Lib.hid (And.intro hr4 (And.intro ho4 hm4)); clear hr4 ho4 hm4)
  have E := Lib.hid (holdRd_eq r)
  have hl3 := H.out.2
  have hlz : Hid ((wrC cs 43 (holdZ.cells (.slice none 0 0)).toList).length = 79) := Lib.hid (by rw [wrC_length _ _ _ (by show 43 - 2 + 4 ≤ cs.length; omega)]; exact hl3)
  have hli : Hid (((Re.ints 1 r).1.map (Value.int .i64)).length = 1) := Lib.hid (by rw [List.length_map, Re.ints_length])
  have HC : Hid ((wrC (wrC cs 43 (holdZ.cells (.slice none 0 0)).toList) 43 ((Re.ints 1 r).1.map (Value.int .i64)))[41]? = some (.int .i64 ((Re.ints 1 r).1.getD 0 0)) ∧ (wrC (wrC cs 43 (holdZ.cells (.slice none 0 0)).toList) 43 ((Re.ints 1 r).1.map (Value.int .i64)))[42]? = some (.slice none 0 0)
      ∧ (wrC (wrC cs 43 (holdZ.cells (.slice none 0 0)).toList) 43 ((Re.ints 1 r).1.map (Value.int .i64))).length = 79 ∧ ∀ j : Nat, 45 ≤ j → (wrC (wrC cs 43 (holdZ.cells (.slice none 0 0)).toList) 43 ((Re.ints 1 r).1.map (Value.int .i64)))[j]? = cs[j]?) := Lib.hid (by
    have h1 := hlz.out
    have h2 := hli.out
    refine ⟨?_, ?_, by rw [wrC_length _ _ _ (by omega)]; exact h1, fun j hj => ?_⟩
    · rw [show 41 = 43 - 2 + 0 by omega, wrC_in _ _ _ (by omega) 0 (by omega), one_map _ (Re.ints_length 1 r)]; rfl
    · rw [wrC_out _ _ _ (by omega) _ (by omega), show 42 = 43 - 2 + 1 by omega, wrC_in _ _ _ (by show 43 - 2 + 4 ≤ cs.length; omega) 1 (by show 1 < 4; omega)]; rfl
    · rw [wrC_out _ _ _ (by omega) _ (by omega), wrC_out _ _ _ (by show 43 - 2 + 4 ≤ cs.length; omega) _ (by show j < 43 - 2 ∨ 43 - 2 + 4 ≤ j; omega)])
  generalize wrC (wrC cs 43 (holdZ.cells (.slice none 0 0)).toList) 43 ((Re.ints 1 r).1.map (Value.int .i64)) = c4 at *
  generalize (Re.ints 1 r).1.getD 0 0 = id0 at *
  generalize (Re.ints 1 r).2 = r1 at *
  have hrb4 := X4.out.1.lt
  clear hl3 hlz hli
  go_upto_block 9 with (go_at_call 77; go_must (refine (rr_one rb v4 r1 c4 w4 X4.out.1).mono ?_); rintro e w5 ⟨v5, rfl, hr5, ho5, hm5⟩; have X5 := Lib.hid (And.intro hr5 (And.intro ho5 hm5)); clear hr5 ho5 hm5)
  have S5 : Hid (RR w5 rb v5 r1.one.2 c4 ∧ v5.ownBlock = v.ownBlock ∧ MA w w5 rb) := Lib.hid ⟨X5.out.1, X5.out.2.1.trans X4.out.2.1, (X2.out.2.trans X4.out.2.2).trans X5.out.2.2⟩
  obtain ⟨N, hN, hN2⟩ : ∃ N : Nat, r1.one.1 = N ∧ N ≤ 255 := ⟨r1.one.1.toNat, (reone_cast r1).1, (reone_cast r1).2⟩
  have E2 : Hid (holdRd r = (⟨id0, (manyRd partRd N r1.one.2).1, (Re.ints 2 (manyRd partRd N r1.one.2).2).1.getD 0 0, (Re.ints 2 (manyRd partRd N r1.one.2).2).1.getD 1 0⟩, (Re.ints 2 (manyRd partRd N r1.one.2).2).2)) := Lib.hid (by have := E.out; rw [hN, Int.toNat_natCast] at this; exact this)
  rw [hN]
  generalize r1.one.2 = r2 at *
  have hvb : Hid (∀ k, v.ownBlock = some k → k < w.heap.size) := Lib.hid (fun k hk => reads_own_lt H.out.1.rat.reads k hk)
  clear E X2 X4 X5 hN
  go_cut [4, 5] (fun s4 s5 wx => PartsAt w rb v c4 (manyRd partRd N r2) wx)
  case first =>
    go_wp2_with fail
    go_loopg [4, 5] N (fun g s4 s5 wr => g ≤ N ∧ s4 = .int .i64 g ∧ PartsAt w rb v c4 (manyRd partRd (N - g) r2) wr)
    case atStart => exact ⟨Nat.le_refl _, rfl, v5, .slice none 0 0, by
      rw [Nat.sub_self, many_zero, wrC_self c4 44 [.slice none 0 0] (by have := HC.out.2.2.1; show 44 - 2 + 1 ≤ c4.length; omega) (fun j u hj => by
        match j, hj with
        | 0, hj => cases hj; exact HC.out.2.1
        | j + 1, hj => simp at hj)]
      exact S5.out.1, S5.out.2.1, S5.out.2.2, by rw [Nat.sub_self, many_zero]; exact OwnI.nil _ _ _ _, by rw [Nat.sub_self, many_zero]; exact Nat.zero_le _⟩
    case round =>
      obtain ⟨hgN, rfl, hP⟩ := hrel
      cases gk with
      | zero =>
        have FP : Hid (PartsAt w rb v c4 (manyRd partRd N r2) wr) := Lib.hid hP
        clear hP
        go_wp2
        go_meet
        exact FP.out
      | succ g =>
        have HSN : Hid (manyRd partRd (N - g) r2 = if (manyRd partRd (N - (g + 1)) r2).2.err = 0 then ((manyRd partRd (N - (g + 1)) r2).1 ++ [(partRd (manyRd partRd (N - (g + 1)) r2).2).1], (partRd (manyRd partRd (N - (g + 1)) r2).2).2) else manyRd partRd (N - (g + 1)) r2) := Lib.hid (by
          rw [show N - g = N - (g + 1) + 1 by omega]; exact many_snoc _ _ _)
        have HST : Hid ((manyRd partRd (N - (g + 1)) r2).2.err ≠ 0 → manyRd partRd N r2 = manyRd partRd (N - (g + 1)) r2) := Lib.hid (fun h => by
          have := many_stop partRd (N - (g + 1)) r2 h (g + 1)
          rwa [show N - (g + 1) + (g + 1) = N by omega] at this)
        have HLN : Hid ((manyRd partRd (N - (g + 1)) r2).1.length < 255) := Lib.hid (by have := many_length partRd (N - (g + 1)) r2; omega)
        generalize manyRd partRd (N - (g + 1)) r2 = p at *
        obtain ⟨ps, rp⟩ := p
        have hg0 : (0 : Int) < (g : Int) + 1 := by omega
        have hg1 : (g : Int) + 1 ≤ 255 := by omega
        obtain ⟨vr, uv, hRR, ho, hm, hO, hpl⟩ := hP
        have c1 : wr.cell? ⟨rb, 1, none⟩ = some (.int .i64 rp.err) := hRR.rat.c1
        have hrbr := hRR.lt
        have XR : Hid (RR wr rb vr rp (wrC c4 44 [uv]) ∧ vr.ownBlock = v.ownBlock ∧ MA w wr rb ∧ OwnI wr w.heap.size 86 2 uv (partsC ps)) := Lib.hid ⟨hRR, ho, hm, hO⟩
        clear hRR ho hm hO hpl
        by_cases he : rp.err = 0
        · have hb : (rp.err == 0) = true := by rw [he]; rfl
          have HS2 : Hid (manyRd partRd (N - g) r2 = (ps ++ [(partRd rp).1], (partRd rp).2)) := Lib.hid (by have := HSN.out; simp only at this; rw [if_pos he] at this; exact this)
          clear he
          go_upto_region 17 with (fail)
          go_upto_region 18 with (go_at_call 78; go_must (refine (rr_intsP rb wr.heap.size 2 _ _ vr rp _ _ wr _ _ XR.out.1 (below_alloc _ _) (below_alloc _ _) rfl (by omega) (Nat.le_refl _) (by simp) (fun o ho => part_new _ _ _ ho) (by omega) (ptrs_of_block (by simp) (heap_alloc2_new _ _ _))).mono ?_); rintro e w6 ⟨v6, rfl, hr6, ho6, hm6, hg6, hpl6, hf6⟩; have X6 := Lib.hid (And.intro hr6 (And.intro ho6 (And.intro hm6 (And.intro hg6 hf6)))); clear hr6 ho6 hm6 hg6 hf6)
          have HPC : Hid ((partRd rp).2 = (Re.ints 2 rp).2 ∧ (Re.ints 2 rp).1.map (Value.int .i64) = (partRd rp).1.cells.toList) := Lib.hid ⟨by rw [partRd_eq], by rw [two_map _ (Re.ints_length 2 rp), partRd_eq]⟩
          have HRG : Hid (w6.rangeAt wr.heap.size 0 (partRd rp).1.cells.toList) := Lib.hid (by have := X6.out.2.2.2.1; rw [HPC.out.2] at this; exact this)
          have XR6 : Hid (RR w6 rb v6 (partRd rp).2 (wrC c4 44 [uv]) ∧ v6.ownBlock = v.ownBlock ∧ MA w w6 rb ∧ OwnI w6 w.heap.size 86 2 uv (partsC ps)) := Lib.hid ⟨by rw [HPC.out.1]; exact X6.out.1, X6.out.2.1.trans XR.out.2.1, XR.out.2.2.1.trans X6.out.2.2.1, XR.out.2.2.2.ma X6.out.2.2.1 (fun e => by have := (XR.out.2.2.2.base _ e).1; omega)⟩
          generalize partRd rp = pr at *
          obtain ⟨pd, r6⟩ := pr
          generalize wr.heap.size = pb at *
          have hl4 := HC.out.2.2.1
          have c44 : w6.cell? ⟨rb, 44, none⟩ = some uv := XR6.out.1.cell 44 (by omega) (by rw [show 44 - 2 = 44 - 2 + 0 by omega, wrC_in _ _ _ (by show 44 - 2 + 1 ≤ c4.length; omega) 0 (by show 0 < 1; omega)]; rfl)
          have f44 : w6.frozen? ⟨rb, 44, none⟩ = false := XR6.out.1.fr 44 (by omega) (by omega)
          have hrb6 := XR6.out.1.lt
          have hne6 : w6.heap.size ≠ rb := by omega
          have hne7 : w6.heap.size + 1 ≠ rb := by omega
          have hown : w6.ownsRow w.heap.size 86 2 uv ps.length (partsC ps).flatten := by have := XR6.out.2.2.2.1; rwa [show (partsC ps).length = ps.length by simp [partsC]] at this
          have hur : uv.ownBlock ≠ some rb := fun e => by have := (XR6.out.2.2.2.base _ e).1; omega
          have huv : ∀ k, uv.ownBlock = some k → v6.ownBlock ≠ some k := fun k hk e => by
            have h1 := (XR6.out.2.2.2.base _ hk).1
            have h2 := hvb.out k (by rw [← XR6.out.2.1]; exact e)
            omega
          have HU := Lib.hid (And.intro hur huv)
          have hlt255 := HLN.out
          have hps : ps.length < 255 := hlt255
          have hsz6 : w.heap.size ≤ w6.heap.size := XR6.out.2.2.1.size
          clear X6 XR hur huv hl4 hlt255
          have p0 : w6.cell? ⟨pb, 0, none⟩ = some (.int .i64 pd.lot) := HRG.out 0 _ rfl
          have p1 : w6.cell? ⟨pb, 1, none⟩ = some (.int .i64 pd.n) := HRG.out 1 _ rfl
          go_region_law (first
            | (refine step_append_lies _ rfl (.tmp 86) (.tmp 88) 73 rfl w.heap.size 86 i0 (.agg #[.int .i64 0, .int .i64 0]) 2 16 Tryd.underlying73 hi hz0 hz1 hz2 rfl (by decide) uv ps.length (partsC ps).flatten rfl (hown.drew.alloc _) ⟨w6.heap.size, 0, none⟩ 1 1 pd.cells.toList rfl rfl (news_row _ _ _) (one_cells_mem (part_one_cells pd)) (by decide) (by unfold maxLen; omega) (by omega) (by simp; omega) (w6.heap.size + 1) (by simp) ?_
               intro g' cap w8 hown8 hgrow hg hlt8
               have hnr : (Value.slice (some ⟨g', 0, none⟩) (ps.length + 1) cap).ownBlock ≠ some rb := fun e => by
                 have e2 : g' = rb := by simpa [Value.ownBlock] using e
                 rcases hg with hg | hg
                 · exact HU.out.1 (by rw [hg, e2])
                 · omega
               have c8 : w8.cell? ⟨rb, 44, none⟩ = some uv := (World.cell?_of_block (a := ⟨rb, 44, none⟩) ((hgrow.block rb (by simp; omega) (fun e => HU.out.1 e.symm)).trans ((below_alloc w6 _).block rb hrb6))).trans c44
               have f8 : w8.frozen? ⟨rb, 44, none⟩ = false := (World.frozen?_of_block (a := ⟨rb, 44, none⟩) ((hgrow.block rb (by simp; omega) (fun e => HU.out.1 e.symm)).trans ((below_alloc w6 _).block rb hrb6))).trans f44
               have F8 : Hid (RR (w8.setCell ⟨rb, 44, none⟩ (.slice (some ⟨g', 0, none⟩) (ps.length + 1) cap)) rb v6 r6 (wrC (wrC c4 44 [uv]) 44 [.slice (some ⟨g', 0, none⟩) (ps.length + 1) cap]) ∧ MA w (w8.setCell ⟨rb, 44, none⟩ (.slice (some ⟨g', 0, none⟩) (ps.length + 1) cap)) rb ∧ OwnI (w8.setCell ⟨rb, 44, none⟩ (.slice (some ⟨g', 0, none⟩) (ps.length + 1) cap)) w.heap.size 86 2 (.slice (some ⟨g', 0, none⟩) (ps.length + 1) cap) (partsC ps ++ [pd.cells.toList])) := Lib.hid
                 ⟨XR6.out.1.app (wa := (w6.alloc _).drew) (below_alloc _ _).drew hgrow HU.out.1 HU.out.2 _ 44 (by omega) (by omega), ma_app XR6.out.2.2.1 (wa := (w6.alloc _).drew) (below_alloc _ _).drew hgrow (fun k hk => (XR6.out.2.2.2.base k hk).1) HU.out.1 hrb6, XR6.out.2.2.2.add rfl (by rw [show (partsC ps).length = ps.length by simp [partsC]]; exact hown8) hnr _⟩
               clear hown8 hgrow hg hnr))
          all_goals clear hown c44 f44 p0 p1
          all_goals go_wp2
          all_goals go_roundg g
          all_goals first
            | (case measure => omega)
            | skip
          all_goals
            refine ⟨by omega, by first | rfl | go_num, v6, .slice (some ⟨g', 0, none⟩) (ps.length + 1) cap, ?_, XR6.out.2.1, F8.out.2.1, ?_, ?_⟩
            · rw [HS2.out]
              have := F8.out.1
              rwa [wrC_twice c4 44 [uv] [.slice (some ⟨g', 0, none⟩) (ps.length + 1) cap] rfl (by have := HC.out.2.2.1; show 44 - 2 + 1 ≤ c4.length; omega)] at this
            · rw [HS2.out]
              have := F8.out.2.2
              simpa [partsC] using this
            · rw [HS2.out]
              simp only [List.length_append, List.length_singleton]
              omega
        · have hb : (rp.err == 0) = false := by simp [he]
          have HS2 : Hid (manyRd partRd N r2 = (ps, rp)) := Lib.hid (HST.out he)
          clear he
          go_wp2
          go_meet
          rw [HS2.out]
          exact ⟨vr, uv, XR.out.1, XR.out.2.1, XR.out.2.2.1, XR.out.2.2.2, Nat.le_of_lt HLN.out⟩
  case rest =>
    obtain ⟨W7, rfl⟩ : ∃ x : World, x = wc := ⟨_, rfl⟩
    obtain ⟨v7, uv, hRR, ho, hm, hO, hpl⟩ := hcut
    have X7 : Hid (RR W7 rb v7 (manyRd partRd N r2).2 (wrC c4 44 [uv]) ∧ v7.ownBlock = v.ownBlock ∧ MA w W7 rb ∧ OwnI W7 w.heap.size 86 2 uv (partsC (manyRd partRd N r2).1)) := Lib.hid ⟨hRR, ho, hm, hO⟩
    generalize manyRd partRd N r2 = p at *
    obtain ⟨ps, rp⟩ := p
    have hrb7 := hRR.lt
    clear hRR ho hm hO hpl
    go_wp2
    go_region_with (go_at_call 78; go_must (refine (rr_ints rb 45 2 _ _ v7 rp _ _ W7 _ X7.out.1 (below_alloc _ _).drew rfl (by omega) (by omega) (ptrs_of_block (Nat.le_refl _) (heap_alloc_new _ _))).mono ?_); rintro e w9 ⟨v9, rfl, hr9, ho9, hm9⟩)
    all_goals have X9 := Lib.hid (And.intro hr9 (And.intro ho9 hm9))
    all_goals clear hr9 ho9 hm9
    all_goals (try go_wp2)
    all_goals (try simp only [Exit.inBlock, Exit.then])
    all_goals refine bodyPost_ret (results_none rfl _ _ _) rfl ?_
    all_goals
      unfold HoldRdPost
      rw [E2.out]
      have hl4 := HC.out.2.2.1
      have hl7 : (wrC c4 44 [uv]).length = 79 := by rw [wrC_length _ _ _ (by show 44 - 2 + 1 ≤ c4.length; omega)]; exact hl4
      have hi2 : ((Re.ints 2 rp).1.map (Value.int .i64)).length = 2 := by rw [List.length_map, Re.ints_length]
      refine ⟨v9, _, uv, rfl, X9.out.1, X9.out.2.1.trans X7.out.2.1, X7.out.2.2.1.trans X9.out.2.2, fun j u hj => ?_, fun j hj => ?_, X7.out.2.2.2.ma X9.out.2.2 (fun e => by have := (X7.out.2.2.2.base _ e).1; omega)⟩
      · match j, hj with
        | 0, hj => cases hj; rw [wrC_out _ _ _ (by omega) _ (by omega), wrC_out _ _ _ (by show 44 - 2 + 1 ≤ c4.length; omega) _ (by omega)]; exact HC.out.1
        | 1, hj => cases hj; rw [wrC_out _ _ _ (by omega) _ (by omega), show 41 + 1 = 44 - 2 + 0 by omega, wrC_in _ _ _ (by show 44 - 2 + 1 ≤ c4.length; omega) 0 (by show 0 < 1; omega)]; rfl
        | 2, hj => cases hj; rw [show 41 + 2 = 45 - 2 + 0 by omega, wrC_in _ _ _ (by omega) 0 (by omega), two_map' _ (Re.ints_length 2 rp)]; rfl
        | 3, hj => cases hj; rw [show 41 + 3 = 45 - 2 + 1 by omega, wrC_in _ _ _ (by omega) 1 (by omega), two_map' _ (Re.ints_length 2 rp)]; rfl
        | j + 4, hj => simp [HoldD.cells] at hj
      · rw [wrC_out _ _ _ (by omega) _ (by omega), wrC_out _ _ _ (by show 44 - 2 + 1 ≤ c4.length; omega) _ (by show j < 44 - 2 ∨ 44 - 2 + 1 ≤ j; omega)]
        exact HC.out.2.2.2 j hj
end Go.Proofs.YtehkgcmdndehaaaDoor

