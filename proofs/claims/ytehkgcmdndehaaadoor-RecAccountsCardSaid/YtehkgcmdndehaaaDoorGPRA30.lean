/- Part of the proof: merged texts. -/
import Derived.Test.YtehkgcmdndehaaaDoorGPRA29
namespace Go.Proofs.YtehkgcmdndehaaaDoor
set_option linter.unusedSimpArgs false
set_option linter.unusedVariables false
open Go.RowKit

theorem infoLot : (Tryd.prog.info? 72).map (fun i => (i.zero, i.size, i.bytes)) = some (some (.agg lotZ.cells), 9, 72) := by kernel_rfl
theorem infoHold : (Tryd.prog.info? 75).map (fun i => (i.zero, i.size, i.bytes)) = some (some (.agg (holdZ.cells (.slice none 0 0))), 4, 48) := by kernel_rfl
theorem infoEntry : (Tryd.prog.info? 77).map (fun i => (i.zero, i.size, i.bytes)) = some (some (.agg entryZ.cells), 14, 120) := by kernel_rfl
/-- One element was read into the record's cells from place T on. -/
def ElemAt (w : World) (rb : Nat) (v : Value) (r : Re) (cs : List Value) (T : Nat) (x : List Value) (e : Ending) (w' : World) : Prop :=
  ∃ v' cs', e = .returned (.tuple #[]) ∧ RR w' rb v' r cs' ∧ v'.ownBlock = v.ownBlock ∧ MA w w' rb ∧ (∀ (j : Nat) (u : Value), x[j]? = some u → cs'[T - 2 + j]? = some u) ∧ ∀ j : Nat, 59 ≤ j → cs'[j]? = cs[j]?
attribute [local irreducible] Re.ints Re.str manyRd Re.one ansRd tailRd holdRd lotRd entryRd
theorem el_lot (rb : Nat) (v : Value) (r : Re) (cs : List Value) (w : World) (h : RR w rb v r cs) : Calls Tryd.prog 61 #[.pointer (some ⟨rb, 0, none⟩), .int .i64 3] w (ElemAt w rb v (lotRd r).2 cs 34 (lotRd r).1.cells.toList) := by
  have hl := h.len
  refine (rr_lot rb v r cs w h).mono ?_
  rintro e w' ⟨v', rfl, hr, ho, hm⟩
  exact ⟨v', _, rfl, hr, ho, hm, fun j u hj => by rw [wrC_in _ _ _ (by show 34 - 2 + 9 ≤ cs.length; omega) j (List.getElem?_eq_some_iff.1 hj).1]; exact hj, fun j hj => wrC_out _ _ _ (by show 34 - 2 + 9 ≤ cs.length; omega) j (.inr (by show 34 - 2 + 9 ≤ j; omega))⟩
theorem el_entry (rb : Nat) (v : Value) (r : Re) (cs : List Value) (w : World) (h : RR w rb v r cs) : Calls Tryd.prog 61 #[.pointer (some ⟨rb, 0, none⟩), .int .i64 5] w (ElemAt w rb v (entryRd r).2 cs 47 (entryRd r).1.cells.toList) := by
  refine (rr_entry rb v r cs w h).mono ?_
  rintro e w' ⟨v', c', rfl, hr, ho, hm, hc, hk⟩
  exact ⟨v', c', rfl, hr, ho, hm, hc, hk⟩
def HoldAt (w : World) (rb : Nat) (v : Value) (r : Re) (cs : List Value) (hd : HoldD) (e : Ending) (w' : World) : Prop :=
  ∃ v' cs' pv, e = .returned (.tuple #[]) ∧ RR w' rb v' r cs' ∧ v'.ownBlock = v.ownBlock ∧ MA w w' rb ∧ (∀ (j : Nat) (u : Value), (hd.cells pv).toList[j]? = some u → cs'[43 - 2 + j]? = some u) ∧ (∀ j : Nat, 59 ≤ j → cs'[j]? = cs[j]?) ∧ OwnI w' w.heap.size 86 2 pv (partsC hd.parts)
theorem el_hold (rb : Nat) (v : Value) (r : Re) (cs : List Value) (w : World) (h : RR w rb v r cs) : Calls Tryd.prog 61 #[.pointer (some ⟨rb, 0, none⟩), .int .i64 4] w (HoldAt w rb v (holdRd r).2 cs (holdRd r).1) := by
  refine (rr_hold rb v r cs w h).mono ?_
  rintro e w' ⟨v', c', pv, rfl, hr, ho, hm, hc, hk, hp⟩
  exact ⟨v', c', pv, rfl, hr, ho, hm, hc, fun j hj => hk j (by omega), hp⟩
/-- The cells of the account but that at ci are as they were. -/
def KX (ci : Nat) (c d : List Value) : Prop := ∀ j : Nat, 59 ≤ j → j ≠ ci → c[j]? = d[j]?
/-- A list of the account's is read, so far. -/
def ListAt (w0 : World) (rb : Nat) (v0 : Value) (c0 : List Value) (ci : Nat) (E : TypeId) (n : Nat) {α : Type} (f : α → List Value) (p : List α × Re) (wx : World) : Prop :=
  ∃ (vr uv : Value) (cr : List Value), RR wx rb vr p.2 cr ∧ vr.ownBlock = v0.ownBlock ∧ MA w0 wx rb ∧ cr[ci]? = some uv ∧ KX ci cr c0 ∧ OwnI wx w0.heap.size E n uv (p.1.map f) ∧ p.1.length ≤ 255
def HoldsAt (w0 : World) (rb : Nat) (v0 : Value) (c0 : List Value) (p : List HoldD × Re) (wx : World) : Prop :=
  ∃ (vr uv : Value) (cr : List Value) (hs : List (HoldD × Value)), RR wx rb vr p.2 cr ∧ vr.ownBlock = v0.ownBlock ∧ MA w0 wx rb ∧ cr[77]? = some uv ∧ KX 77 cr c0 ∧ OwnI wx w0.heap.size 75 4 uv (hs.map (fun h : HoldD × Value => (h.1.cells h.2).toList)) ∧ p.1.length ≤ 255
    ∧ hs.map (·.1) = p.1 ∧ ∀ h ∈ hs, OwnI wx w0.heap.size 86 2 h.2 (partsC h.1.parts) ∧ ∀ k, h.2.ownBlock = some k → uv.ownBlock ≠ some k
theorem hold_one_cells_v (a : HoldD) (pv : Value) (h : pv.oneCell' = true) : (a.cells pv).all (·.oneCell') = true := by
  unfold HoldD.cells
  rw [Array.all_eq_true_iff_forall_mem]
  intro x hx
  simp only [List.mem_toArray, List.mem_cons, List.not_mem_nil, or_false] at hx
  rcases hx with rfl | rfl | rfl | rfl
  · rfl
  · exact h
  · rfl
  · rfl
theorem own_app {w6 wa w8 : World} {rb o base : Nat} {E : TypeId} {n : Nat} {u uv x : Value} {xs : List (List Value)} (h : OwnI w6 base E n u xs) (hu : ∀ k, u.ownBlock = some k → uv.ownBlock ≠ some k) (hr : u.ownBlock ≠ some rb) (ha : Below w6.heap.size w6 wa) (hg : wa.grownBy w8 uv.ownBlock) :
    OwnI (w8.setCell ⟨rb, o, none⟩ x) base E n u xs :=
  h.of_block (fun k hk hlt => by
    have hs := ha.size
    rw [Below.heap_setCell _ _ _ _ (by show k ≠ rb; intro e; exact hr (e ▸ hk))]
    exact (hg.block k (by omega) (fun e => hu k hk e.symm)).trans (ha.block k hlt))
theorem own_off {uv : Value} {g n c k H : Nat} (hg : uv.ownBlock = some g ∨ g = H) (hk : k < H) (hu : uv.ownBlock ≠ some k) : (Value.slice (some ⟨g, 0, none⟩) n c).ownBlock ≠ some k := by
  intro e
  have e2 : g = k := by simpa [Value.ownBlock] using e
  rcases hg with hg | hg
  · exact hu (by rw [hg, e2])
  · omega
theorem OwnI.lower {w : World} {base base' : Nat} {E : TypeId} {n : Nat} {v : Value} {xs : List (List Value)} (h : OwnI w base E n v xs) (hb : base' ≤ base) : OwnI w base' E n v xs := ⟨ownsRow_base h.1 hb, h.2⟩
theorem Items.ma {w w' : World} {rb n : Nat} {v : Value} {xs : List (List Value)} (h : Items w v n xs) (hm : MA w w' rb) (hr : v.ownBlock ≠ some rb) : Items w' v n xs :=
  h.of_block hm.size (fun k hk hlt => hm.block k hlt (fun e => hr (e ▸ live_own hk)))
theorem fillRd_eq (r : Re) : fillRd r = (((lotsRd r).1, (Re.ints 2 (lotsRd r).2).1.getD 0 0, (Re.ints 2 (lotsRd r).2).1.getD 1 0, (holdsRd (Re.ints 2 (lotsRd r).2).2).1, (winRd (holdsRd (Re.ints 2 (lotsRd r).2).2).2).1), (winRd (holdsRd (Re.ints 2 (lotsRd r).2).2).2).2) := rfl
/-- The slice, if any, lies in block B or beyond. -/
def Fr (B : Nat) (v : Value) : Prop := ∀ k, v.ownBlock = some k → B ≤ k
theorem Fr.ne {B rb : Nat} {v : Value} (h : Fr B v) (hr : rb < B) : v.ownBlock ≠ some rb := fun e => by have := h _ e; omega
theorem Fr.lower {B B' : Nat} {v : Value} (h : Fr B v) (hb : B' ≤ B) : Fr B' v := fun k hk => Nat.le_trans hb (h k hk)
/-- What reading an account's lists leaves. -/
def FillPost (w : World) (rb : Nat) (v : Value) (r : Re) (cs : List Value) (e : Ending) (w' : World) : Prop :=
  ∃ (v' : Value) (c' : List Value) (lv hv wv : Value) (hs : List (HoldD × Value)), e = .returned (.tuple #[]) ∧ RR w' rb v' (fillRd r).2 c' ∧ v'.ownBlock = v.ownBlock ∧ MA w w' rb
    ∧ (c'[74]? = some lv ∧ c'[75]? = some (.int .i64 (fillRd r).1.2.1) ∧ c'[76]? = some (.int .i64 (fillRd r).1.2.2.1) ∧ c'[77]? = some hv ∧ c'[78]? = some wv ∧ ∀ j : Nat, 59 ≤ j → j < 74 → c'[j]? = cs[j]?)
    ∧ RdLots w' lv (fillRd r).1.1 ∧ RdHolds w' hv hs ∧ hs.map (·.1) = (fillRd r).1.2.2.2.1 ∧ RdWin w' wv (fillRd r).1.2.2.2.2
    ∧ Fr w.heap.size lv ∧ Fr w.heap.size hv ∧ Fr w.heap.size wv ∧ ∀ h ∈ hs, Fr w.heap.size h.2
theorem lotRd_def (r : Re) : lotsRd r = manyRd lotRd r.one.1.toNat r.one.2 := rfl
theorem one_cells_list {cs : Array Value} (h : cs.all (·.oneCell') = true) : ∀ u ∈ cs.toList, u.oneCell' = true := one_cells_mem h
set_option maxHeartbeats 3200000 in
set_option maxRecDepth 100000 in
theorem rr_fill (rb : Nat) (v : Value) (r : Re) (cs : List Value) (w : World) (h : RR w rb v r cs) (hn : cs[74]? = some (.slice none 0 0) ∧ cs[77]? = some (.slice none 0 0) ∧ cs[78]? = some (.slice none 0 0)) :
    Calls Tryd.prog 80 #[.pointer (some ⟨rb, 0, none⟩)] w (FillPost w rb v r cs) := by
  obtain ⟨i0, hi0, hz00, hz01, hz02⟩ := info_parts infoLot
  obtain ⟨i1, hi1, hz10, hz11, hz12⟩ := info_parts infoHold
  obtain ⟨i2, hi2, hz20, hz21, hz22⟩ := info_parts infoEntry
  have H : Hid (RR w rb v r cs ∧ cs.length = 79 ∧ cs[74]? = some (.slice none 0 0) ∧ cs[77]? = some (.slice none 0 0) ∧ cs[78]? = some (.slice none 0 0)) := Lib.hid ⟨h, h.len, hn⟩
  have hvb : Hid (∀ k, v.ownBlock = some k → k < w.heap.size) := Lib.hid (fun k hk => reads_own_lt h.rat.reads k hk)
  have S0 : Hid (RR w rb v r cs ∧ v.ownBlock = v.ownBlock ∧ MA w w rb ∧ True) := Lib.hid ⟨h, rfl, Mods.refl _ _ _, trivial⟩
  have hrb := h.lt
  have HRBW : Hid (rb < w.heap.size) := Lib.hid h.lt
  clear h hn
  go_enter Tryd.func80, Tryd.ntmps80
  go_upto_block 0 with (go_at_call 77; go_must (refine (rr_one rb v r cs w S0.out.1).mono ?_); rintro e wa0 ⟨va0, rfl, hr, ho, hm⟩; have Y0 := Lib.hid (And.intro hr (And.intro (ho.trans S0.out.2.1) (S0.out.2.2.1.trans hm))); clear hr ho hm)
  obtain ⟨N0, hN0, hM0⟩ : ∃ N : Nat, (r).one.1 = N ∧ N ≤ 255 := ⟨(r).one.1.toNat, (reone_cast (r)).1, (reone_cast (r)).2⟩
  have E0 : Hid (lotsRd r = manyRd lotRd N0 (r).one.2) := Lib.hid (by show manyRd lotRd (r).one.1.toNat (r).one.2 = _; rw [hN0, Int.toNat_natCast])
  rw [hN0]
  generalize hr0 : (r).one.2 = r0 at *
  clear hN0 hr0
  have hvb0 : Hid (∀ k, v.ownBlock = some k → k < wa0.heap.size) := Lib.hid (fun k hk => by have := hvb.out k hk; have := Y0.out.2.2.size; omega)
  have hrba0 := Y0.out.1.lt
  go_cut [2] (fun s2 wx => ListAt wa0 rb v cs 74 72 9 (fun l : LotD => l.cells.toList) (manyRd lotRd N0 r0) wx)
  case first =>
    go_wp2_with fail
    go_loopg [2] N0 (fun g s2 wr => g ≤ N0 ∧ s2 = .int .i64 g ∧ ListAt wa0 rb v cs 74 72 9 (fun l : LotD => l.cells.toList) (manyRd lotRd (N0 - g) r0) wr)
    case atStart => exact ⟨Nat.le_refl _, rfl, by
      rw [Nat.sub_self, many_zero]
      exact ⟨va0, .slice none 0 0, cs, Y0.out.1, Y0.out.2.1, Mods.refl _ _ _, H.out.2.2.1, fun _ _ _ => rfl, OwnI.nil _ _ _ _, Nat.zero_le _⟩⟩
    case round =>
      obtain ⟨hgN, rfl, hP⟩ := hrel
      cases gk with
      | zero =>
        have FP : Hid (ListAt wa0 rb v cs 74 72 9 (fun l : LotD => l.cells.toList) (manyRd lotRd N0 r0) wr) := Lib.hid hP
        clear hP
        go_wp2
        go_meet
        exact FP.out
      | succ g =>
        have HSN : Hid (manyRd lotRd (N0 - g) r0 = if (manyRd lotRd (N0 - (g + 1)) r0).2.err = 0 then ((manyRd lotRd (N0 - (g + 1)) r0).1 ++ [(lotRd (manyRd lotRd (N0 - (g + 1)) r0).2).1], (lotRd (manyRd lotRd (N0 - (g + 1)) r0).2).2) else manyRd lotRd (N0 - (g + 1)) r0) := Lib.hid (by
          rw [show N0 - g = N0 - (g + 1) + 1 by omega]; exact many_snoc _ _ _)
        have HST : Hid ((manyRd lotRd (N0 - (g + 1)) r0).2.err ≠ 0 → manyRd lotRd N0 r0 = manyRd lotRd (N0 - (g + 1)) r0) := Lib.hid (fun h => by
          have := many_stop lotRd (N0 - (g + 1)) r0 h (g + 1)
          rwa [show N0 - (g + 1) + (g + 1) = N0 by omega] at this)
        have HLN : Hid ((manyRd lotRd (N0 - (g + 1)) r0).1.length < 255) := Lib.hid (by have := many_length lotRd (N0 - (g + 1)) r0; omega)
        generalize manyRd lotRd (N0 - (g + 1)) r0 = p at *
        obtain ⟨ps, rp⟩ := p
        have hg0 : (0 : Int) < (g : Int) + 1 := by omega
        have hg1 : (g : Int) + 1 ≤ 255 := by omega
        have HPP := Lib.hid hP
        obtain ⟨vr, uv, cr, hRR, ho, hm, huc, hkx, hO, hpl⟩ := hP
        have c1 : wr.cell? ⟨rb, 1, none⟩ = some (.int .i64 rp.err) := hRR.rat.c1
        have hrbr := hRR.lt
        have XR : Hid (RR wr rb vr rp cr ∧ vr.ownBlock = v.ownBlock ∧ MA wa0 wr rb ∧ cr[74]? = some uv ∧ KX 74 cr cs ∧ OwnI wr wa0.heap.size 72 9 uv (ps.map (fun l : LotD => l.cells.toList))) := Lib.hid ⟨hRR, ho, hm, huc, hkx, hO⟩
        have HPL : Hid ((ps.map (fun l : LotD => l.cells.toList)).length = ps.length) := Lib.hid (by simp)
        clear hRR ho hm huc hkx hO hpl
        by_cases he : rp.err = 0
        · have hb : (rp.err == 0) = true := by rw [he]; rfl
          have HS2 : Hid (manyRd lotRd (N0 - g) r0 = (ps ++ [(lotRd rp).1], (lotRd rp).2)) := Lib.hid (by have := HSN.out; simp only at this; rw [if_pos he] at this; exact this)
          clear he
          go_upto_region 4 with (go_at_call 61; go_must (refine (el_lot rb vr rp cr wr XR.out.1).mono ?_); rintro e w6 ⟨v6, c6, rfl, hr6, ho6, hm6, hc6, hk6⟩; have X6 := Lib.hid (And.intro hr6 (And.intro (ho6.trans XR.out.2.1) (And.intro (XR.out.2.2.1.trans hm6) (And.intro hc6 hk6)))); have M6 := Lib.hid hm6; clear hr6 ho6 hm6 hc6 hk6)
          generalize lotRd rp = pr at *
          obtain ⟨pd, r6⟩ := pr
          have hur : uv.ownBlock ≠ some rb := fun e => by have := (XR.out.2.2.2.2.2.base _ e).1; omega
          have O6 : OwnI w6 wa0.heap.size 72 9 uv (ps.map (fun l : LotD => l.cells.toList)) := XR.out.2.2.2.2.2.ma M6.out hur
          have HO6 := Lib.hid O6
          skip
          have uc6 : c6[74]? = some uv := (X6.out.2.2.2.2 74 (by omega)).trans XR.out.2.2.2.1
          have KX6 : Hid (KX 74 c6 cs) := Lib.hid (fun j h1 h2 => (X6.out.2.2.2.2 j h1).trans (XR.out.2.2.2.2.1 j h1 h2))
          have cu : w6.cell? ⟨rb, 76, none⟩ = some uv := X6.out.1.cell 76 (by omega) uc6
          have fu : w6.frozen? ⟨rb, 76, none⟩ = false := X6.out.1.fr 76 (by omega) (by omega)
          have hrb6 := X6.out.1.lt
          have hl6 : c6.length = 79 := X6.out.1.len
          have hne6 : w6.heap.size ≠ rb := by omega
          have hne7 : w6.heap.size + 1 ≠ rb := by omega
          have hown : w6.ownsRow wa0.heap.size 72 9 uv ps.length (ps.map (fun l : LotD => l.cells.toList)).flatten := by have := O6.1; rwa [HPL.out] at this
          have huv : ∀ k, uv.ownBlock = some k → v6.ownBlock ≠ some k := fun k hk e => by
            have h1 := (O6.base _ hk).1
            have h2 := hvb0.out k (by rw [← X6.out.2.1]; exact e)
            omega
          have HU := Lib.hid (And.intro hur huv)
          have hps : ps.length < 255 := HLN.out
          have hsz6 : wa0.heap.size ≤ w6.heap.size := X6.out.2.2.1.size
          have HX := Lib.hid X6.out.2.2.2.1
          have e0 : w6.cell? ⟨rb, 34, none⟩ = some (.int .i64 pd.id) := X6.out.1.cell 34 (by omega) (HX.out 0 _ rfl)
          have e1 : w6.cell? ⟨rb, 35, none⟩ = some (.int .i64 pd.kind) := X6.out.1.cell 35 (by omega) (HX.out 1 _ rfl)
          have e2 : w6.cell? ⟨rb, 36, none⟩ = some (.int .i64 pd.frm) := X6.out.1.cell 36 (by omega) (HX.out 2 _ rfl)
          have e3 : w6.cell? ⟨rb, 37, none⟩ = some (.int .i64 pd.till) := X6.out.1.cell 37 (by omega) (HX.out 3 _ rfl)
          have e4 : w6.cell? ⟨rb, 38, none⟩ = some (.int .i64 pd.granted) := X6.out.1.cell 38 (by omega) (HX.out 4 _ rfl)
          have e5 : w6.cell? ⟨rb, 39, none⟩ = some (.int .i64 pd.consumed) := X6.out.1.cell 39 (by omega) (HX.out 5 _ rfl)
          have e6 : w6.cell? ⟨rb, 40, none⟩ = some (.int .i64 pd.held) := X6.out.1.cell 40 (by omega) (HX.out 6 _ rfl)
          have e7 : w6.cell? ⟨rb, 41, none⟩ = some (.int .i64 pd.expired) := X6.out.1.cell 41 (by omega) (HX.out 7 _ rfl)
          have e8 : w6.cell? ⟨rb, 42, none⟩ = some (.int .i64 pd.rolled) := X6.out.1.cell 42 (by omega) (HX.out 8 _ rfl)
          clear hur huv O6
          go_region_law
              (refine step_append_lies _ rfl (.tmp 28) (.tmp 33) 41 rfl wa0.heap.size 72 i0 (.agg lotZ.cells) 9 72 Tryd.underlying41 hi0 hz00 hz01 hz02 rfl (by decide) uv ps.length (ps.map (fun l : LotD => l.cells.toList)).flatten rfl (hown.drew.alloc _) ⟨w6.heap.size, 0, none⟩ 1 1 (pd.cells).toList rfl rfl (news_row _ _ _) (one_cells_mem (lot_one_cells pd)) (by decide) (by unfold maxLen; omega) (by omega) (by simp; omega) (w6.heap.size + 1) (by simp) ?_
               intro g' cap w8 hown8 hgrow hg hlt8
               have hnr : (Value.slice (some ⟨g', 0, none⟩) (ps.length + 1) cap).ownBlock ≠ some rb := fun e => by
                 have e2 : g' = rb := by simpa [Value.ownBlock] using e
                 rcases hg with hg | hg
                 · exact HU.out.1 (by rw [hg, e2])
                 · omega
               have c8 : w8.cell? ⟨rb, 76, none⟩ = some uv := (World.cell?_of_block (a := ⟨rb, 76, none⟩) ((hgrow.block rb (by simp; omega) (fun e => HU.out.1 e.symm)).trans ((below_alloc w6 _).block rb hrb6))).trans cu
               have f8 : w8.frozen? ⟨rb, 76, none⟩ = false := (World.frozen?_of_block (a := ⟨rb, 76, none⟩) ((hgrow.block rb (by simp; omega) (fun e => HU.out.1 e.symm)).trans ((below_alloc w6 _).block rb hrb6))).trans fu
               have F8 : Hid (ListAt wa0 rb v cs 74 72 9 (fun l : LotD => l.cells.toList) (manyRd lotRd (N0 - g) r0) (w8.setCell ⟨rb, 76, none⟩ (.slice (some ⟨g', 0, none⟩) (ps.length + 1) cap))) := Lib.hid (by
                 rw [HS2.out]
                 refine ⟨v6, .slice (some ⟨g', 0, none⟩) (ps.length + 1) cap, wrC c6 76 [.slice (some ⟨g', 0, none⟩) (ps.length + 1) cap], X6.out.1.app (wa := (w6.alloc _).drew) (below_alloc _ _).drew hgrow HU.out.1 HU.out.2 _ 76 (by omega) (by omega), X6.out.2.1, ma_app X6.out.2.2.1 (wa := (w6.alloc _).drew) (below_alloc _ _).drew hgrow (fun k hk => (HO6.out.base k hk).1) HU.out.1 hrb6, ?_, ?_, ?_, ?_⟩
                 · rw [show 74 = 76 - 2 + 0 by omega, wrC_in _ _ _ (by show 76 - 2 + 1 ≤ c6.length; omega) 0 (by show 0 < 1; omega)]; rfl
                 · intro j h1 h2
                   rw [wrC_out _ _ _ (by show 76 - 2 + 1 ≤ c6.length; omega) j (by show j < 76 - 2 ∨ 76 - 2 + 1 ≤ j; omega)]
                   exact KX6.out j h1 h2
                 · have := HO6.out.add (x := (pd.cells).toList) (o := 76) rfl (by rw [HPL.out]; exact hown8) hnr (.slice (some ⟨g', 0, none⟩) (ps.length + 1) cap)
                   simpa using this
                 · show (ps ++ [pd]).length ≤ 255
                   simp only [List.length_append, List.length_singleton]
                   omega)
               clear hown8 hgrow hg hnr)
          all_goals clear hown cu fu e0 e1 e2 e3 e4 e5 e6 e7 e8
          all_goals go_wp2
          all_goals go_roundg g
          all_goals first
            | (case measure => omega)
            | skip
          all_goals exact ⟨by omega, by first | rfl | go_num, F8.out⟩
        · have hb : (rp.err == 0) = false := by simp [he]
          have HS2 : Hid (manyRd lotRd N0 r0 = (ps, rp)) := Lib.hid (HST.out he)
          clear he
          go_wp2
          go_meet
          rw [HS2.out]
          exact HPP.out
  case rest =>
    obtain ⟨wl0, rfl⟩ : ∃ x : World, x = wc := ⟨_, rfl⟩
    have L0 : Hid (ListAt wa0 rb v cs 74 72 9 (fun l : LotD => l.cells.toList) (manyRd lotRd N0 r0) wl0) := Lib.hid hcut
    rw [← E0.out] at L0
    clear hcut hvb0
    obtain ⟨v1, lv, c1, k1, k2, k3, k4, k5, k6, k7⟩ := L0.out
    have FE := Lib.hid (fillRd_eq r)
    generalize lotsRd r = lr0 at *
    obtain ⟨ls, q1⟩ := lr0
    have hlv : Fr w.heap.size lv := fun k hk => by have := (k6.base k hk).1; have := Y0.out.2.2.size; omega
    have S1 : Hid (RR wl0 rb v1 q1 c1 ∧ v1.ownBlock = v.ownBlock ∧ MA w wl0 rb ∧ c1[74]? = some lv ∧ KX 74 c1 cs ∧ RdLots wl0 lv ls ∧ Fr w.heap.size lv) := Lib.hid ⟨k1, k2, Y0.out.2.2.trans k3, k4, k5, OwnI.items k6, hlv⟩
    have hrb1 := k1.lt
    have hlc1 := k1.len
    clear k1 k2 k3 k4 k5 k6 k7 hlv L0
    go_upto_region 5 with (fail)
    go_cut [] (fun wx => ∃ v2 : Value, RR wx rb v2 (Re.ints 2 q1).2 (wrC c1 77 ((Re.ints 2 q1).1.map (Value.int .i64))) ∧ v2.ownBlock = v1.ownBlock ∧ MA wl0 wx rb)
    case first =>
      go_region_with (go_at_call 78; go_must (refine (rr_ints rb 77 2 _ _ v1 q1 _ _ wl0 _ S1.out.1 (below_alloc _ _).drew rfl (by omega) (by omega) (ptrs_of_block (Nat.le_refl _) (heap_alloc_new _ _))).mono ?_); rintro e w9 ⟨v9, rfl, hr9, ho9, hm9⟩)
      all_goals (try go_wp2)
      all_goals go_meet
      all_goals exact ⟨v9, hr9, ho9, hm9⟩
    case rest =>
      obtain ⟨w2, rfl⟩ : ∃ x : World, x = wc := ⟨_, rfl⟩
      obtain ⟨v2, g1, g2, g3⟩ := hcut
      have hi2 : ((Re.ints 2 q1).1.map (Value.int .i64)).length = 2 := by rw [List.length_map, Re.ints_length]
      have hi3 := two_map' _ (Re.ints_length 2 q1)
      obtain ⟨c2, hc2⟩ : ∃ c, c = wrC c1 77 ((Re.ints 2 q1).1.map (Value.int .i64)) := ⟨_, rfl⟩
      rw [← hc2] at g1
      generalize (Re.ints 2 q1).1.getD 0 0 = nx at *
      generalize (Re.ints 2 q1).1.getD 1 0 = ov at *
      generalize (Re.ints 2 q1).2 = q2 at *
      have S2 : Hid (RR w2 rb v2 q2 c2 ∧ v2.ownBlock = v.ownBlock ∧ MA w w2 rb ∧ c2[77]? = some (.slice none 0 0) ∧ (c2[78]? = some (.slice none 0 0) ∧ c2[74]? = some lv ∧ c2[75]? = some (.int .i64 nx) ∧ c2[76]? = some (.int .i64 ov) ∧ ∀ j : Nat, 59 ≤ j → j < 74 → c2[j]? = cs[j]?) ∧ (RdLots w2 lv ls ∧ Fr w.heap.size lv)) := Lib.hid (by
        obtain ⟨s1, s2, s3, s4, s5, s6, s7⟩ := S1.out
        have o1 : ∀ j : Nat, j ≠ 75 → j ≠ 76 → c2[j]? = c1[j]? := fun j h1 h2 => by rw [hc2, wrC_out _ _ _ (by omega) j (by omega)]
        refine ⟨g1, g2.trans s2, s3.trans g3, (o1 77 (by omega) (by omega)).trans ((s5 77 (by omega) (by omega)).trans H.out.2.2.2.1), ⟨(o1 78 (by omega) (by omega)).trans ((s5 78 (by omega) (by omega)).trans H.out.2.2.2.2), (o1 74 (by omega) (by omega)).trans s4, ?_, ?_, fun j h1 h2 => (o1 j (by omega) (by omega)).trans (s5 j h1 (by omega))⟩, s6.ma g3 (s7.ne HRBW.out), s7⟩
        · rw [hc2, show 75 = 77 - 2 + 0 by omega, wrC_in _ _ _ (by omega) 0 (by omega), hi3]; rfl
        · rw [hc2, show 76 = 77 - 2 + 1 by omega, wrC_in _ _ _ (by omega) 1 (by omega), hi3]; rfl)
      have hrb2 := g1.lt
      clear g1 g2 g3 hi2 hi3 hc2 hlc1 S1
      go_upto_block 2 with (go_at_call 77; go_must (refine (rr_one rb v2 q2 c2 w2 S2.out.1).mono ?_); rintro e wa1 ⟨va1, rfl, hr, ho, hm⟩; have Y1 := Lib.hid (And.intro hr (And.intro (ho.trans S2.out.2.1) (And.intro (S2.out.2.2.1.trans hm) hm))); clear hr ho hm)
      obtain ⟨N1, hN1, hM1⟩ : ∃ N : Nat, (q2).one.1 = N ∧ N ≤ 255 := ⟨(q2).one.1.toNat, (reone_cast (q2)).1, (reone_cast (q2)).2⟩
      have E1 : Hid (holdsRd q2 = manyRd holdRd N1 (q2).one.2) := Lib.hid (by show manyRd holdRd (q2).one.1.toNat (q2).one.2 = _; rw [hN1, Int.toNat_natCast])
      rw [hN1]
      generalize hr1 : (q2).one.2 = r1 at *
      clear hN1 hr1
      have hvb1 : Hid (∀ k, v.ownBlock = some k → k < wa1.heap.size) := Lib.hid (fun k hk => by have := hvb.out k hk; have := Y1.out.2.2.1.size; omega)
      have hrba1 := Y1.out.1.lt
      go_cut [3] (fun s3 wx => HoldsAt wa1 rb v c2 (manyRd holdRd N1 r1) wx)
      case first =>
        go_wp2_with fail
        go_loopg [3] N1 (fun g s3 wr => g ≤ N1 ∧ s3 = .int .i64 g ∧ HoldsAt wa1 rb v c2 (manyRd holdRd (N1 - g) r1) wr)
        case atStart => exact ⟨Nat.le_refl _, rfl, by
          rw [Nat.sub_self, many_zero]
          exact ⟨va1, .slice none 0 0, c2, [], Y1.out.1, Y1.out.2.1, Mods.refl _ _ _, S2.out.2.2.2.1, fun _ _ _ => rfl, OwnI.nil _ _ _ _, Nat.zero_le _, rfl, fun _ h => by cases h⟩⟩
        case round =>
          obtain ⟨hgN, rfl, hP⟩ := hrel
          cases gk with
          | zero =>
            have FP : Hid (HoldsAt wa1 rb v c2 (manyRd holdRd N1 r1) wr) := Lib.hid hP
            clear hP
            go_wp2
            go_meet
            exact FP.out
          | succ g =>
            have HSN : Hid (manyRd holdRd (N1 - g) r1 = if (manyRd holdRd (N1 - (g + 1)) r1).2.err = 0 then ((manyRd holdRd (N1 - (g + 1)) r1).1 ++ [(holdRd (manyRd holdRd (N1 - (g + 1)) r1).2).1], (holdRd (manyRd holdRd (N1 - (g + 1)) r1).2).2) else manyRd holdRd (N1 - (g + 1)) r1) := Lib.hid (by
              rw [show N1 - g = N1 - (g + 1) + 1 by omega]; exact many_snoc _ _ _)
            have HST : Hid ((manyRd holdRd (N1 - (g + 1)) r1).2.err ≠ 0 → manyRd holdRd N1 r1 = manyRd holdRd (N1 - (g + 1)) r1) := Lib.hid (fun h => by
              have := many_stop holdRd (N1 - (g + 1)) r1 h (g + 1)
              rwa [show N1 - (g + 1) + (g + 1) = N1 by omega] at this)
            have HLN : Hid ((manyRd holdRd (N1 - (g + 1)) r1).1.length < 255) := Lib.hid (by have := many_length holdRd (N1 - (g + 1)) r1; omega)
            generalize manyRd holdRd (N1 - (g + 1)) r1 = p at *
            obtain ⟨ps, rp⟩ := p
            have hg0 : (0 : Int) < (g : Int) + 1 := by omega
            have hg1 : (g : Int) + 1 ≤ 255 := by omega
            have HPP := Lib.hid hP
            obtain ⟨vr, uv, cr, hs, hRR, ho, hm, huc, hkx, hO, hpl, hhs, hpp⟩ := hP
            have c1 : wr.cell? ⟨rb, 1, none⟩ = some (.int .i64 rp.err) := hRR.rat.c1
            have hrbr := hRR.lt
            have XR : Hid (RR wr rb vr rp cr ∧ vr.ownBlock = v.ownBlock ∧ MA wa1 wr rb ∧ cr[77]? = some uv ∧ KX 77 cr c2 ∧ OwnI wr wa1.heap.size 75 4 uv (hs.map (fun h : HoldD × Value => (h.1.cells h.2).toList)) ∧ hs.map (·.1) = ps ∧ ∀ h ∈ hs, OwnI wr wa1.heap.size 86 2 h.2 (partsC h.1.parts) ∧ ∀ k, h.2.ownBlock = some k → uv.ownBlock ≠ some k) := Lib.hid ⟨hRR, ho, hm, huc, hkx, hO, hhs, hpp⟩
            have HPL : Hid ((hs.map (fun h : HoldD × Value => (h.1.cells h.2).toList)).length = ps.length) := Lib.hid (by rw [List.length_map]; have := congrArg List.length hhs; simpa using this)
            clear hRR ho hm huc hkx hO hpl hhs hpp
            by_cases he : rp.err = 0
            · have hb : (rp.err == 0) = true := by rw [he]; rfl
              have HS2 : Hid (manyRd holdRd (N1 - g) r1 = (ps ++ [(holdRd rp).1], (holdRd rp).2)) := Lib.hid (by have := HSN.out; simp only at this; rw [if_pos he] at this; exact this)
              clear he
              go_upto_region 10 with (go_at_call 61; go_must (refine (el_hold rb vr rp cr wr XR.out.1).mono ?_); rintro e w6 ⟨v6, c6, pv, rfl, hr6, ho6, hm6, hc6, hk6, hp6⟩; have X6 := Lib.hid (And.intro hr6 (And.intro (ho6.trans XR.out.2.1) (And.intro (XR.out.2.2.1.trans hm6) (And.intro hc6 hk6)))); have M6 := Lib.hid hm6; clear hr6 ho6 hm6 hc6 hk6)
              generalize holdRd rp = pr at *
              obtain ⟨pd, r6⟩ := pr
              have hur : uv.ownBlock ≠ some rb := fun e => by have := (XR.out.2.2.2.2.2.1.base _ e).1; omega
              have O6 : OwnI w6 wa1.heap.size 75 4 uv (hs.map (fun h : HoldD × Value => (h.1.cells h.2).toList)) := XR.out.2.2.2.2.2.1.ma M6.out hur
              have HO6 := Lib.hid O6
              have HPV : Hid (pv.oneCell' = true) := Lib.hid (by obtain ⟨ha, hc, hpv⟩ := (OwnI.items hp6).len; rw [hpv]; rfl)
              have P6 : Hid (OwnI w6 wr.heap.size 86 2 pv (partsC pd.parts)) := Lib.hid hp6
              have szr : Hid (wa1.heap.size ≤ wr.heap.size ∧ wr.heap.size ≤ w6.heap.size) := Lib.hid ⟨XR.out.2.2.1.size, M6.out.size⟩
              clear hp6
              have uc6 : c6[77]? = some uv := (X6.out.2.2.2.2 77 (by omega)).trans XR.out.2.2.2.1
              have KX6 : Hid (KX 77 c6 c2) := Lib.hid (fun j h1 h2 => (X6.out.2.2.2.2 j h1).trans (XR.out.2.2.2.2.1 j h1 h2))
              have cu : w6.cell? ⟨rb, 79, none⟩ = some uv := X6.out.1.cell 79 (by omega) uc6
              have fu : w6.frozen? ⟨rb, 79, none⟩ = false := X6.out.1.fr 79 (by omega) (by omega)
              have hrb6 := X6.out.1.lt
              have hl6 : c6.length = 79 := X6.out.1.len
              have hne6 : w6.heap.size ≠ rb := by omega
              have hne7 : w6.heap.size + 1 ≠ rb := by omega
              have hown : w6.ownsRow wa1.heap.size 75 4 uv ps.length (hs.map (fun h : HoldD × Value => (h.1.cells h.2).toList)).flatten := by have := O6.1; rwa [HPL.out] at this
              have huv : ∀ k, uv.ownBlock = some k → v6.ownBlock ≠ some k := fun k hk e => by
                have h1 := (O6.base _ hk).1
                have h2 := hvb1.out k (by rw [← X6.out.2.1]; exact e)
                omega
              have HU := Lib.hid (And.intro hur huv)
              have hps : ps.length < 255 := HLN.out
              have hsz6 : wa1.heap.size ≤ w6.heap.size := X6.out.2.2.1.size
              have HX := Lib.hid X6.out.2.2.2.1
              have e0 : w6.cell? ⟨rb, 43, none⟩ = some (.int .i64 pd.id) := X6.out.1.cell 43 (by omega) (HX.out 0 _ rfl)
              have e1 : w6.cell? ⟨rb, 44, none⟩ = some (pv) := X6.out.1.cell 44 (by omega) (HX.out 1 _ rfl)
              have e2 : w6.cell? ⟨rb, 45, none⟩ = some (.int .i64 pd.over) := X6.out.1.cell 45 (by omega) (HX.out 2 _ rfl)
              have e3 : w6.cell? ⟨rb, 46, none⟩ = some (.int .i64 pd.till) := X6.out.1.cell 46 (by omega) (HX.out 3 _ rfl)
              clear hur huv O6
              go_region_law
                  (refine step_append_lies _ rfl (.tmp 74) (.tmp 79) 42 rfl wa1.heap.size 75 i1 (.agg (holdZ.cells (.slice none 0 0))) 4 48 Tryd.underlying42 hi1 hz10 hz11 hz12 rfl (by decide) uv ps.length (hs.map (fun h : HoldD × Value => (h.1.cells h.2).toList)).flatten rfl (hown.drew.alloc _) ⟨w6.heap.size, 0, none⟩ 1 1 (pd.cells pv).toList rfl rfl (news_row _ _ _) (one_cells_mem (hold_one_cells_v pd pv HPV.out)) (by decide) (by unfold maxLen; omega) (by omega) (by simp; omega) (w6.heap.size + 1) (by simp) ?_
                   intro g' cap w8 hown8 hgrow hg hlt8
                   have hnr : (Value.slice (some ⟨g', 0, none⟩) (ps.length + 1) cap).ownBlock ≠ some rb := fun e => by
                     have e2 : g' = rb := by simpa [Value.ownBlock] using e
                     rcases hg with hg | hg
                     · exact HU.out.1 (by rw [hg, e2])
                     · omega
                   have c8 : w8.cell? ⟨rb, 79, none⟩ = some uv := (World.cell?_of_block (a := ⟨rb, 79, none⟩) ((hgrow.block rb (by simp; omega) (fun e => HU.out.1 e.symm)).trans ((below_alloc w6 _).block rb hrb6))).trans cu
                   have f8 : w8.frozen? ⟨rb, 79, none⟩ = false := (World.frozen?_of_block (a := ⟨rb, 79, none⟩) ((hgrow.block rb (by simp; omega) (fun e => HU.out.1 e.symm)).trans ((below_alloc w6 _).block rb hrb6))).trans fu
                   have F8 : Hid (HoldsAt wa1 rb v c2 (manyRd holdRd (N1 - g) r1) (w8.setCell ⟨rb, 79, none⟩ (.slice (some ⟨g', 0, none⟩) (ps.length + 1) cap))) := Lib.hid (by
                     rw [HS2.out]
                     refine ⟨v6, .slice (some ⟨g', 0, none⟩) (ps.length + 1) cap, wrC c6 79 [.slice (some ⟨g', 0, none⟩) (ps.length + 1) cap], hs ++ [(pd, pv)], X6.out.1.app (wa := (w6.alloc _).drew) (below_alloc _ _).drew hgrow HU.out.1 HU.out.2 _ 79 (by omega) (by omega), X6.out.2.1, ma_app X6.out.2.2.1 (wa := (w6.alloc _).drew) (below_alloc _ _).drew hgrow (fun k hk => (HO6.out.base k hk).1) HU.out.1 hrb6, ?_, ?_, ?_, ?_, ?_, ?_⟩
                     · rw [show 77 = 79 - 2 + 0 by omega, wrC_in _ _ _ (by show 79 - 2 + 1 ≤ c6.length; omega) 0 (by show 0 < 1; omega)]; rfl
                     · intro j h1 h2
                       rw [wrC_out _ _ _ (by show 79 - 2 + 1 ≤ c6.length; omega) j (by show j < 79 - 2 ∨ 79 - 2 + 1 ≤ j; omega)]
                       exact KX6.out j h1 h2
                     · have := HO6.out.add (x := (pd.cells pv).toList) (o := 79) rfl (by rw [HPL.out]; exact hown8) hnr (.slice (some ⟨g', 0, none⟩) (ps.length + 1) cap)
                       simpa using this
                     · show (ps ++ [pd]).length ≤ 255
                       simp only [List.length_append, List.length_singleton]
                       omega
                     · rw [List.map_append, XR.out.2.2.2.2.2.2.1]
                       rfl
                     · intro h hm
                       rcases List.mem_append.1 hm with hm | hm
                       · obtain ⟨q1', q2'⟩ := XR.out.2.2.2.2.2.2.2 h hm
                         have hrh : h.2.ownBlock ≠ some rb := fun e => by have := (q1'.base _ e).1; omega
                         have q6 := q1'.ma M6.out hrh
                         exact ⟨own_app q6 q2' hrh (wa := (w6.alloc _).drew) (below_alloc _ _).drew hgrow, fun k hk => own_off hg (by have := (q6.base k hk).2; omega) (q2' k hk)⟩
                       · simp at hm
                         subst hm
                         have hrh : pv.ownBlock ≠ some rb := fun e => by have := (P6.out.base _ e).1; have := szr.out; omega
                         have huk : ∀ k, pv.ownBlock = some k → uv.ownBlock ≠ some k := fun k hk e => by
                           have := (P6.out.base k hk).1
                           have := (XR.out.2.2.2.2.2.1.base k e).2
                           omega
                         exact ⟨own_app (P6.out.lower szr.out.1) huk hrh (wa := (w6.alloc _).drew) (below_alloc _ _).drew hgrow, fun k hk => own_off hg (by have := (P6.out.base k hk).2; omega) (huk k hk)⟩)
                   clear hown8 hgrow hg hnr)
              all_goals clear hown cu fu e0 e1 e2 e3
              all_goals go_wp2
              all_goals go_roundg g
              all_goals first
                | (case measure => omega)
                | skip
              all_goals exact ⟨by omega, by first | rfl | go_num, F8.out⟩
            · have hb : (rp.err == 0) = false := by simp [he]
              have HS2 : Hid (manyRd holdRd N1 r1 = (ps, rp)) := Lib.hid (HST.out he)
              clear he
              go_wp2
              go_meet
              rw [HS2.out]
              exact HPP.out
      case rest =>
        obtain ⟨wl1, rfl⟩ : ∃ x : World, x = wc := ⟨_, rfl⟩
        have L1 : Hid (HoldsAt wa1 rb v c2 (manyRd holdRd N1 r1) wl1) := Lib.hid hcut
        rw [← E1.out] at L1
        clear hcut hvb1
        obtain ⟨v3, hv, c3, hs, k1, k2, k3, k4, k5, k6, k7, k8, k9⟩ := L1.out
        generalize hq3 : holdsRd q2 = hr0 at *
        obtain ⟨hl0, q3⟩ := hr0
        have hm23 : MA w2 wl1 rb := Y1.out.2.2.2.trans k3
        have hhv : Fr w.heap.size hv := fun k hk => by have := (k6.base k hk).1; have := Y1.out.2.2.1.size; omega
        obtain ⟨w3, rfl⟩ : ∃ x : World, x = wl1 := ⟨_, rfl⟩
        have S3 : Hid (RR w3 rb v3 q3 c3 ∧ v3.ownBlock = v.ownBlock ∧ MA w w3 rb ∧ c3[78]? = some (.slice none 0 0) ∧ (c3[74]? = some lv ∧ c3[75]? = some (.int .i64 nx) ∧ c3[76]? = some (.int .i64 ov) ∧ c3[77]? = some hv ∧ ∀ j : Nat, 59 ≤ j → j < 74 → c3[j]? = cs[j]?) ∧ (RdLots w3 lv ls ∧ Fr w.heap.size lv) ∧ (RdHolds w3 hv hs ∧ hs.map (·.1) = hl0 ∧ Fr w.heap.size hv ∧ ∀ h ∈ hs, Fr w.heap.size h.2)) := Lib.hid (by
          obtain ⟨s1, s2, s3, s4, s5, s6⟩ := S2.out
          exact ⟨k1, k2, s3.trans hm23, (k5 78 (by omega) (by omega)).trans s5.1, ⟨(k5 74 (by omega) (by omega)).trans s5.2.1, (k5 75 (by omega) (by omega)).trans s5.2.2.1, (k5 76 (by omega) (by omega)).trans s5.2.2.2.1, k4, fun j h1 h2 => (k5 j h1 (by omega)).trans (s5.2.2.2.2 j h1 h2)⟩,
            ⟨s6.1.ma hm23 (s6.2.ne HRBW.out), s6.2⟩, ⟨OwnI.items k6, fun x hx => OwnI.items (k9 x hx).1⟩, k8, hhv, fun x hx k hk => by have := ((k9 x hx).1.base k hk).1; have := Y1.out.2.2.1.size; omega⟩)
        have hrb3 := k1.lt
        clear k1 k2 k3 k4 k5 k6 k7 k8 k9 hm23 hhv L1 S2
        go_upto_block 4 with (go_at_call 77; go_must (refine (rr_one rb v3 q3 c3 w3 S3.out.1).mono ?_); rintro e wa2 ⟨va2, rfl, hr, ho, hm⟩; have Y2 := Lib.hid (And.intro hr (And.intro (ho.trans S3.out.2.1) (And.intro (S3.out.2.2.1.trans hm) hm))); clear hr ho hm)
        obtain ⟨N2, hN2, hM2⟩ : ∃ N : Nat, (q3).one.1 = N ∧ N ≤ 255 := ⟨(q3).one.1.toNat, (reone_cast (q3)).1, (reone_cast (q3)).2⟩
        have E2 : Hid (winRd q3 = manyRd entryRd N2 (q3).one.2) := Lib.hid (by show manyRd entryRd (q3).one.1.toNat (q3).one.2 = _; rw [hN2, Int.toNat_natCast])
        rw [hN2]
        generalize hr2 : (q3).one.2 = r2 at *
        clear hN2 hr2
        have hvb2 : Hid (∀ k, v.ownBlock = some k → k < wa2.heap.size) := Lib.hid (fun k hk => by have := hvb.out k hk; have := Y2.out.2.2.1.size; omega)
        have hrba2 := Y2.out.1.lt
        have FINF : Hid (∀ wx, ListAt wa2 rb v c3 78 77 14 (fun l : EntryD => l.cells.toList) (manyRd entryRd N2 r2) wx → FillPost w rb v r cs (.returned (.tuple #[])) wx) := Lib.hid (by
          intro wx hL
          rw [← E2.out] at hL
          obtain ⟨v4, wv, c4, k1, k2, k3, k4, k5, k6, k7⟩ := hL
          have hm34 : MA w3 wx rb := Y2.out.2.2.2.trans k3
          have hwv : Fr w.heap.size wv := fun k hk => by have := (k6.base k hk).1; have := Y2.out.2.2.1.size; omega
          unfold FillPost
          rw [FE.out]
          obtain ⟨s1, s2, s3, s4, s5, s6, s7⟩ := S3.out
          exact ⟨v4, c4, lv, hv, wv, hs, rfl, k1, k2.trans rfl, s3.trans hm34, ⟨(k5 74 (by omega) (by omega)).trans s5.1, (k5 75 (by omega) (by omega)).trans s5.2.1, (k5 76 (by omega) (by omega)).trans s5.2.2.1, (k5 77 (by omega) (by omega)).trans s5.2.2.2.1, k4, fun j h1 h2 => (k5 j h1 (by omega)).trans (s5.2.2.2.2 j h1 h2)⟩,
            s6.1.ma hm34 (s6.2.ne HRBW.out), ⟨s7.1.1.ma hm34 (s7.2.2.1.ne HRBW.out), fun x hx => Items.ma (s7.1.2 x hx) hm34 ((s7.2.2.2 x hx).ne HRBW.out)⟩, s7.2.1, OwnI.items k6, s6.2, s7.2.2.1, hwv, s7.2.2.2⟩)
        go_wp2_with fail
        go_loopg [4] N2 (fun g s4 wr => g ≤ N2 ∧ s4 = .int .i64 g ∧ ListAt wa2 rb v c3 78 77 14 (fun l : EntryD => l.cells.toList) (manyRd entryRd (N2 - g) r2) wr)
        case atStart => exact ⟨Nat.le_refl _, rfl, by
          rw [Nat.sub_self, many_zero]
          exact ⟨va2, .slice none 0 0, c3, Y2.out.1, Y2.out.2.1, Mods.refl _ _ _, S3.out.2.2.2.1, fun _ _ _ => rfl, OwnI.nil _ _ _ _, Nat.zero_le _⟩⟩
        case round =>
          obtain ⟨hgN, rfl, hP⟩ := hrel
          cases gk with
          | zero =>
            have FP : Hid (ListAt wa2 rb v c3 78 77 14 (fun l : EntryD => l.cells.toList) (manyRd entryRd N2 r2) wr) := Lib.hid hP
            clear hP
            have FF := Lib.hid (FINF.out _ FP.out)
            go_wp2
            go_end0
            exact FF.out
          | succ g =>
            have HSN : Hid (manyRd entryRd (N2 - g) r2 = if (manyRd entryRd (N2 - (g + 1)) r2).2.err = 0 then ((manyRd entryRd (N2 - (g + 1)) r2).1 ++ [(entryRd (manyRd entryRd (N2 - (g + 1)) r2).2).1], (entryRd (manyRd entryRd (N2 - (g + 1)) r2).2).2) else manyRd entryRd (N2 - (g + 1)) r2) := Lib.hid (by
              rw [show N2 - g = N2 - (g + 1) + 1 by omega]; exact many_snoc _ _ _)
            have HST : Hid ((manyRd entryRd (N2 - (g + 1)) r2).2.err ≠ 0 → manyRd entryRd N2 r2 = manyRd entryRd (N2 - (g + 1)) r2) := Lib.hid (fun h => by
              have := many_stop entryRd (N2 - (g + 1)) r2 h (g + 1)
              rwa [show N2 - (g + 1) + (g + 1) = N2 by omega] at this)
            have HLN : Hid ((manyRd entryRd (N2 - (g + 1)) r2).1.length < 255) := Lib.hid (by have := many_length entryRd (N2 - (g + 1)) r2; omega)
            generalize manyRd entryRd (N2 - (g + 1)) r2 = p at *
            obtain ⟨ps, rp⟩ := p
            have hg0 : (0 : Int) < (g : Int) + 1 := by omega
            have hg1 : (g : Int) + 1 ≤ 255 := by omega
            have HPP := Lib.hid hP
            obtain ⟨vr, uv, cr, hRR, ho, hm, huc, hkx, hO, hpl⟩ := hP
            have c1 : wr.cell? ⟨rb, 1, none⟩ = some (.int .i64 rp.err) := hRR.rat.c1
            have hrbr := hRR.lt
            have XR : Hid (RR wr rb vr rp cr ∧ vr.ownBlock = v.ownBlock ∧ MA wa2 wr rb ∧ cr[78]? = some uv ∧ KX 78 cr c3 ∧ OwnI wr wa2.heap.size 77 14 uv (ps.map (fun l : EntryD => l.cells.toList))) := Lib.hid ⟨hRR, ho, hm, huc, hkx, hO⟩
            have HPL : Hid ((ps.map (fun l : EntryD => l.cells.toList)).length = ps.length) := Lib.hid (by simp)
            clear hRR ho hm huc hkx hO hpl
            by_cases he : rp.err = 0
            · have hb : (rp.err == 0) = true := by rw [he]; rfl
              have HS2 : Hid (manyRd entryRd (N2 - g) r2 = (ps ++ [(entryRd rp).1], (entryRd rp).2)) := Lib.hid (by have := HSN.out; simp only at this; rw [if_pos he] at this; exact this)
              clear he
              go_upto_region 15 with (go_at_call 61; go_must (refine (el_entry rb vr rp cr wr XR.out.1).mono ?_); rintro e w6 ⟨v6, c6, rfl, hr6, ho6, hm6, hc6, hk6⟩; have X6 := Lib.hid (And.intro hr6 (And.intro (ho6.trans XR.out.2.1) (And.intro (XR.out.2.2.1.trans hm6) (And.intro hc6 hk6)))); have M6 := Lib.hid hm6; clear hr6 ho6 hm6 hc6 hk6)
              generalize entryRd rp = pr at *
              obtain ⟨pd, r6⟩ := pr
              have hur : uv.ownBlock ≠ some rb := fun e => by have := (XR.out.2.2.2.2.2.base _ e).1; omega
              have O6 : OwnI w6 wa2.heap.size 77 14 uv (ps.map (fun l : EntryD => l.cells.toList)) := XR.out.2.2.2.2.2.ma M6.out hur
              have HO6 := Lib.hid O6
              skip
              have uc6 : c6[78]? = some uv := (X6.out.2.2.2.2 78 (by omega)).trans XR.out.2.2.2.1
              have KX6 : Hid (KX 78 c6 c3) := Lib.hid (fun j h1 h2 => (X6.out.2.2.2.2 j h1).trans (XR.out.2.2.2.2.1 j h1 h2))
              have cu : w6.cell? ⟨rb, 80, none⟩ = some uv := X6.out.1.cell 80 (by omega) uc6
              have fu : w6.frozen? ⟨rb, 80, none⟩ = false := X6.out.1.fr 80 (by omega) (by omega)
              have hrb6 := X6.out.1.lt
              have hl6 : c6.length = 79 := X6.out.1.len
              have hne6 : w6.heap.size ≠ rb := by omega
              have hne7 : w6.heap.size + 1 ≠ rb := by omega
              have hown : w6.ownsRow wa2.heap.size 77 14 uv ps.length (ps.map (fun l : EntryD => l.cells.toList)).flatten := by have := O6.1; rwa [HPL.out] at this
              have huv : ∀ k, uv.ownBlock = some k → v6.ownBlock ≠ some k := fun k hk e => by
                have h1 := (O6.base _ hk).1
                have h2 := hvb2.out k (by rw [← X6.out.2.1]; exact e)
                omega
              have HU := Lib.hid (And.intro hur huv)
              have hps : ps.length < 255 := HLN.out
              have hsz6 : wa2.heap.size ≤ w6.heap.size := X6.out.2.2.1.size
              have HX := Lib.hid X6.out.2.2.2.1
              have e0 : w6.cell? ⟨rb, 47, none⟩ = some (.int .i64 pd.id) := X6.out.1.cell 47 (by omega) (HX.out 0 _ rfl)
              have e1 : w6.cell? ⟨rb, 48, none⟩ = some (.int .i64 pd.ans.err) := X6.out.1.cell 48 (by omega) (HX.out 1 _ rfl)
              have e2 : w6.cell? ⟨rb, 49, none⟩ = some (.int .i64 pd.ans.left) := X6.out.1.cell 49 (by omega) (HX.out 2 _ rfl)
              have e3 : w6.cell? ⟨rb, 50, none⟩ = some (.int .i64 pd.ans.over) := X6.out.1.cell 50 (by omega) (HX.out 3 _ rfl)
              have e4 : w6.cell? ⟨rb, 51, none⟩ = some (.int .i64 pd.ans.n) := X6.out.1.cell 51 (by omega) (HX.out 4 _ rfl)
              have e5 : w6.cell? ⟨rb, 52, none⟩ = some (.string pd.ans.stmt.name) := X6.out.1.cell 52 (by omega) (HX.out 5 _ rfl)
              have e6 : w6.cell? ⟨rb, 53, none⟩ = some (.int .i64 pd.ans.stmt.term) := X6.out.1.cell 53 (by omega) (HX.out 6 _ rfl)
              have e7 : w6.cell? ⟨rb, 54, none⟩ = some (.int .i64 pd.ans.stmt.frm) := X6.out.1.cell 54 (by omega) (HX.out 7 _ rfl)
              have e8 : w6.cell? ⟨rb, 55, none⟩ = some (.int .i64 pd.ans.stmt.till) := X6.out.1.cell 55 (by omega) (HX.out 8 _ rfl)
              have e9 : w6.cell? ⟨rb, 56, none⟩ = some (.int .i64 pd.ans.stmt.granted) := X6.out.1.cell 56 (by omega) (HX.out 9 _ rfl)
              have e10 : w6.cell? ⟨rb, 57, none⟩ = some (.int .i64 pd.ans.stmt.consumed) := X6.out.1.cell 57 (by omega) (HX.out 10 _ rfl)
              have e11 : w6.cell? ⟨rb, 58, none⟩ = some (.int .i64 pd.ans.stmt.expired) := X6.out.1.cell 58 (by omega) (HX.out 11 _ rfl)
              have e12 : w6.cell? ⟨rb, 59, none⟩ = some (.int .i64 pd.ans.stmt.rolled) := X6.out.1.cell 59 (by omega) (HX.out 12 _ rfl)
              have e13 : w6.cell? ⟨rb, 60, none⟩ = some (.int .i64 pd.ans.stmt.over) := X6.out.1.cell 60 (by omega) (HX.out 13 _ rfl)
              clear hur huv O6
              go_region_law
                  (refine step_append_lies _ rfl (.tmp 107) (.tmp 112) 43 rfl wa2.heap.size 77 i2 (.agg entryZ.cells) 14 120 Tryd.underlying43 hi2 hz20 hz21 hz22 rfl (by decide) uv ps.length (ps.map (fun l : EntryD => l.cells.toList)).flatten rfl (hown.drew.alloc _) ⟨w6.heap.size, 0, none⟩ 1 1 (pd.cells).toList rfl rfl (news_row _ _ _) (one_cells_mem (entry_one_cells pd)) (by decide) (by unfold maxLen; omega) (by omega) (by simp; omega) (w6.heap.size + 1) (by simp) ?_
                   intro g' cap w8 hown8 hgrow hg hlt8
                   have hnr : (Value.slice (some ⟨g', 0, none⟩) (ps.length + 1) cap).ownBlock ≠ some rb := fun e => by
                     have e2 : g' = rb := by simpa [Value.ownBlock] using e
                     rcases hg with hg | hg
                     · exact HU.out.1 (by rw [hg, e2])
                     · omega
                   have c8 : w8.cell? ⟨rb, 80, none⟩ = some uv := (World.cell?_of_block (a := ⟨rb, 80, none⟩) ((hgrow.block rb (by simp; omega) (fun e => HU.out.1 e.symm)).trans ((below_alloc w6 _).block rb hrb6))).trans cu
                   have f8 : w8.frozen? ⟨rb, 80, none⟩ = false := (World.frozen?_of_block (a := ⟨rb, 80, none⟩) ((hgrow.block rb (by simp; omega) (fun e => HU.out.1 e.symm)).trans ((below_alloc w6 _).block rb hrb6))).trans fu
                   have F8 : Hid (ListAt wa2 rb v c3 78 77 14 (fun l : EntryD => l.cells.toList) (manyRd entryRd (N2 - g) r2) (w8.setCell ⟨rb, 80, none⟩ (.slice (some ⟨g', 0, none⟩) (ps.length + 1) cap))) := Lib.hid (by
                     rw [HS2.out]
                     refine ⟨v6, .slice (some ⟨g', 0, none⟩) (ps.length + 1) cap, wrC c6 80 [.slice (some ⟨g', 0, none⟩) (ps.length + 1) cap], X6.out.1.app (wa := (w6.alloc _).drew) (below_alloc _ _).drew hgrow HU.out.1 HU.out.2 _ 80 (by omega) (by omega), X6.out.2.1, ma_app X6.out.2.2.1 (wa := (w6.alloc _).drew) (below_alloc _ _).drew hgrow (fun k hk => (HO6.out.base k hk).1) HU.out.1 hrb6, ?_, ?_, ?_, ?_⟩
                     · rw [show 78 = 80 - 2 + 0 by omega, wrC_in _ _ _ (by show 80 - 2 + 1 ≤ c6.length; omega) 0 (by show 0 < 1; omega)]; rfl
                     · intro j h1 h2
                       rw [wrC_out _ _ _ (by show 80 - 2 + 1 ≤ c6.length; omega) j (by show j < 80 - 2 ∨ 80 - 2 + 1 ≤ j; omega)]
                       exact KX6.out j h1 h2
                     · have := HO6.out.add (x := (pd.cells).toList) (o := 80) rfl (by rw [HPL.out]; exact hown8) hnr (.slice (some ⟨g', 0, none⟩) (ps.length + 1) cap)
                       simpa using this
                     · show (ps ++ [pd]).length ≤ 255
                       simp only [List.length_append, List.length_singleton]
                       omega)
                   clear hown8 hgrow hg hnr)
              all_goals clear hown cu fu e0 e1 e2 e3 e4 e5 e6 e7 e8 e9 e10 e11 e12 e13
              all_goals go_wp2
              all_goals go_roundg g
              all_goals first
                | (case measure => omega)
                | skip
              all_goals exact ⟨by omega, by first | rfl | go_num, F8.out⟩
            · have hb : (rp.err == 0) = false := by simp [he]
              have HS2 : Hid (manyRd entryRd N2 r2 = (ps, rp)) := Lib.hid (HST.out he)
              clear he
              have FF := Lib.hid (FINF.out _ (by rw [HS2.out]; exact HPP.out))
              go_wp2
              go_end0
              exact FF.out
end Go.Proofs.YtehkgcmdndehaaaDoor

