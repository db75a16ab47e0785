/- Part of the proof: merged texts. -/
import Derived.Test.YtehkgcmdndehaaaDoorGPRA30
import Derived.Test.YtehkgcmdndehaaaDoorGPRA31
import Derived.Test.YtehkgcmdndehaaaDoorGPRA10
namespace Go.Proofs.YtehkgcmdndehaaaDoor
set_option linter.unusedSimpArgs false
set_option linter.unusedVariables false
open Go.RowKit

def accZ (s : ByteArray) : Array Value := (AccD.mk s ⟨#[]⟩ plan0 0 0 0 [] 0 0 [] []).cells (.slice none 0 0) (.slice none 0 0) (.slice none 0 0)
theorem accz_one_cells (s : ByteArray) : (accZ s).all (·.oneCell') = true := by
  unfold accZ AccD.cells
  rw [Array.all_eq_true_iff_forall_mem]
  intro x hx
  simp only [List.mem_toArray, List.mem_cons, List.not_mem_nil, or_false] at hx
  rcases hx with rfl | rfl | rfl | rfl | rfl | rfl | rfl | rfl | rfl | rfl | rfl | rfl | rfl | rfl | rfl | rfl | rfl | rfl | rfl | rfl <;> rfl
attribute [local irreducible] Re.ints Re.str manyRd Re.one ansRd tailRd fillRd planRd
theorem accRd_eq (r : Re) : accRd r = (⟨strB r.str.1, strB r.str.2.str.1, (planRd r.str.2.str.2).1, (Re.ints 3 (planRd r.str.2.str.2).2).1.getD 0 0, (Re.ints 3 (planRd r.str.2.str.2).2).1.getD 1 0, (Re.ints 3 (planRd r.str.2.str.2).2).1.getD 2 0,
    (fillRd (Re.ints 3 (planRd r.str.2.str.2).2).2).1.1, (fillRd (Re.ints 3 (planRd r.str.2.str.2).2).2).1.2.1, (fillRd (Re.ints 3 (planRd r.str.2.str.2).2).2).1.2.2.1, (fillRd (Re.ints 3 (planRd r.str.2.str.2).2).2).1.2.2.2.1, (fillRd (Re.ints 3 (planRd r.str.2.str.2).2).2).1.2.2.2.2⟩, (fillRd (Re.ints 3 (planRd r.str.2.str.2).2).2).2) := rfl
/-- An account's lists lie apart from the record's block. -/
structure AccOut (w : World) (B : Nat) (a : AccD) (lv hv wv : Value) (hs : List (HoldD × Value)) : Prop where
  lots : RdLots w lv a.lots
  holds : RdHolds w hv hs
  heq : hs.map (·.1) = a.holds
  win : RdWin w wv a.window
  nl : Fr B lv
  nh : Fr B hv
  nw : Fr B wv
  np : ∀ h ∈ hs, Fr B h.2
theorem AccOut.ma {w w' : World} {rb B : Nat} {a : AccD} {lv hv wv : Value} {hs : List (HoldD × Value)} (h : AccOut w B a lv hv wv hs) (m : MA w w' rb) (hr : rb < B) : AccOut w' B a lv hv wv hs :=
  ⟨h.lots.ma m (h.nl.ne hr), ⟨h.holds.1.ma m (h.nh.ne hr), fun x hx => Items.ma (h.holds.2 x hx) m ((h.np x hx).ne hr)⟩, h.heq, h.win.ma m (h.nw.ne hr), h.nl, h.nh, h.nw, h.np⟩
theorem AccOut.lower {w : World} {B B' : Nat} {a : AccD} {lv hv wv : Value} {hs : List (HoldD × Value)} (h : AccOut w B a lv hv wv hs) (hb : B' ≤ B) : AccOut w B' a lv hv wv hs := ⟨h.lots, h.holds, h.heq, h.win, h.nl.lower hb, h.nh.lower hb, h.nw.lower hb, fun x hx => (h.np x hx).lower hb⟩
def AccRdPost (w : World) (rb : Nat) (v : Value) (r : Re) (e : Ending) (w' : World) : Prop :=
  ∃ (v' : Value) (c' : List Value) (lv hv wv : Value) (hs : List (HoldD × Value)), e = .returned (.tuple #[]) ∧ RR w' rb v' (accRd r).2 c' ∧ v'.ownBlock = v.ownBlock ∧ MA w w' rb
    ∧ (∀ (j : Nat) (u : Value), ((accRd r).1.cells lv hv wv).toList[j]? = some u → c'[59 + j]? = some u) ∧ AccOut w' w.heap.size (accRd r).1 lv hv wv hs
set_option maxHeartbeats 3200000 in
set_option maxRecDepth 100000 in
theorem rr_acc (rb : Nat) (v : Value) (r : Re) (cs : List Value) (w : World) (h : RR w rb v r cs) :
    Calls Tryd.prog 61 #[.pointer (some ⟨rb, 0, none⟩), .int .i64 6] w (AccRdPost w rb v r) := by
  have H := Lib.hid (And.intro h h.len)
  have hrb := h.lt
  have FE := Lib.hid (accRd_eq r)
  clear h
  go_enter Tryd.func61, Tryd.ntmps61
  go_upto_region 25 with (first
    | (go_at_call 76; go_must (refine (rr_str rb v r cs w H.out.1).mono ?_); rintro e w1 ⟨v1, rfl, hr1, ho1, hm1⟩; have X1 := Lib.hid (And.intro hr1 (And.intro ho1 hm1)); clear hr1 ho1 hm1)
    | (refine wpList_store_mid rfl 45 (.tmp 136) (.tmp 134) rfl rb 61 (accZ (strB r.str.1)) rfl rfl (X1.out.1.there 61 20 (by omega) (by omega)) (by kernel_rfl) (accz_one_cells _) ?_))
  change Code.wp _ _ _ _ (w1.setCells rb 61 (accZ (strB r.str.1)).toList)
  have X2 : Hid (RR (w1.setCells rb 61 (accZ (strB r.str.1)).toList) rb v1 r.str.2 (wrC cs 61 (accZ (strB r.str.1)).toList) ∧ v1.ownBlock = v.ownBlock ∧ MA w (w1.setCells rb 61 (accZ (strB r.str.1)).toList) rb) := Lib.hid ⟨X1.out.1.set 61 _ (by omega) (by show 61 + 20 ≤ 81; omega), X1.out.2.1, X1.out.2.2.trans (ma_setCells _ _ _ _)⟩
  have hc2l : (wrC cs 61 (accZ (strB r.str.1)).toList).length = 79 := by rw [wrC_length _ _ _ (by have := H.out.2; show 61 - 2 + 20 ≤ cs.length; omega)]; exact H.out.2
  have hc2 : Hid (∀ (j : Nat) (u : Value), (accZ (strB r.str.1)).toList[j]? = some u → (wrC cs 61 (accZ (strB r.str.1)).toList)[59 + j]? = some u) := Lib.hid (fun j u hj => by
    rw [show 59 + j = 61 - 2 + j by omega, wrC_in _ _ _ (by have := H.out.2; show 61 - 2 + 20 ≤ cs.length; omega) j (List.getElem?_eq_some_iff.1 hj).1]; exact hj)
  generalize w1.setCells rb 61 (accZ (strB r.str.1)).toList = W2 at *
  generalize wrC cs 61 (accZ (strB r.str.1)).toList = c2 at *
  clear X1
  generalize hr1 : r.str = s1 at *
  obtain ⟨s1, r1⟩ := s1
  clear hr1
  go_upto_region 25 with (fail)
  have HL2 := Lib.hid hc2l
  have hrb2 := X2.out.1.lt
  go_upto_region 26 with (go_at_call 76; go_must (refine (rr_str rb v1 r1 c2 W2 X2.out.1).mono ?_); rintro e w3 ⟨v3, rfl, hr3, ho3, hm3⟩; have c62 : w3.cell? ⟨rb, 62, none⟩ = some (.string ⟨#[]⟩) := hr3.cell 62 (by omega) (hc2.out 1 _ rfl); have f62 := hr3.fr 62 (by omega) (by omega); have X3 := Lib.hid (And.intro hr3 (And.intro (ho3.trans X2.out.2.1) (X2.out.2.2.trans hm3))); clear hr3 ho3 hm3)
  clear c62 f62
  change Code.wp _ _ _ _ (w3.setCells rb 62 [.string (strB r1.str.1)])
  have X4 : Hid (RR (w3.setCells rb 62 [.string (strB r1.str.1)]) rb v3 r1.str.2 (wrC c2 62 [.string (strB r1.str.1)]) ∧ v3.ownBlock = v.ownBlock ∧ MA w (w3.setCells rb 62 [.string (strB r1.str.1)]) rb) := Lib.hid ⟨X3.out.1.set 62 _ (by omega) (by show 62 + 1 ≤ 81; omega), X3.out.2.1, X3.out.2.2.trans (ma_setCells _ _ _ _)⟩
  generalize w3.setCells rb 62 [.string (strB r1.str.1)] = W4 at *
  clear X3 X2
  generalize hr2 : r1.str = s2 at *
  obtain ⟨s2, r2⟩ := s2
  clear hr2
  have HL4 : Hid ((wrC c2 62 [.string (strB s2)]).length = 79) := Lib.hid (by rw [wrC_length _ _ _ (by have := HL2.out; show 62 - 2 + 1 ≤ c2.length; omega)]; exact HL2.out)
  have HC4 : Hid ((wrC c2 62 [.string (strB s2)])[59]? = some (.string (strB s1)) ∧ (wrC c2 62 [.string (strB s2)])[60]? = some (.string (strB s2)) ∧ ∀ (j : Nat) (u : Value), 2 ≤ j → (accZ (strB s1)).toList[j]? = some u → (wrC c2 62 [.string (strB s2)])[59 + j]? = some u) := Lib.hid (by
    have h2 := HL2.out
    refine ⟨?_, ?_, fun j u h1 hj => ?_⟩
    · rw [wrC_out _ _ _ (by show 62 - 2 + 1 ≤ c2.length; omega) _ (by omega)]; exact hc2.out 0 _ rfl
    · rw [show 60 = 62 - 2 + 0 by omega, wrC_in _ _ _ (by show 62 - 2 + 1 ≤ c2.length; omega) 0 (by show 0 < 1; omega)]; rfl
    · rw [wrC_out _ _ _ (by show 62 - 2 + 1 ≤ c2.length; omega) _ (by show 59 + j < 62 - 2 ∨ 62 - 2 + 1 ≤ 59 + j; omega)]; exact hc2.out j u hj)
  generalize wrC c2 62 [.string (strB s2)] = c4 at *
  clear hc2 hc2l HL2
  have hrb4 := X4.out.1.lt
  go_upto_region 27 with (go_at_call 61; go_must (refine (rr_plan rb v3 r2 c4 W4 X4.out.1).mono ?_); rintro e w5 ⟨v5, rfl, hr5, ho5, hm5⟩; have X5 := Lib.hid (And.intro hr5 (And.intro (ho5.trans X4.out.2.1) (X4.out.2.2.trans hm5))); clear hr5 ho5 hm5)
  generalize planRd r2 = pr at *
  obtain ⟨p, r3⟩ := pr
  have hrb5 := X5.out.1.lt
  have HRG := Lib.hid (X5.out.1.range_in (by omega) (by have := HL4.out; show 2 - 2 + 10 ≤ c4.length; omega))
  go_upto_region 29 with (first
    | (refine wpList_load_mid rfl 26 (.tmp 150) rfl rb 2 rfl p.cells.toList _ HRG.out Tryd.underlying26 rfl (by kernel_rfl) ?_)
    | (refine wpList_store_mid rfl 26 (.tmp 154) (.tmp 151) rfl rb 63 p.cells rfl rfl (X5.out.1.there 63 10 (by omega) (by omega)) (by kernel_rfl) (plan_one_cells _) ?_))
  change Code.wp _ _ _ _ (w5.setCells rb 63 p.cells.toList)
  have X6 : Hid (RR (w5.setCells rb 63 p.cells.toList) rb v5 r3 (wrC (wrC c4 2 p.cells.toList) 63 p.cells.toList) ∧ v5.ownBlock = v.ownBlock ∧ MA w (w5.setCells rb 63 p.cells.toList) rb) := Lib.hid ⟨X5.out.1.set 63 _ (by omega) (by show 63 + 10 ≤ 81; omega), X5.out.2.1, X5.out.2.2.trans (ma_setCells _ _ _ _)⟩
  generalize w5.setCells rb 63 p.cells.toList = W6 at *
  have HC6 : Hid ((wrC (wrC c4 2 p.cells.toList) 63 p.cells.toList)[59]? = some (.string (strB s1)) ∧ (wrC (wrC c4 2 p.cells.toList) 63 p.cells.toList)[60]? = some (.string (strB s2)) ∧ (∀ (j : Nat) (u : Value), p.cells.toList[j]? = some u → (wrC (wrC c4 2 p.cells.toList) 63 p.cells.toList)[61 + j]? = some u) ∧ (wrC (wrC c4 2 p.cells.toList) 63 p.cells.toList).length = 79
      ∧ ∀ (j : Nat) (u : Value), 12 ≤ j → (accZ (strB s1)).toList[j]? = some u → (wrC (wrC c4 2 p.cells.toList) 63 p.cells.toList)[59 + j]? = some u) := Lib.hid (by
    have h4 := HL4.out
    have h5 : (wrC c4 2 p.cells.toList).length = 79 := by rw [wrC_length _ _ _ (by show 2 - 2 + 10 ≤ c4.length; omega)]; exact h4
    have o : ∀ j : Nat, 10 ≤ j → (j < 61 ∨ 71 ≤ j) → (wrC (wrC c4 2 p.cells.toList) 63 p.cells.toList)[j]? = c4[j]? := fun j h1 h2 => by
      rw [wrC_out _ _ _ (by show 63 - 2 + 10 ≤ (wrC c4 2 p.cells.toList).length; omega) j (by show j < 63 - 2 ∨ 63 - 2 + 10 ≤ j; omega), wrC_out _ _ _ (by show 2 - 2 + 10 ≤ c4.length; omega) j (by show j < 2 - 2 ∨ 2 - 2 + 10 ≤ j; omega)]
    refine ⟨(o 59 (by omega) (by omega)).trans HC4.out.1, (o 60 (by omega) (by omega)).trans HC4.out.2.1, fun j u hj => ?_, by rw [wrC_length _ _ _ (by show 63 - 2 + 10 ≤ (wrC c4 2 p.cells.toList).length; omega)]; exact h5, fun j u h1 hj => (o (59 + j) (by omega) (by omega)).trans (HC4.out.2.2 j u (by omega) hj)⟩
    rw [show 61 + j = 63 - 2 + j by omega, wrC_in _ _ _ (by show 63 - 2 + 10 ≤ (wrC c4 2 p.cells.toList).length; omega) j (List.getElem?_eq_some_iff.1 hj).1]
    exact hj)
  generalize wrC (wrC c4 2 p.cells.toList) 63 p.cells.toList = c6 at *
  clear X5 X4 HRG HC4 HL4
  have hrb6 := X6.out.1.lt
  have HN : Hid (∀ W0 : World, Calls Tryd.prog 57 #[.pointer (some ⟨rb, 0, none⟩), .int .i64 6] W0 (PtrsPost W0 rb (offL 73 3))) := Lib.hid (fun W0 => by rw [← offs6]; exact rr_numbers rb 6 W0)
  go_upto_region 29 with (fail)
  go_region_with (first
    | (go_at_call 57; refine (HN.out _).mono ?_; rintro e w3 ⟨ao, rfl, hB3, hP⟩
       have B3 : Hid (Below W6.heap.size W6 w3) := Lib.hid ((Below.refl _ _).drew.trans hB3)
       have P3 := Lib.hid (ptrs_of hP)
       clear hB3 hP)
    | (go_at_call 78
       go_must (refine (rr_ints rb 73 3 _ _ v5 r3 c6 ao W6 w3 X6.out.1 B3.out (offL_length _ _) (by omega) (by omega) P3.out).mono ?_)
       rintro e w7 ⟨v4, rfl, hr4, ho4, hm4⟩
       have X4 := Lib.hid (And.intro hr4 (And.intro ho4 hm4))
       clear hr4 ho4 hm4))
  have hi3 : Hid (((Re.ints 3 r3).1.map (Value.int .i64)).length = 3) := Lib.hid (by rw [List.length_map, Re.ints_length])
  have HC7 : Hid ((wrC c6 73 ((Re.ints 3 r3).1.map (Value.int .i64)))[59]? = some (.string (strB s1)) ∧ (wrC c6 73 ((Re.ints 3 r3).1.map (Value.int .i64)))[60]? = some (.string (strB s2)) ∧ (∀ (j : Nat) (u : Value), p.cells.toList[j]? = some u → (wrC c6 73 ((Re.ints 3 r3).1.map (Value.int .i64)))[61 + j]? = some u)
      ∧ (∀ k : Nat, k < 3 → (wrC c6 73 ((Re.ints 3 r3).1.map (Value.int .i64)))[71 + k]? = some (.int .i64 ((Re.ints 3 r3).1.getD k 0))) ∧ ∀ (j : Nat) (u : Value), 15 ≤ j → (accZ (strB s1)).toList[j]? = some u → (wrC c6 73 ((Re.ints 3 r3).1.map (Value.int .i64)))[59 + j]? = some u) := Lib.hid (by
    have h3 := hi3.out
    have h6 := HC6.out.2.2.2.1
    have o : ∀ j : Nat, (j < 71 ∨ 74 ≤ j) → (wrC c6 73 ((Re.ints 3 r3).1.map (Value.int .i64)))[j]? = c6[j]? := fun j h => wrC_out _ _ _ (by omega) j (by omega)
    refine ⟨(o 59 (by omega)).trans HC6.out.1, (o 60 (by omega)).trans HC6.out.2.1, fun j u hj => (o (61 + j) (by have : j < 10 := (List.getElem?_eq_some_iff.1 hj).1; omega)).trans (HC6.out.2.2.1 j u hj), fun k hk => ?_, fun j u h1 hj => (o (59 + j) (by omega)).trans (HC6.out.2.2.2.2 j u (by omega) hj)⟩
    rw [show 71 + k = 73 - 2 + k by omega, wrC_in _ _ _ (by omega) k (by omega)]
    exact three_at _ (Re.ints_length _ _) k hk)
  generalize wrC c6 73 ((Re.ints 3 r3).1.map (Value.int .i64)) = c7 at *
  have hrb7 := X4.out.1.lt
  clear hi3 HC6
  go_wp2_with (go_at_call 80; go_must (refine (rr_fill rb v4 (Re.ints 3 r3).2 c7 w7 X4.out.1 ⟨HC7.out.2.2.2.2 15 _ (by omega) rfl, HC7.out.2.2.2.2 18 _ (by omega) rfl, HC7.out.2.2.2.2 19 _ (by omega) rfl⟩).mono ?_); rintro e w8 ⟨v8, c8, lv, hv, wv, hs, rfl, k1, k2, k3, k4, k5, k6, k7, k8, k9⟩; have X8 := Lib.hid (And.intro k1 (And.intro k2 (And.intro k3 (And.intro k4 (And.intro k5 (And.intro k6 (And.intro k7 (And.intro k8 k9)))))))); clear k1 k2 k3 k4 k5 k6 k7 k8 k9)
  go_end0
  unfold AccRdPost
  rw [FE.out]
  obtain ⟨k1, k2, k3, k4, k5, k6, k7, k8, k9⟩ := X8.out
  refine ⟨v8, c8, lv, hv, wv, hs, rfl, k1, k2.trans (X4.out.2.1.trans X6.out.2.1), (X6.out.2.2.trans X4.out.2.2).trans k3, fun j u hj => ?_, AccOut.lower (B := w7.heap.size) ⟨k5, k6, k7, k8, k9.1, k9.2.1, k9.2.2.1, k9.2.2.2⟩ (X6.out.2.2.trans X4.out.2.2).size⟩
  match j, hj with
  | 0, hj => cases hj; exact (k4.2.2.2.2.2 59 (by omega) (by omega)).trans HC7.out.1
  | 1, hj => cases hj; exact (k4.2.2.2.2.2 60 (by omega) (by omega)).trans HC7.out.2.1
  | 2, hj | 3, hj | 4, hj | 5, hj | 6, hj | 7, hj | 8, hj | 9, hj | 10, hj | 11, hj =>
    rw [k4.2.2.2.2.2 _ (by omega) (by omega)]
    first
      | exact HC7.out.2.2.1 0 _ hj
      | exact HC7.out.2.2.1 1 _ hj
      | exact HC7.out.2.2.1 2 _ hj
      | exact HC7.out.2.2.1 3 _ hj
      | exact HC7.out.2.2.1 4 _ hj
      | exact HC7.out.2.2.1 5 _ hj
      | exact HC7.out.2.2.1 6 _ hj
      | exact HC7.out.2.2.1 7 _ hj
      | exact HC7.out.2.2.1 8 _ hj
      | exact HC7.out.2.2.1 9 _ hj
  | 12, hj => cases hj; exact (k4.2.2.2.2.2 71 (by omega) (by omega)).trans (HC7.out.2.2.2.1 0 (by omega))
  | 13, hj => cases hj; exact (k4.2.2.2.2.2 72 (by omega) (by omega)).trans (HC7.out.2.2.2.1 1 (by omega))
  | 14, hj => cases hj; exact (k4.2.2.2.2.2 73 (by omega) (by omega)).trans (HC7.out.2.2.2.1 2 (by omega))
  | 15, hj => cases hj; exact k4.1
  | 16, hj => cases hj; exact k4.2.1
  | 17, hj => cases hj; exact k4.2.2.1
  | 18, hj => cases hj; exact k4.2.2.2.1
  | 19, hj => cases hj; exact k4.2.2.2.2.1
  | j + 20, hj => simp [AccD.cells] at hj
end Go.Proofs.YtehkgcmdndehaaaDoor

