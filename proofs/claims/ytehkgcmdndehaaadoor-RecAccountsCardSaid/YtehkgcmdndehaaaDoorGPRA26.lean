/- Part of the proof: merged texts. -/
import Derived.Test.YtehkgcmdndehaaaDoorGPRA25
import Derived.Test.YtehkgcmdndehaaaDoorGPRA21
import Derived.Deep.DeepCutAuto
import Derived.Deep.CutBlock
namespace Go.Proofs.YtehkgcmdndehaaaDoor
set_option linter.unusedSimpArgs false
set_option linter.unusedVariables false
open Go.RowKit

theorem wrC_twice (cs : List Value) (o : Nat) (a b : List Value) (hl : a.length = b.length) (h : o - 2 + a.length ≤ cs.length) : wrC (wrC cs o a) o b = wrC cs o b := by
  apply List.ext_getElem?
  intro j
  have h1 : o - 2 + b.length ≤ (wrC cs o a).length := by rw [wrC_length _ _ _ h]; omega
  by_cases hi : o - 2 ≤ j ∧ j < o - 2 + b.length
  · obtain ⟨i, rfl⟩ : ∃ i, j = o - 2 + i := ⟨j - (o - 2), by omega⟩
    rw [wrC_in _ _ _ h1 i (by omega), wrC_in _ _ _ (by omega) i (by omega)]
  · rw [wrC_out _ _ _ h1 j (by omega), wrC_out _ _ _ h j (by omega), wrC_out _ _ _ (by omega) j (by omega)]
theorem rr_plan (rb : Nat) (v : Value) (r : Re) (cs : List Value) (w : World) (h : RR w rb v r cs) : Calls Tryd.prog 61 #[.pointer (some ⟨rb, 0, none⟩), .int .i64 0] w (RRPost w rb v (planRd r).2 (wrC cs 2 (planRd r).1.cells.toList)) := by
  refine (rr_read_plan rb v r w h.rat h.lt h.small (h.there 2 10 (by omega) (by omega))).mono ?_
  rintro e w' ⟨v', rfl, hr, ho, hg, hm⟩
  exact ⟨v', rfl, h.mods 2 _ (by omega) (by show 2 + 10 ≤ 81; omega) hr (planRd_le r) hm.size (fun p _ _ => hm.frz p) hg (fun p h1 hp => hm.row p (by have h2 : p < 2 ∨ 2 + 10 ≤ p := hp; have h4 : 2 ≤ p := h1; show ¬ (p < 12); omega)), ho, hm.mono (fun _ _ => trivial)⟩
theorem rr_stmt (rb : Nat) (v : Value) (r : Re) (cs : List Value) (w : World) (h : RR w rb v r cs) : Calls Tryd.prog 61 #[.pointer (some ⟨rb, 0, none⟩), .int .i64 1] w (RRPost w rb v (stmtRd r).2 (wrC cs 12 (stmtRd r).1.cells.toList)) := by
  refine (rr_read_stmt rb v r w h.rat h.lt h.small (h.there 12 9 (by omega) (by omega))).mono ?_
  rintro e w' ⟨v', rfl, hr, ho, hg, hm⟩
  exact ⟨v', rfl, h.mods 12 _ (by omega) (by show 12 + 9 ≤ 81; omega) hr (stmtRd_le r) hm.size (fun p _ _ => hm.frz p) hg (fun p h2 hp => hm.row p (by have h3 : p < 12 ∨ 12 + 9 ≤ p := hp; show ¬ (p = 0 ∨ p = 1 ∨ (12 ≤ p ∧ p < 21)); omega)), ho, hm.mono (fun _ _ => trivial)⟩
theorem lotRd_cells (r : Re) : (lotRd r).1.cells.toList = (Re.ints 9 r).1.map (Value.int .i64) := by
  have h := Re.ints_length 9 r
  unfold lotRd
  match hh : (Re.ints 9 r).1, h with
  | [a, b, c, d, e, f, g, i, j], _ => simp only [hh]; rfl
theorem offs3 : recOffs 3 = offL 34 9 := by decide
theorem offs2 : recOffs 2 = offL 22 3 := by decide
theorem offs6 : recOffs 6 = offL 73 3 := by decide
theorem ptrs_of {w w' : World} {rb : Nat} {offs : List Nat} {ao : Option Addr} (h : ∀ k o, offs[k]? = some o → ∃ nb, ao = some ⟨nb, 0, none⟩ ∧ w.heap.size ≤ nb ∧ nb < w'.heap.size ∧ w'.cell? ⟨nb, k, none⟩ = some (.pointer (some ⟨rb, o, none⟩))) : Ptrs w' w.heap.size rb offs ao := h
attribute [local irreducible] Re.ints Re.str manyRd Re.one

set_option maxHeartbeats 3200000 in
set_option maxRecDepth 100000 in
theorem rr_lot (rb : Nat) (v : Value) (r : Re) (cs : List Value) (w : World) (h : RR w rb v r cs) :
    Calls Tryd.prog 61 #[.pointer (some ⟨rb, 0, none⟩), .int .i64 3] w (RRPost w rb v (lotRd r).2 (wrC cs 34 (lotRd r).1.cells.toList)) := by
  have hlc := h.len
  have H := Lib.hid (And.intro h h.len)
  have hrb := h.lt
  clear h
  go_enter Tryd.func61, Tryd.ntmps61
  go_upto_region 29 with (refine wpList_store_mid rfl 72 (.tmp 158) (.tmp 156) rfl rb 34 lotZ.cells rfl rfl (H.out.1.there 34 9 (by omega) (by omega)) (by kernel_rfl) (lot_one_cells _) ?_)
  change Code.wp _ _ _ _ (w.setCells rb 34 lotZ.cells.toList)
  have X2 : Hid (RR (w.setCells rb 34 lotZ.cells.toList) rb v r (wrC cs 34 lotZ.cells.toList) ∧ MA w (w.setCells rb 34 lotZ.cells.toList) rb) := Lib.hid ⟨H.out.1.set 34 _ (by omega) (by show 34 + 9 ≤ 81; omega), ma_setCells _ _ _ _⟩
  generalize w.setCells rb 34 lotZ.cells.toList = W2 at *
  have hrb2 := X2.out.1.lt
  have HN : Hid (∀ W0 : World, Calls Tryd.prog 57 #[.pointer (some ⟨rb, 0, none⟩), .int .i64 3] W0 (PtrsPost W0 rb (offL 34 9))) := Lib.hid (fun W0 => by rw [← offs3]; exact rr_numbers rb 3 W0)
  go_upto_region 29 with (fail)
  go_region_with (first
    | (go_at_call 57; refine (HN.out _).mono ?_; rintro e w3 ⟨ao, rfl, hB3, hP⟩
       have B3 : Hid (Below W2.heap.size W2 w3) := Lib.hid ((Below.refl _ _).drew.trans hB3)
       have P3 := Lib.hid (ptrs_of hP)
       clear hB3 hP)
    | (go_at_call 78
       go_must (refine (rr_ints rb 34 9 _ _ v r _ ao W2 w3 X2.out.1 B3.out (offL_length _ _) (by omega) (by omega) P3.out).mono ?_)
       rintro e w4 ⟨v4, rfl, hr4, ho4, hm4⟩
       have X4 := Lib.hid (And.intro hr4 (And.intro ho4 hm4))
       clear hr4 ho4 hm4))
  have FIN : Hid (RRPost w rb v (lotRd r).2 (wrC cs 34 (lotRd r).1.cells.toList) (.returned (.tuple #[])) w4) := Lib.hid (by
    refine ⟨v4, rfl, ?_, X4.out.2.1, X2.out.2.trans X4.out.2.2⟩
    have := X4.out.1
    rw [wrC_twice _ _ _ _ (by rw [List.length_map, Re.ints_length]; rfl) (by show 34 - 2 + 9 ≤ cs.length; omega)] at this
    rw [lotRd_cells]
    exact this)
  clear X4 X2
  go_wp2
  go_end0
  exact FIN.out

/-- What reading an answer's tail leaves: its statement in the answer's cells; those ahead of place 23 and the statement's own aside, the cells are as they were. -/
def TailPost (w : World) (rb : Nat) (v : Value) (r : Re) (cs : List Value) (e : Ending) (w' : World) : Prop :=
  ∃ v' cs', e = .returned (.tuple #[]) ∧ RR w' rb v' (tailRd r).2 cs' ∧ v'.ownBlock = v.ownBlock ∧ MA w w' rb ∧ (∀ (j : Nat) (u : Value), (tailRd r).1.cells.toList[j]? = some u → cs'[23 + j]? = some u) ∧ ∀ j : Nat, (19 ≤ j ∧ j < 23) ∨ 32 ≤ j → cs'[j]? = cs[j]?
set_option maxHeartbeats 3200000 in
set_option maxRecDepth 100000 in
theorem rr_tells (rb : Nat) (v : Value) (r : Re) (cs : List Value) (w : World) (h : RR w rb v r cs) (hz : ∀ (j : Nat) (u : Value), stmtZ.cells.toList[j]? = some u → cs[23 + j]? = some u) :
    Calls Tryd.prog 79 #[.pointer (some ⟨rb, 0, none⟩)] w (TailPost w rb v r cs) := by
  have H := Lib.hid (And.intro h (And.intro h.len hz))
  have hrb := h.lt
  clear h hz
  by_cases h0 : r.one.1 = 0
  · have hb0 : (r.one.1 == 0) = true := by rw [h0]; rfl
    have T : Hid (tailRd r = (stmtZ, r.one.2)) := Lib.hid (by unfold tailRd; rw [if_pos h0])
    clear h0
    go_enter Tryd.func79, Tryd.ntmps79
    go_wp2_with (go_at_call 77; go_must (refine (rr_one rb v r cs w H.out.1).mono ?_); rintro e w1 ⟨v1, rfl, hr1, ho1, hm1⟩; have X1 := Lib.hid (And.intro hr1 (And.intro ho1 hm1)); clear hr1 ho1 hm1)
    go_end0
    unfold TailPost
    rw [T.out]
    exact ⟨v1, cs, rfl, X1.out.1, X1.out.2.1, X1.out.2.2, H.out.2.2, fun _ _ => rfl⟩
  · have hb0 : (r.one.1 == 0) = false := by simp [h0]
    by_cases h1 : r.one.1 = 1
    · have hb1 : (r.one.1 == 1) = true := by rw [h1]; rfl
      have T : Hid (tailRd r = ((stmtRd r.one.2).1, if (stmtRd r.one.2).1.term = 0 then (stmtRd r.one.2).2.fail 11 else (stmtRd r.one.2).2)) := Lib.hid (by unfold tailRd; rw [if_neg h0, if_pos h1])
      clear h0 h1
      go_enter Tryd.func79, Tryd.ntmps79
      go_upto_region 5 with (first
        | (go_at_call 77; go_must (refine (rr_one rb v r cs w H.out.1).mono ?_); rintro e w1 ⟨v1, rfl, hr1, ho1, hm1⟩; have X1 := Lib.hid (And.intro hr1 (And.intro ho1 hm1)); clear hr1 ho1 hm1)
        | (go_at_call 61; go_must (refine (rr_stmt rb v1 r.one.2 cs w1 X1.out.1).mono ?_); rintro e w2 ⟨v2, rfl, hr2, ho2, hm2⟩; have X2 := Lib.hid (And.intro hr2 (And.intro (ho2.trans X1.out.2.1) (X1.out.2.2.trans hm2))); clear hr2 ho2 hm2))
      generalize stmtRd r.one.2 = sr at *
      obtain ⟨st, r2⟩ := sr
      have hrb2 := X2.out.1.lt
      have HRG := Lib.hid (X2.out.1.range_in (by omega) (by have := H.out.2.1; show 12 - 2 + 9 ≤ cs.length; omega))
      go_upto_region 6 with (first
        | (refine wpList_load_mid rfl 28 (.tmp 19) rfl rb 12 rfl st.cells.toList _ HRG.out Tryd.underlying28 rfl (by kernel_rfl) ?_)
        | (refine wpList_store_mid rfl 28 (.tmp 23) (.tmp 20) rfl rb 25 st.cells rfl rfl (X2.out.1.there 25 9 (by omega) (by omega)) (by kernel_rfl) (stmt_one_cells _) ?_))
      change Code.wp _ _ _ _ (w2.setCells rb 25 st.cells.toList)
      have X3 : Hid (RR (w2.setCells rb 25 st.cells.toList) rb v2 r2 (wrC (wrC cs 12 st.cells.toList) 25 st.cells.toList) ∧ v2.ownBlock = v.ownBlock ∧ MA w (w2.setCells rb 25 st.cells.toList) rb) := Lib.hid ⟨X2.out.1.set 25 _ (by omega) (by show 25 + 9 ≤ 81; omega), X2.out.2.1, X2.out.2.2.trans (ma_setCells _ _ _ _)⟩
      generalize w2.setCells rb 25 st.cells.toList = W3 at *
      have hl1 : Hid ((wrC cs 12 st.cells.toList).length = 79) := Lib.hid (by rw [wrC_length _ _ _ (by have := H.out.2.1; show 12 - 2 + 9 ≤ cs.length; omega)]; exact H.out.2.1)
      have HC : Hid ((∀ (j : Nat) (u : Value), st.cells.toList[j]? = some u → (wrC (wrC cs 12 st.cells.toList) 25 st.cells.toList)[23 + j]? = some u) ∧ ∀ j : Nat, (19 ≤ j ∧ j < 23) ∨ 32 ≤ j → (wrC (wrC cs 12 st.cells.toList) 25 st.cells.toList)[j]? = cs[j]?) := Lib.hid ⟨fun j u hj => by
          rw [show 23 + j = 25 - 2 + j by omega, wrC_in _ _ _ (by have := hl1.out; show 25 - 2 + 9 ≤ (wrC cs 12 st.cells.toList).length; omega) j (List.getElem?_eq_some_iff.1 hj).1]; exact hj, fun j hj => by
          rw [wrC_out _ _ _ (by have := hl1.out; show 25 - 2 + 9 ≤ (wrC cs 12 st.cells.toList).length; omega) j (by show j < 25 - 2 ∨ 25 - 2 + 9 ≤ j; omega), wrC_out _ _ _ (by have := H.out.2.1; show 12 - 2 + 9 ≤ cs.length; omega) j (by show j < 12 - 2 ∨ 12 - 2 + 9 ≤ j; omega)]⟩
      have k13 : W3.cell? ⟨rb, 13, none⟩ = some (.int .i64 st.term) := X3.out.1.cell 13 (by omega) (by
        rw [wrC_out _ _ _ (by have := hl1.out; show 25 - 2 + 9 ≤ (wrC cs 12 st.cells.toList).length; omega) _ (by show 13 - 2 < 25 - 2 ∨ 25 - 2 + 9 ≤ 13 - 2; omega), show 13 - 2 = 12 - 2 + 1 by omega, wrC_in _ _ _ (by have := H.out.2.1; show 12 - 2 + 9 ≤ cs.length; omega) 1 (by show 1 < 9; omega)]; rfl)
      generalize wrC (wrC cs 12 st.cells.toList) 25 st.cells.toList = cs3 at *
      have hrb3 := X3.out.1.lt
      clear X2 HRG hl1
      by_cases ht : st.term = 0
      · have hbt : (st.term == 0) = true := by rw [ht]; rfl
        have T2 : Hid (tailRd r = (st, r2.fail 11)) := Lib.hid (by have := T.out; simp only at this; rw [if_pos ht] at this; exact this)
        clear ht
        go_wp2_with (go_at_call 89; go_must (refine (rr_fail rb v2 r2 cs3 11 W3 X3.out.1).mono ?_); rintro e w4 ⟨v4, rfl, hr4, ho4, hm4⟩; have X4 := Lib.hid (And.intro hr4 (And.intro ho4 hm4)); clear hr4 ho4 hm4)
        go_end0
        unfold TailPost
        rw [T2.out]
        exact ⟨v4, cs3, rfl, X4.out.1, X4.out.2.1.trans X3.out.2.1, X3.out.2.2.trans X4.out.2.2, HC.out.1, HC.out.2⟩
      · have hbt : (st.term == 0) = false := by simp [ht]
        have T2 : Hid (tailRd r = (st, r2)) := Lib.hid (by have := T.out; simp only at this; rw [if_neg ht] at this; exact this)
        clear ht
        go_wp2
        go_end0
        unfold TailPost
        rw [T2.out]
        exact ⟨v2, cs3, rfl, X3.out.1, X3.out.2.1, X3.out.2.2, HC.out.1, HC.out.2⟩
    · have hb1 : (r.one.1 == 1) = false := by simp [h1]
      have T : Hid (tailRd r = (stmtZ, r.one.2.fail 11)) := Lib.hid (by unfold tailRd; rw [if_neg h0, if_neg h1])
      clear h0 h1
      go_enter Tryd.func79, Tryd.ntmps79
      go_wp2_with (first
        | (go_at_call 77; go_must (refine (rr_one rb v r cs w H.out.1).mono ?_); rintro e w1 ⟨v1, rfl, hr1, ho1, hm1⟩; have X1 := Lib.hid (And.intro hr1 (And.intro ho1 hm1)); clear hr1 ho1 hm1)
        | (go_at_call 89; go_must (refine (rr_fail rb v1 r.one.2 cs 11 w1 X1.out.1).mono ?_); rintro e w4 ⟨v4, rfl, hr4, ho4, hm4⟩; have X4 := Lib.hid (And.intro hr4 (And.intro ho4 hm4)); clear hr4 ho4 hm4))
      go_end0
      unfold TailPost
      rw [T.out]
      exact ⟨v4, cs, rfl, X4.out.1, X4.out.2.1.trans X1.out.2.1, X1.out.2.2.trans X4.out.2.2, H.out.2.2, fun _ _ => rfl⟩
end Go.Proofs.YtehkgcmdndehaaaDoor

