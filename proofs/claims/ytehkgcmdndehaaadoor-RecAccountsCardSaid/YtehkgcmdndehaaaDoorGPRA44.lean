/- Part of the proof: merged texts. -/
import Derived.Test.YtehkgcmdndehaaaDoorGPRA34
namespace Go.Proofs.YtehkgcmdndehaaaDoor
set_option linter.unusedSimpArgs false
set_option linter.unusedVariables false
open Go.RowKit

attribute [local go_sem] isRow_drewN2 rowOf_drewN2
attribute [local go_sem ↓] ldm_plan
set_option maxHeartbeats 4000000 in
set_option maxRecDepth 100000 in
theorem ref_sameAcc (a b : AccD) (al ah aw bl bh bw : Value) (hs ks : List (HoldD × Value)) (w : World) (ha : AccRd w a al ah aw hs) (hb : AccRd w b bl bh bw ks) (sa : Short a) :
    Calls Tryd.prog 22 #[.agg (a.cells al ah aw), .agg (b.cells bl bh bw)] w (BoolPost w (eqAccF a b)) := by
  have H := Lib.hid (And.intro ha hb)
  have SA := Lib.hid sa
  have HL : Hid (hs.length ≤ 100000 ∧ ∀ h ∈ hs, h.1.parts.length ≤ 100000) := Lib.hid ⟨by have := sa.holds; rw [← ha.heq, List.length_map] at this; exact this, fun h hh => sa.parts h.1 (by rw [← ha.heq]; exact List.mem_map_of_mem hh)⟩
  have EH : Hid (eqLs eqHV hs ks = eqLs eqHold a.holds b.holds) := Lib.hid (by rw [eqHV_map, ha.heq, hb.heq])
  clear ha hb sa
  go_enter Tryd.func22, Tryd.ntmps22
  go_upto_region 1 with (fail)
  have BW : Hid (Below w.heap.size w ((w.alloc (.cells (a.cells al ah aw) 45)).alloc (.cells (b.cells bl bh bw) 45)) ∧ w.heap.size + 1 < ((w.alloc (.cells (a.cells al ah aw) 45)).alloc (.cells (b.cells bl bh bw) 45)).heap.size) := Lib.hid ⟨below_alloc2 _ _ _, by simp⟩
  have hC : Hid (∀ j, ((w.alloc (.cells (a.cells al ah aw) 45)).alloc (.cells (b.cells bl bh bw) 45)).cell? ⟨w.heap.size, j, none⟩ = (a.cells al ah aw)[j]?) := Lib.hid (fun j => by
    rw [World.cell?_alloc_past _ _ _ (by simp)]
    exact World.cell?_alloc_at _ _ _ _ rfl)
  have hD : Hid (∀ j, ((w.alloc (.cells (a.cells al ah aw) 45)).alloc (.cells (b.cells bl bh bw) 45)).cell? ⟨w.heap.size + 1, j, none⟩ = (b.cells bl bh bw)[j]?) := Lib.hid (fun j => by
    exact World.cell?_alloc_at _ _ _ _ (by simp))
  generalize (w.alloc (.cells (a.cells al ah aw) 45)).alloc (.cells (b.cells bl bh bw) 45) = W at *
  have AI : Hid (∀ W', Below W.heap.size W W' → AccRd W' a al ah aw hs ∧ AccRd W' b bl bh bw ks) := Lib.hid (fun W' hB => ⟨(H.out.1.below BW.out.1).below hB, (H.out.2.below BW.out.1).below hB⟩)
  generalize hsb : w.heap.size = sb at *
  have HSB := Lib.hid hsb
  clear hsb
  have CPa : Hid (W.rangeAt sb 2 a.plan.cells.toList) := Lib.hid (fun k u hk => by
    have h10 : k < 10 := by have := (List.getElem?_eq_some_iff.1 hk).1; exact this
    rw [hC.out (2 + k)]
    match k, h10, hk with
    | 0, _, hk | 1, _, hk | 2, _, hk | 3, _, hk | 4, _, hk | 5, _, hk | 6, _, hk | 7, _, hk | 8, _, hk | 9, _, hk => exact hk)
  have CPb : Hid (W.rangeAt (sb + 1) 2 b.plan.cells.toList) := Lib.hid (fun k u hk => by
    have h10 : k < 10 := by have := (List.getElem?_eq_some_iff.1 hk).1; exact this
    rw [hD.out (2 + k)]
    match k, h10, hk with
    | 0, _, hk | 1, _, hk | 2, _, hk | 3, _, hk | 4, _, hk | 5, _, hk | 6, _, hk | 7, _, hk | 8, _, hk | 9, _, hk => exact hk)
  by_cases h_name : a.name.toList = b.name.toList
  · by_cases h_key : a.key.toList = b.key.toList
    · by_cases h_plan : eqPl a.plan b.plan = true
      · by_cases h_term : a.term = b.term
        · by_cases h_frm : a.frm = b.frm
          · by_cases h_till : a.till = b.till
            · by_cases h_next : a.next = b.next
              · by_cases h_over : a.over = b.over
                · by_cases h_lots : eqLs eqLot a.lots b.lots = true
                  · by_cases h_holds : eqLs eqHold a.holds b.holds = true
                    · have FV : Hid (eqAccF a b = eqLs eqEnt a.window b.window) := Lib.hid (by unfold eqAccF; rw [if_pos h_name, if_pos h_key, if_pos h_plan, if_pos h_term, if_pos h_frm, if_pos h_till, if_pos h_next, if_pos h_over, if_pos h_lots, if_pos h_holds])
                      have f_name : (a.name.toList = b.name.toList) := h_name
                      have f_key : (a.key.toList = b.key.toList) := h_key
                      have f_plan : eqPl a.plan b.plan = true := by simpa using h_plan
                      have f_term : (a.term == b.term) = true := by simpa using h_term
                      have f_frm : (a.frm == b.frm) = true := by simpa using h_frm
                      have f_till : (a.till == b.till) = true := by simpa using h_till
                      have f_next : (a.next == b.next) = true := by simpa using h_next
                      have f_over : (a.over == b.over) = true := by simpa using h_over
                      have f_lots : eqLs eqLot a.lots b.lots = true := by simpa using h_lots
                      have f_holds : eqLs eqHV hs ks = true := by rw [EH.out]; simpa using h_holds
                      clear h_name h_key h_plan h_term h_frm h_till h_next h_over h_lots h_holds
                      have c0 : W.cell? ⟨sb, 0, none⟩ = some (.string a.name) := hC.out 0
                      have d0 : W.cell? ⟨sb + 1, 0, none⟩ = some (.string b.name) := hD.out 0
                      have c1 : W.cell? ⟨sb, 1, none⟩ = some (.string a.key) := hC.out 1
                      have d1 : W.cell? ⟨sb + 1, 1, none⟩ = some (.string b.key) := hD.out 1
                      have eP := eql_eqPl a.plan b.plan
                      obtain ⟨raa, rab⟩ := row_mid (n := 10) (w := W) (cs := a.plan.cells) (b := sb) (o := 2) (CPa.out) rfl
                      obtain ⟨rba, rbb⟩ := row_mid (n := 10) (w := W) (cs := b.plan.cells) (b := (sb + 1)) (o := 2) (CPb.out) rfl
                      have c12 : W.cell? ⟨sb, 12, none⟩ = some (.int .i64 a.term) := hC.out 12
                      have d12 : W.cell? ⟨sb + 1, 12, none⟩ = some (.int .i64 b.term) := hD.out 12
                      have c13 : W.cell? ⟨sb, 13, none⟩ = some (.int .i64 a.frm) := hC.out 13
                      have d13 : W.cell? ⟨sb + 1, 13, none⟩ = some (.int .i64 b.frm) := hD.out 13
                      have c14 : W.cell? ⟨sb, 14, none⟩ = some (.int .i64 a.till) := hC.out 14
                      have d14 : W.cell? ⟨sb + 1, 14, none⟩ = some (.int .i64 b.till) := hD.out 14
                      have c16 : W.cell? ⟨sb, 16, none⟩ = some (.int .i64 a.next) := hC.out 16
                      have d16 : W.cell? ⟨sb + 1, 16, none⟩ = some (.int .i64 b.next) := hD.out 16
                      have c17 : W.cell? ⟨sb, 17, none⟩ = some (.int .i64 a.over) := hC.out 17
                      have d17 : W.cell? ⟨sb + 1, 17, none⟩ = some (.int .i64 b.over) := hD.out 17
                      have c15 : W.cell? ⟨sb, 15, none⟩ = some (al) := hC.out 15
                      have d15 : W.cell? ⟨sb + 1, 15, none⟩ = some (bl) := hD.out 15
                      have c18 : W.cell? ⟨sb, 18, none⟩ = some (ah) := hC.out 18
                      have d18 : W.cell? ⟨sb + 1, 18, none⟩ = some (bh) := hD.out 18
                      have c19 : W.cell? ⟨sb, 19, none⟩ = some (aw) := hC.out 19
                      have d19 : W.cell? ⟨sb + 1, 19, none⟩ = some (bw) := hD.out 19
                      go_wp2_with (first
                        | (go_at_call 37; go_must (refine (ref_sameLots _ _ _ _ _ (AI.out _ (by first | exact Below.refl _ _ | exact drewN_below _ _ | exact (drewN_below _ _).trans (drewN_below _ _) | exact BE.out | exact BE2.out _)).1.lots (AI.out _ (by first | exact Below.refl _ _ | exact drewN_below _ _ | exact (drewN_below _ _).trans (drewN_below _ _) | exact BE.out | exact BE2.out _)).2.lots SA.out.lots).mono ?_); rintro e w_lots ⟨rfl, n_lots, rfl⟩)
                        | (go_at_call 38; go_must (refine (ref_sameHolds _ _ _ _ _ (AI.out _ (by first | exact Below.refl _ _ | exact drewN_below _ _ | exact (drewN_below _ _).trans (drewN_below _ _) | exact BE.out | exact BE2.out _)).1.holds (AI.out _ (by first | exact Below.refl _ _ | exact drewN_below _ _ | exact (drewN_below _ _).trans (drewN_below _ _) | exact BE.out | exact BE2.out _)).2.holds HL.out.1 HL.out.2).mono ?_); rintro e w_holds ⟨rfl, n_holds, rfl⟩)
                        | (go_at_call 39; go_must (refine (ref_sameWin _ _ _ _ _ (AI.out _ (by first | exact Below.refl _ _ | exact drewN_below _ _ | exact (drewN_below _ _).trans (drewN_below _ _) | exact BE.out | exact BE2.out _)).1.win (AI.out _ (by first | exact Below.refl _ _ | exact drewN_below _ _ | exact (drewN_below _ _).trans (drewN_below _ _) | exact BE.out | exact BE2.out _)).2.win SA.out.win).mono ?_); rintro e w_win ⟨rfl, n_win, rfl⟩))
                      go_ret
                      refine ⟨by rw [FV.out]; rfl, ?_⟩
                      rw [HSB.out]
                      exact BW.out.1.trans ((show Below W.heap.size W _ from (by first | exact drewN_below _ _ | exact (drewN_below _ _).trans (drewN_below _ _) | exact ((drewN_below _ _).trans (drewN_below _ _)).trans (drewN_below _ _) | exact BE.out | exact BE2.out _)).mono (by have := BW.out.1.size; have := HSB.out; omega))
                    · have FV : Hid (eqAccF a b = false) := Lib.hid (by unfold eqAccF; rw [if_pos h_name, if_pos h_key, if_pos h_plan, if_pos h_term, if_pos h_frm, if_pos h_till, if_pos h_next, if_pos h_over, if_pos h_lots, if_neg h_holds])
                      have f_name : (a.name.toList = b.name.toList) := h_name
                      have f_key : (a.key.toList = b.key.toList) := h_key
                      have f_plan : eqPl a.plan b.plan = true := by simpa using h_plan
                      have f_term : (a.term == b.term) = true := by simpa using h_term
                      have f_frm : (a.frm == b.frm) = true := by simpa using h_frm
                      have f_till : (a.till == b.till) = true := by simpa using h_till
                      have f_next : (a.next == b.next) = true := by simpa using h_next
                      have f_over : (a.over == b.over) = true := by simpa using h_over
                      have f_lots : eqLs eqLot a.lots b.lots = true := by simpa using h_lots
                      have f_holds : eqLs eqHV hs ks = false := by rw [EH.out]; simpa using h_holds
                      clear h_name h_key h_plan h_term h_frm h_till h_next h_over h_lots h_holds
                      have c0 : W.cell? ⟨sb, 0, none⟩ = some (.string a.name) := hC.out 0
                      have d0 : W.cell? ⟨sb + 1, 0, none⟩ = some (.string b.name) := hD.out 0
                      have c1 : W.cell? ⟨sb, 1, none⟩ = some (.string a.key) := hC.out 1
                      have d1 : W.cell? ⟨sb + 1, 1, none⟩ = some (.string b.key) := hD.out 1
                      have eP := eql_eqPl a.plan b.plan
                      obtain ⟨raa, rab⟩ := row_mid (n := 10) (w := W) (cs := a.plan.cells) (b := sb) (o := 2) (CPa.out) rfl
                      obtain ⟨rba, rbb⟩ := row_mid (n := 10) (w := W) (cs := b.plan.cells) (b := (sb + 1)) (o := 2) (CPb.out) rfl
                      have c12 : W.cell? ⟨sb, 12, none⟩ = some (.int .i64 a.term) := hC.out 12
                      have d12 : W.cell? ⟨sb + 1, 12, none⟩ = some (.int .i64 b.term) := hD.out 12
                      have c13 : W.cell? ⟨sb, 13, none⟩ = some (.int .i64 a.frm) := hC.out 13
                      have d13 : W.cell? ⟨sb + 1, 13, none⟩ = some (.int .i64 b.frm) := hD.out 13
                      have c14 : W.cell? ⟨sb, 14, none⟩ = some (.int .i64 a.till) := hC.out 14
                      have d14 : W.cell? ⟨sb + 1, 14, none⟩ = some (.int .i64 b.till) := hD.out 14
                      have c16 : W.cell? ⟨sb, 16, none⟩ = some (.int .i64 a.next) := hC.out 16
                      have d16 : W.cell? ⟨sb + 1, 16, none⟩ = some (.int .i64 b.next) := hD.out 16
                      have c17 : W.cell? ⟨sb, 17, none⟩ = some (.int .i64 a.over) := hC.out 17
                      have d17 : W.cell? ⟨sb + 1, 17, none⟩ = some (.int .i64 b.over) := hD.out 17
                      have c15 : W.cell? ⟨sb, 15, none⟩ = some (al) := hC.out 15
                      have d15 : W.cell? ⟨sb + 1, 15, none⟩ = some (bl) := hD.out 15
                      have c18 : W.cell? ⟨sb, 18, none⟩ = some (ah) := hC.out 18
                      have d18 : W.cell? ⟨sb + 1, 18, none⟩ = some (bh) := hD.out 18
                      go_wp2_with (first
                        | (go_at_call 37; go_must (refine (ref_sameLots _ _ _ _ _ (AI.out _ (by first | exact Below.refl _ _ | exact drewN_below _ _ | exact (drewN_below _ _).trans (drewN_below _ _) | exact BE.out | exact BE2.out _)).1.lots (AI.out _ (by first | exact Below.refl _ _ | exact drewN_below _ _ | exact (drewN_below _ _).trans (drewN_below _ _) | exact BE.out | exact BE2.out _)).2.lots SA.out.lots).mono ?_); rintro e w_lots ⟨rfl, n_lots, rfl⟩)
                        | (go_at_call 38; go_must (refine (ref_sameHolds _ _ _ _ _ (AI.out _ (by first | exact Below.refl _ _ | exact drewN_below _ _ | exact (drewN_below _ _).trans (drewN_below _ _) | exact BE.out | exact BE2.out _)).1.holds (AI.out _ (by first | exact Below.refl _ _ | exact drewN_below _ _ | exact (drewN_below _ _).trans (drewN_below _ _) | exact BE.out | exact BE2.out _)).2.holds HL.out.1 HL.out.2).mono ?_); rintro e w_holds ⟨rfl, n_holds, rfl⟩))
                      go_ret
                      refine ⟨by rw [FV.out]; rfl, ?_⟩
                      rw [HSB.out]
                      exact BW.out.1.trans ((show Below W.heap.size W _ from (by first | exact drewN_below _ _ | exact (drewN_below _ _).trans (drewN_below _ _) | exact ((drewN_below _ _).trans (drewN_below _ _)).trans (drewN_below _ _) | exact BE.out | exact BE2.out _)).mono (by have := BW.out.1.size; have := HSB.out; omega))
                  · have FV : Hid (eqAccF a b = false) := Lib.hid (by unfold eqAccF; rw [if_pos h_name, if_pos h_key, if_pos h_plan, if_pos h_term, if_pos h_frm, if_pos h_till, if_pos h_next, if_pos h_over, if_neg h_lots])
                    have f_name : (a.name.toList = b.name.toList) := h_name
                    have f_key : (a.key.toList = b.key.toList) := h_key
                    have f_plan : eqPl a.plan b.plan = true := by simpa using h_plan
                    have f_term : (a.term == b.term) = true := by simpa using h_term
                    have f_frm : (a.frm == b.frm) = true := by simpa using h_frm
                    have f_till : (a.till == b.till) = true := by simpa using h_till
                    have f_next : (a.next == b.next) = true := by simpa using h_next
                    have f_over : (a.over == b.over) = true := by simpa using h_over
                    have f_lots : eqLs eqLot a.lots b.lots = false := by simpa using h_lots
                    clear h_name h_key h_plan h_term h_frm h_till h_next h_over h_lots
                    have c0 : W.cell? ⟨sb, 0, none⟩ = some (.string a.name) := hC.out 0
                    have d0 : W.cell? ⟨sb + 1, 0, none⟩ = some (.string b.name) := hD.out 0
                    have c1 : W.cell? ⟨sb, 1, none⟩ = some (.string a.key) := hC.out 1
                    have d1 : W.cell? ⟨sb + 1, 1, none⟩ = some (.string b.key) := hD.out 1
                    have eP := eql_eqPl a.plan b.plan
                    obtain ⟨raa, rab⟩ := row_mid (n := 10) (w := W) (cs := a.plan.cells) (b := sb) (o := 2) (CPa.out) rfl
                    obtain ⟨rba, rbb⟩ := row_mid (n := 10) (w := W) (cs := b.plan.cells) (b := (sb + 1)) (o := 2) (CPb.out) rfl
                    have c12 : W.cell? ⟨sb, 12, none⟩ = some (.int .i64 a.term) := hC.out 12
                    have d12 : W.cell? ⟨sb + 1, 12, none⟩ = some (.int .i64 b.term) := hD.out 12
                    have c13 : W.cell? ⟨sb, 13, none⟩ = some (.int .i64 a.frm) := hC.out 13
                    have d13 : W.cell? ⟨sb + 1, 13, none⟩ = some (.int .i64 b.frm) := hD.out 13
                    have c14 : W.cell? ⟨sb, 14, none⟩ = some (.int .i64 a.till) := hC.out 14
                    have d14 : W.cell? ⟨sb + 1, 14, none⟩ = some (.int .i64 b.till) := hD.out 14
                    have c16 : W.cell? ⟨sb, 16, none⟩ = some (.int .i64 a.next) := hC.out 16
                    have d16 : W.cell? ⟨sb + 1, 16, none⟩ = some (.int .i64 b.next) := hD.out 16
                    have c17 : W.cell? ⟨sb, 17, none⟩ = some (.int .i64 a.over) := hC.out 17
                    have d17 : W.cell? ⟨sb + 1, 17, none⟩ = some (.int .i64 b.over) := hD.out 17
                    have c15 : W.cell? ⟨sb, 15, none⟩ = some (al) := hC.out 15
                    have d15 : W.cell? ⟨sb + 1, 15, none⟩ = some (bl) := hD.out 15
                    go_wp2_with (first
                      | (go_at_call 37; go_must (refine (ref_sameLots _ _ _ _ _ (AI.out _ (by first | exact Below.refl _ _ | exact drewN_below _ _ | exact (drewN_below _ _).trans (drewN_below _ _) | exact BE.out | exact BE2.out _)).1.lots (AI.out _ (by first | exact Below.refl _ _ | exact drewN_below _ _ | exact (drewN_below _ _).trans (drewN_below _ _) | exact BE.out | exact BE2.out _)).2.lots SA.out.lots).mono ?_); rintro e w_lots ⟨rfl, n_lots, rfl⟩))
                    go_ret
                    refine ⟨by rw [FV.out]; rfl, ?_⟩
                    rw [HSB.out]
                    exact BW.out.1.trans ((show Below W.heap.size W _ from (by first | exact drewN_below _ _ | exact (drewN_below _ _).trans (drewN_below _ _) | exact ((drewN_below _ _).trans (drewN_below _ _)).trans (drewN_below _ _) | exact BE.out | exact BE2.out _)).mono (by have := BW.out.1.size; have := HSB.out; omega))
                · have FV : Hid (eqAccF a b = false) := Lib.hid (by unfold eqAccF; rw [if_pos h_name, if_pos h_key, if_pos h_plan, if_pos h_term, if_pos h_frm, if_pos h_till, if_pos h_next, if_neg h_over])
                  have f_name : (a.name.toList = b.name.toList) := h_name
                  have f_key : (a.key.toList = b.key.toList) := h_key
                  have f_plan : eqPl a.plan b.plan = true := by simpa using h_plan
                  have f_term : (a.term == b.term) = true := by simpa using h_term
                  have f_frm : (a.frm == b.frm) = true := by simpa using h_frm
                  have f_till : (a.till == b.till) = true := by simpa using h_till
                  have f_next : (a.next == b.next) = true := by simpa using h_next
                  have f_over : (a.over == b.over) = false := by simpa using h_over
                  clear h_name h_key h_plan h_term h_frm h_till h_next h_over
                  have c0 : W.cell? ⟨sb, 0, none⟩ = some (.string a.name) := hC.out 0
                  have d0 : W.cell? ⟨sb + 1, 0, none⟩ = some (.string b.name) := hD.out 0
                  have c1 : W.cell? ⟨sb, 1, none⟩ = some (.string a.key) := hC.out 1
                  have d1 : W.cell? ⟨sb + 1, 1, none⟩ = some (.string b.key) := hD.out 1
                  have eP := eql_eqPl a.plan b.plan
                  obtain ⟨raa, rab⟩ := row_mid (n := 10) (w := W) (cs := a.plan.cells) (b := sb) (o := 2) (CPa.out) rfl
                  obtain ⟨rba, rbb⟩ := row_mid (n := 10) (w := W) (cs := b.plan.cells) (b := (sb + 1)) (o := 2) (CPb.out) rfl
                  have c12 : W.cell? ⟨sb, 12, none⟩ = some (.int .i64 a.term) := hC.out 12
                  have d12 : W.cell? ⟨sb + 1, 12, none⟩ = some (.int .i64 b.term) := hD.out 12
                  have c13 : W.cell? ⟨sb, 13, none⟩ = some (.int .i64 a.frm) := hC.out 13
                  have d13 : W.cell? ⟨sb + 1, 13, none⟩ = some (.int .i64 b.frm) := hD.out 13
                  have c14 : W.cell? ⟨sb, 14, none⟩ = some (.int .i64 a.till) := hC.out 14
                  have d14 : W.cell? ⟨sb + 1, 14, none⟩ = some (.int .i64 b.till) := hD.out 14
                  have c16 : W.cell? ⟨sb, 16, none⟩ = some (.int .i64 a.next) := hC.out 16
                  have d16 : W.cell? ⟨sb + 1, 16, none⟩ = some (.int .i64 b.next) := hD.out 16
                  have c17 : W.cell? ⟨sb, 17, none⟩ = some (.int .i64 a.over) := hC.out 17
                  have d17 : W.cell? ⟨sb + 1, 17, none⟩ = some (.int .i64 b.over) := hD.out 17
                  go_wp2
                  go_ret
                  refine ⟨by rw [FV.out]; rfl, ?_⟩
                  rw [HSB.out]
                  exact BW.out.1.trans ((show Below W.heap.size W _ from (Below.refl _ _)).mono (by have := BW.out.1.size; have := HSB.out; omega))
              · have FV : Hid (eqAccF a b = false) := Lib.hid (by unfold eqAccF; rw [if_pos h_name, if_pos h_key, if_pos h_plan, if_pos h_term, if_pos h_frm, if_pos h_till, if_neg h_next])
                have f_name : (a.name.toList = b.name.toList) := h_name
                have f_key : (a.key.toList = b.key.toList) := h_key
                have f_plan : eqPl a.plan b.plan = true := by simpa using h_plan
                have f_term : (a.term == b.term) = true := by simpa using h_term
                have f_frm : (a.frm == b.frm) = true := by simpa using h_frm
                have f_till : (a.till == b.till) = true := by simpa using h_till
                have f_next : (a.next == b.next) = false := by simpa using h_next
                clear h_name h_key h_plan h_term h_frm h_till h_next
                have c0 : W.cell? ⟨sb, 0, none⟩ = some (.string a.name) := hC.out 0
                have d0 : W.cell? ⟨sb + 1, 0, none⟩ = some (.string b.name) := hD.out 0
                have c1 : W.cell? ⟨sb, 1, none⟩ = some (.string a.key) := hC.out 1
                have d1 : W.cell? ⟨sb + 1, 1, none⟩ = some (.string b.key) := hD.out 1
                have eP := eql_eqPl a.plan b.plan
                obtain ⟨raa, rab⟩ := row_mid (n := 10) (w := W) (cs := a.plan.cells) (b := sb) (o := 2) (CPa.out) rfl
                obtain ⟨rba, rbb⟩ := row_mid (n := 10) (w := W) (cs := b.plan.cells) (b := (sb + 1)) (o := 2) (CPb.out) rfl
                have c12 : W.cell? ⟨sb, 12, none⟩ = some (.int .i64 a.term) := hC.out 12
                have d12 : W.cell? ⟨sb + 1, 12, none⟩ = some (.int .i64 b.term) := hD.out 12
                have c13 : W.cell? ⟨sb, 13, none⟩ = some (.int .i64 a.frm) := hC.out 13
                have d13 : W.cell? ⟨sb + 1, 13, none⟩ = some (.int .i64 b.frm) := hD.out 13
                have c14 : W.cell? ⟨sb, 14, none⟩ = some (.int .i64 a.till) := hC.out 14
                have d14 : W.cell? ⟨sb + 1, 14, none⟩ = some (.int .i64 b.till) := hD.out 14
                have c16 : W.cell? ⟨sb, 16, none⟩ = some (.int .i64 a.next) := hC.out 16
                have d16 : W.cell? ⟨sb + 1, 16, none⟩ = some (.int .i64 b.next) := hD.out 16
                go_wp2
                go_ret
                refine ⟨by rw [FV.out]; rfl, ?_⟩
                rw [HSB.out]
                exact BW.out.1.trans ((show Below W.heap.size W _ from (Below.refl _ _)).mono (by have := BW.out.1.size; have := HSB.out; omega))
            · have FV : Hid (eqAccF a b = false) := Lib.hid (by unfold eqAccF; rw [if_pos h_name, if_pos h_key, if_pos h_plan, if_pos h_term, if_pos h_frm, if_neg h_till])
              have f_name : (a.name.toList = b.name.toList) := h_name
              have f_key : (a.key.toList = b.key.toList) := h_key
              have f_plan : eqPl a.plan b.plan = true := by simpa using h_plan
              have f_term : (a.term == b.term) = true := by simpa using h_term
              have f_frm : (a.frm == b.frm) = true := by simpa using h_frm
              have f_till : (a.till == b.till) = false := by simpa using h_till
              clear h_name h_key h_plan h_term h_frm h_till
              have c0 : W.cell? ⟨sb, 0, none⟩ = some (.string a.name) := hC.out 0
              have d0 : W.cell? ⟨sb + 1, 0, none⟩ = some (.string b.name) := hD.out 0
              have c1 : W.cell? ⟨sb, 1, none⟩ = some (.string a.key) := hC.out 1
              have d1 : W.cell? ⟨sb + 1, 1, none⟩ = some (.string b.key) := hD.out 1
              have eP := eql_eqPl a.plan b.plan
              obtain ⟨raa, rab⟩ := row_mid (n := 10) (w := W) (cs := a.plan.cells) (b := sb) (o := 2) (CPa.out) rfl
              obtain ⟨rba, rbb⟩ := row_mid (n := 10) (w := W) (cs := b.plan.cells) (b := (sb + 1)) (o := 2) (CPb.out) rfl
              have c12 : W.cell? ⟨sb, 12, none⟩ = some (.int .i64 a.term) := hC.out 12
              have d12 : W.cell? ⟨sb + 1, 12, none⟩ = some (.int .i64 b.term) := hD.out 12
              have c13 : W.cell? ⟨sb, 13, none⟩ = some (.int .i64 a.frm) := hC.out 13
              have d13 : W.cell? ⟨sb + 1, 13, none⟩ = some (.int .i64 b.frm) := hD.out 13
              have c14 : W.cell? ⟨sb, 14, none⟩ = some (.int .i64 a.till) := hC.out 14
              have d14 : W.cell? ⟨sb + 1, 14, none⟩ = some (.int .i64 b.till) := hD.out 14
              go_wp2
              go_ret
              refine ⟨by rw [FV.out]; rfl, ?_⟩
              rw [HSB.out]
              exact BW.out.1.trans ((show Below W.heap.size W _ from (Below.refl _ _)).mono (by have := BW.out.1.size; have := HSB.out; omega))
          · have FV : Hid (eqAccF a b = false) := Lib.hid (by unfold eqAccF; rw [if_pos h_name, if_pos h_key, if_pos h_plan, if_pos h_term, if_neg h_frm])
            have f_name : (a.name.toList = b.name.toList) := h_name
            have f_key : (a.key.toList = b.key.toList) := h_key
            have f_plan : eqPl a.plan b.plan = true := by simpa using h_plan
            have f_term : (a.term == b.term) = true := by simpa using h_term
            have f_frm : (a.frm == b.frm) = false := by simpa using h_frm
            clear h_name h_key h_plan h_term h_frm
            have c0 : W.cell? ⟨sb, 0, none⟩ = some (.string a.name) := hC.out 0
            have d0 : W.cell? ⟨sb + 1, 0, none⟩ = some (.string b.name) := hD.out 0
            have c1 : W.cell? ⟨sb, 1, none⟩ = some (.string a.key) := hC.out 1
            have d1 : W.cell? ⟨sb + 1, 1, none⟩ = some (.string b.key) := hD.out 1
            have eP := eql_eqPl a.plan b.plan
            obtain ⟨raa, rab⟩ := row_mid (n := 10) (w := W) (cs := a.plan.cells) (b := sb) (o := 2) (CPa.out) rfl
            obtain ⟨rba, rbb⟩ := row_mid (n := 10) (w := W) (cs := b.plan.cells) (b := (sb + 1)) (o := 2) (CPb.out) rfl
            have c12 : W.cell? ⟨sb, 12, none⟩ = some (.int .i64 a.term) := hC.out 12
            have d12 : W.cell? ⟨sb + 1, 12, none⟩ = some (.int .i64 b.term) := hD.out 12
            have c13 : W.cell? ⟨sb, 13, none⟩ = some (.int .i64 a.frm) := hC.out 13
            have d13 : W.cell? ⟨sb + 1, 13, none⟩ = some (.int .i64 b.frm) := hD.out 13
            go_wp2
            go_ret
            refine ⟨by rw [FV.out]; rfl, ?_⟩
            rw [HSB.out]
            exact BW.out.1.trans ((show Below W.heap.size W _ from (Below.refl _ _)).mono (by have := BW.out.1.size; have := HSB.out; omega))
        · have FV : Hid (eqAccF a b = false) := Lib.hid (by unfold eqAccF; rw [if_pos h_name, if_pos h_key, if_pos h_plan, if_neg h_term])
          have f_name : (a.name.toList = b.name.toList) := h_name
          have f_key : (a.key.toList = b.key.toList) := h_key
          have f_plan : eqPl a.plan b.plan = true := by simpa using h_plan
          have f_term : (a.term == b.term) = false := by simpa using h_term
          clear h_name h_key h_plan h_term
          have c0 : W.cell? ⟨sb, 0, none⟩ = some (.string a.name) := hC.out 0
          have d0 : W.cell? ⟨sb + 1, 0, none⟩ = some (.string b.name) := hD.out 0
          have c1 : W.cell? ⟨sb, 1, none⟩ = some (.string a.key) := hC.out 1
          have d1 : W.cell? ⟨sb + 1, 1, none⟩ = some (.string b.key) := hD.out 1
          have eP := eql_eqPl a.plan b.plan
          obtain ⟨raa, rab⟩ := row_mid (n := 10) (w := W) (cs := a.plan.cells) (b := sb) (o := 2) (CPa.out) rfl
          obtain ⟨rba, rbb⟩ := row_mid (n := 10) (w := W) (cs := b.plan.cells) (b := (sb + 1)) (o := 2) (CPb.out) rfl
          have c12 : W.cell? ⟨sb, 12, none⟩ = some (.int .i64 a.term) := hC.out 12
          have d12 : W.cell? ⟨sb + 1, 12, none⟩ = some (.int .i64 b.term) := hD.out 12
          go_wp2
          go_ret
          refine ⟨by rw [FV.out]; rfl, ?_⟩
          rw [HSB.out]
          exact BW.out.1.trans ((show Below W.heap.size W _ from (Below.refl _ _)).mono (by have := BW.out.1.size; have := HSB.out; omega))
      · have FV : Hid (eqAccF a b = false) := Lib.hid (by unfold eqAccF; rw [if_pos h_name, if_pos h_key, if_neg h_plan])
        have f_name : (a.name.toList = b.name.toList) := h_name
        have f_key : (a.key.toList = b.key.toList) := h_key
        have f_plan : eqPl a.plan b.plan = false := by simpa using h_plan
        clear h_name h_key h_plan
        have c0 : W.cell? ⟨sb, 0, none⟩ = some (.string a.name) := hC.out 0
        have d0 : W.cell? ⟨sb + 1, 0, none⟩ = some (.string b.name) := hD.out 0
        have c1 : W.cell? ⟨sb, 1, none⟩ = some (.string a.key) := hC.out 1
        have d1 : W.cell? ⟨sb + 1, 1, none⟩ = some (.string b.key) := hD.out 1
        have eP := eql_eqPl a.plan b.plan
        obtain ⟨raa, rab⟩ := row_mid (n := 10) (w := W) (cs := a.plan.cells) (b := sb) (o := 2) (CPa.out) rfl
        obtain ⟨rba, rbb⟩ := row_mid (n := 10) (w := W) (cs := b.plan.cells) (b := (sb + 1)) (o := 2) (CPb.out) rfl
        go_wp2
        go_ret
        refine ⟨by rw [FV.out]; rfl, ?_⟩
        rw [HSB.out]
        exact BW.out.1.trans ((show Below W.heap.size W _ from (Below.refl _ _)).mono (by have := BW.out.1.size; have := HSB.out; omega))
    · have FV : Hid (eqAccF a b = false) := Lib.hid (by unfold eqAccF; rw [if_pos h_name, if_neg h_key])
      have f_name : (a.name.toList = b.name.toList) := h_name
      have f_key : ¬ (a.key.toList = b.key.toList) := h_key
      clear h_name h_key
      have c0 : W.cell? ⟨sb, 0, none⟩ = some (.string a.name) := hC.out 0
      have d0 : W.cell? ⟨sb + 1, 0, none⟩ = some (.string b.name) := hD.out 0
      have c1 : W.cell? ⟨sb, 1, none⟩ = some (.string a.key) := hC.out 1
      have d1 : W.cell? ⟨sb + 1, 1, none⟩ = some (.string b.key) := hD.out 1
      go_wp2
      go_ret
      refine ⟨by rw [FV.out]; rfl, ?_⟩
      rw [HSB.out]
      exact BW.out.1.trans ((show Below W.heap.size W _ from (Below.refl _ _)).mono (by have := BW.out.1.size; have := HSB.out; omega))
  · have FV : Hid (eqAccF a b = false) := Lib.hid (by unfold eqAccF; rw [if_neg h_name])
    have f_name : ¬ (a.name.toList = b.name.toList) := h_name
    clear h_name
    have c0 : W.cell? ⟨sb, 0, none⟩ = some (.string a.name) := hC.out 0
    have d0 : W.cell? ⟨sb + 1, 0, none⟩ = some (.string b.name) := hD.out 0
    go_wp2
    go_ret
    refine ⟨by rw [FV.out]; rfl, ?_⟩
    rw [HSB.out]
    exact BW.out.1.trans ((show Below W.heap.size W _ from (Below.refl _ _)).mono (by have := BW.out.1.size; have := HSB.out; omega))
end Go.Proofs.YtehkgcmdndehaaaDoor

