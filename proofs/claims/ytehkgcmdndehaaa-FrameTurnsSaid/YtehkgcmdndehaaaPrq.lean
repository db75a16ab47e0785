import Derived.Test.YtehkgcmdndehaaaQAt
import Derived.Deep.DeepCutAuto
import Derived.Deep.CutBlock
import Derived.Deep.DeepMust
namespace Go.Proofs.Ytehkgcmdndehaaa
set_option linter.unusedSimpArgs false
set_option linter.unusedVariables false
open Go.RowKit
attribute [local irreducible] Rd.ints Rd.str Rd.strs Rd.one parsePlan prEnd prMore prTexts prNums prKey prKind parseReqC putAt putPlan

def PrPost (w : World) (p : List Value × Int) (e : Ending) (w' : World) : Prop := e = .returned (.tuple #[.agg p.1.toArray, .int .i64 p.2]) ∧ Below w.heap.size w w'
/-- A request's block, just made. -/
def prow (v : Value) : Array Value := #[v, .bool false, .int .i64 0, .string ⟨#[]⟩, .int .i64 0, .int .i64 0, .int .i64 0, .int .i64 0, .string ⟨#[]⟩, .string ⟨#[]⟩, .string ⟨#[]⟩, .int .i64 0, .int .i64 0, .int .i64 0, .int .i64 0, .int .i64 0, .int .i64 0, .int .i64 0, .int .i64 0, .int .i64 0]

theorem req_one_cells (a : ReqD) : a.cells.all (·.oneCell') = true := by
  unfold ReqD.cells
  rw [Array.all_eq_true_iff_forall_mem]
  intro x hx
  simp only [List.mem_toArray, List.mem_cons, List.not_mem_nil, or_false] at hx
  rcases hx with rfl | rfl | rfl | rfl | rfl | rfl | rfl | rfl | rfl | rfl | rfl | rfl | rfl | rfl | rfl | rfl | rfl | rfl <;> rfl
set_option maxHeartbeats 6400000 in
set_option maxRecDepth 100000 in
theorem fr_parse_req (v : Value) (zs : List UInt8) (w : World) (h : Reads w v zs) (hl : zs.length ≤ 1000000) :
    Calls Try.prog 29 #[v] w (PrPost w (parseReqC zs)) := by
  have H := Lib.hid h
  clear h
  have hfit : Fits zs.length := fits_of _ (by omega)
  go_enter Try.func29, Try.ntmps29
  go_upto_region 1 with (fail)
  change Code.wp _ _ _ _ (w.alloc (.cells reqZ0.cells 25))
  have hblk := heap_alloc_new w (.cells reqZ0.cells 25)
  have hBa := below_alloc w (.cells reqZ0.cells 25)
  have hsW : (w.alloc (.cells reqZ0.cells 25)).heap.size = w.heap.size + 1 := by simp
  generalize w.alloc (.cells reqZ0.cells 25) = W at *
  have X0 := Lib.hid (And.intro hblk (And.intro hBa (And.intro hsW (H.out.below hBa))))
  clear hblk hBa hsW
  generalize hsb : w.heap.size = sb at *
  have HSB := Lib.hid hsb
  clear hsb
  go_upto_region 2 with (first
    | (go_at_call 44; refine (clone_bytes v zs W X0.out.2.2.2 hfit).mono ?_; rintro e w1 ⟨v1, rfl, hr1, hv1, hB1⟩; obtain ⟨a1, c1, rfl⟩ := hr1.len; have X1 := Lib.hid (And.intro hr1 (And.intro hv1 hB1)); clear hr1 hv1 hB1)
    | (refine wpList_build_at rfl 74 _ rfl (prow (.slice a1 zs.length c1)) (by kernel_rfl) ?_))
  change Code.wp _ _ _ _ (w1.alloc (.cells (prow (.slice a1 zs.length c1)) 74))
  have hblk := heap_alloc_new w1 (.cells (prow (.slice a1 zs.length c1)) 74)
  have hBa := below_alloc w1 (.cells (prow (.slice a1 zs.length c1)) 74)
  have hsW : (w1.alloc (.cells (prow (.slice a1 zs.length c1)) 74)).heap.size = w1.heap.size + 1 := by simp
  generalize w1.alloc (.cells (prow (.slice a1 zs.length c1)) 74) = W2 at *
  generalize hrb : w1.heap.size = rb at *
  have HRB := Lib.hid hrb
  clear hrb
  have Q2 : Hid (QAt w W2 sb rb (.slice a1 zs.length c1) ⟨zs, false⟩ reqZ0.cells.toList) := Lib.hid (by
    have h1 := X1.out.2.2
    have h2 := X0.out.2.2.1
    have h3 := h1.size
    have h4 := HRB.out
    have hBw : Below w1.heap.size w1 W2 := by rw [h4]; exact hBa
    refine ⟨⟨(cell_of_row _ _ _ _ _ _ hblk).trans rfl, (cell_of_row _ _ _ _ _ _ hblk).trans rfl, frozen_of_row _ _ _ _ _ hblk, frozen_of_row _ _ _ _ _ hblk, X1.out.1.below hBw, fun e => ?_⟩, rfl, fun j u hj => ?_, fun o => frozen_of_row _ _ _ _ _ hblk, by omega, by omega, ?_, ?_, hl⟩
    · have := reads_own_lt X1.out.1 _ e
      omega
    · rw [cell_of_row _ _ _ _ _ _ hblk, ← Array.getElem?_toList]
      have e : (prow (.slice a1 zs.length c1)).toList = [.slice a1 zs.length c1, .bool false] ++ reqZ0.cells.toList := rfl
      rw [e, List.getElem?_append_right (by simp)]
      simpa using hj
    · exact (hBw.block sb (by omega)).trans ((h1.block sb (by omega)).trans X0.out.1)
    · exact (X0.out.2.1.trans (h1.mono (by omega))).trans (hBw.mono (by omega)))
  have HSP := Lib.hid (parseReqC_eq zs)
  clear hblk hBa hsW X1 X0 hfit
  generalize parseReqC zs = PP at *
  go_upto_region 3 with (go_at_call 45; refine (q_one Q2.out).mono ?_; rintro e w3 ⟨v3, rfl, hq, hm⟩; have Q3 := Lib.hid (And.intro hq hm); have k2 := hq.cells 0 _ rfl; have f2 := hq.frz 2; clear hq hm)
  have hq4 := Q3.out.1.set 2 (.int .i64 (Rd.one ⟨zs, false⟩).1) (by omega) (by omega)
  generalize (Rd.one ⟨zs, false⟩) = kr at *
  obtain ⟨k, r1⟩ := kr
  generalize w3.setCell ⟨rb, 2, none⟩ (.int .i64 k) = W4 at *
  have Q4 := Lib.hid hq4
  have k1 := hq4.rd.c1
  have k2' : W4.cell? ⟨rb, 2, none⟩ = some (.int .i64 k) := hq4.cells 0 _ (by rw [List.getElem?_set_self (by rw [Q3.out.1.len]; omega)])
  clear hq4 k2 f2 Q3 Q2
  have hks := prKind_eq k r1
  by_cases hkk : r1.cut = false ∧ kindB k = false
  · have HP : Hid (PP = (reqZ0.cells.toList, 3)) := Lib.hid (by rw [HSP.out, hks, if_pos hkk])
    obtain ⟨h1, h2⟩ := hkk
    rw [h1] at k1
    clear hks HSP h1
    go_wp2_with (first
      | (go_at_call 33; refine (fr_kind k W4).mono ?_; rintro e w5 ⟨rfl, rfl⟩)
      | (refine wpList_store_row rfl 25 (.tmp 2) (.tmp 37) rfl sb reqZ0.cells rfl rfl 25 reqZ0.cells Q4.out.res (by kernel_rfl) rfl (req_one_cells _) ?_))
    (try simp only [Exit.inBlock, Exit.then])
    refine bodyPost_ret (res_cell_tmp rfl _ _ sb rfl reqZ0.cells.toList _ (rng_setRow Q4.out.res) Try.underlying25 rfl (by kernel_rfl)) rfl ?_
    exact ⟨by rw [HP.out]; rfl, by rw [HSB.out]; exact below_setRow Q4.out.below (Nat.le_refl _) _⟩
  have HK : Hid (PP = prKey k (reqZ0.cells.toList.set 0 (.int .i64 k)) r1) := Lib.hid (by rw [HSP.out, hks, if_neg hkk])
  have hor : r1.cut = true ∨ (r1.cut = false ∧ kindB k = true) := by
    cases h : r1.cut with
    | true => exact .inl rfl
    | false => refine .inr ⟨rfl, ?_⟩; cases hb : kindB k with | true => rfl | false => exact absurd ⟨h, hb⟩ hkk
  clear hks hkk HSP
  rcases hor with hc | ⟨hc, hkb⟩
  case' inl =>
    rw [hc] at k1
    clear hc
    go_upto_region 5 with (fail)
  case' inr =>
    rw [hc] at k1
    clear hc
    go_upto_region 5 with (go_at_call 33; refine (fr_kind k W4).mono ?_; rintro e w5 ⟨rfl, rfl⟩)
    clear hkb
  --DEV
  all_goals
    clear k1 k2'
    go_upto_region 6 with (go_at_call 47; refine (q_str Q4.out).mono ?_; rintro e w5 ⟨v5, rfl, hq, hm⟩; obtain ⟨u3, k3⟩ := hq.cellAt 3 (by omega) (by omega); have f3 := hq.frz 3; have Q5 := Lib.hid hq; clear hq hm)
    have hq6 := Q5.out.set 3 (.string (strB r1.str.1)) (by omega) (by omega)
    have HN : Hid (PP = prNums k ((reqZ0.cells.toList.set 0 (.int .i64 k)).set 1 (.string (strB r1.str.1))) r1.str.2) := Lib.hid (by rw [HK.out, prKey_eq])
    generalize w5.setCell ⟨rb, 3, none⟩ (.string (strB r1.str.1)) = W6 at *
    have k2 : W6.cell? ⟨rb, 2, none⟩ = some (.int .i64 k) := hq6.cells 0 _ rfl
    have Q6 : Hid (QAt w W6 sb rb v5 r1.str.2 ((reqZ0.cells.toList.set 0 (.int .i64 k)).set 1 (.string (strB r1.str.1))) ∧ Good k ((reqZ0.cells.toList.set 0 (.int .i64 k)).set 1 (.string (strB r1.str.1)))) := Lib.hid ⟨hq6, good_init _ _⟩
    generalize (reqZ0.cells.toList.set 0 (.int .i64 k)).set 1 (.string (strB r1.str.1)) = cs6 at *
    generalize r1.str.2 = r6 at *
    clear hq6 Q5 HK Q4 k3 f3
    go_region_with (first
      | (go_at_call 39; refine (fr_numbers rb k _ (by exact k2)).mono ?_; rintro e w7 hp; obtain ⟨ao, rfl, hq, hP⟩ := q_ptrs Q6.out.1.drew hp; have Q7 := Lib.hid (And.intro hq hP); clear hp hq hP)
      | (go_at_call 46; refine (q_ints Q7.out.1 Q7.out.2 rfl (numOffs_ok k)).mono ?_; rintro e w8 ⟨v8, rfl, hq, hm⟩; have Q8 := Lib.hid hq; clear hq hm))
    have HT : Hid (PP = prTexts k (putAt cs6 (numOffs k) (intsV (Rd.ints (numOffs k).length r6).1)) (Rd.ints (numOffs k).length r6).2) := Lib.hid (by rw [HN.out, prNums_eq])
    have hk8 := good_nums r6 Q6.out.2
    generalize putAt cs6 (numOffs k) (intsV (Rd.ints (numOffs k).length r6).1) = cs8 at *
    generalize (Rd.ints (numOffs k).length r6).2 = r8 at *
    have K8 := Lib.hid hk8
    clear k2 Q6 Q7 HN hk8
    have k2 : w8.cell? ⟨rb, 2, none⟩ = some (.int .i64 k) := Q8.out.cells 0 _ K8.out.k0
    go_wp2_with (go_at_call 34; refine (fr_texts rb k _ k2).mono ?_; rintro e w9 hp; obtain ⟨ao9, rfl, hq, hP⟩ := q_ptrs Q8.out hp; have Q9 := Lib.hid (And.intro hq hP); clear hp hq hP)
    clear k2
    have htn := (textOffs_ok k).2.2
    go_loopg [6, 55] (textOffs k).length (fun g s6 s55 wr => ∃ (j : Nat) (vr : Value), j + g = (textOffs k).length ∧ s55 = .int .i64 j ∧ QAt w wr sb rb vr (Rd.strs j r8).2 (putAt cs8 ((textOffs k).take j) (strsV (Rd.strs j r8).1)) ∧ Mods w9 wr rb (fun _ => True))
    case atStart => exact ⟨0, _, by omega, rfl, by unfold Rd.strs strsV; simpa [putAt_nil] using Q9.out.1, Mods.refl _ _ _⟩
    case round =>
      obtain ⟨j, vr, hjg, rfl, hq, hm⟩ := hrel
      cases gk with
      | zero =>
        have hj : ¬ ((j : Int) < ((textOffs k).length : Int)) := by omega
        have QA : Hid (QAt w wr sb rb vr (Rd.strs (textOffs k).length r8).2 (putAt cs8 (textOffs k) (strsV (Rd.strs (textOffs k).length r8).1))) := Lib.hid (by
          have e : j = (textOffs k).length := by omega
          rw [e, List.take_length] at hq
          exact hq)
        have HM : Hid (PP = prMore k (putAt cs8 (textOffs k) (strsV (Rd.strs (textOffs k).length r8).1)) (Rd.strs (textOffs k).length r8).2) := Lib.hid (by rw [HT.out, prTexts_eq])
        have hkA := good_texts r8 K8.out
        generalize putAt cs8 (textOffs k) (strsV (Rd.strs (textOffs k).length r8).1) = csA at *
        generalize (Rd.strs (textOffs k).length r8).2 = rA at *
        have KA := Lib.hid hkA
        clear hq hm HT hkA Q9 Q8 K8
        obtain ⟨wC, rfl⟩ : ∃ x : World, x = wr := ⟨_, rfl⟩
        have k2 : wC.cell? ⟨rb, 2, none⟩ = some (.int .i64 k) := QA.out.cells 0 _ KA.out.k0
        go_wp2
        go_region_with (first
          | (go_at_call 41; refine (fr_more rb k _ (by exact k2)).mono ?_; rintro e wD hp; obtain ⟨ao, rfl, hq, hP⟩ := q_ptrs QA.out.drew hp; have QD := Lib.hid (And.intro hq hP); clear hp hq hP)
          | (go_at_call 46; refine (q_ints QD.out.1 QD.out.2 rfl (moreOffs_ok k)).mono ?_; rintro e wE ⟨vE, rfl, hq, hm⟩; have QE := Lib.hid hq; clear hq hm))
        have HE : Hid (PP = prEnd k (putAt csA (moreOffs k) (intsV (Rd.ints (moreOffs k).length rA).1)) (Rd.ints (moreOffs k).length rA).2) := Lib.hid (by rw [HM.out, prMore_eq])
        have hkE := good_more rA KA.out
        generalize putAt csA (moreOffs k) (intsV (Rd.ints (moreOffs k).length rA).1) = csE at *
        generalize (Rd.ints (moreOffs k).length rA).2 = rE at *
        have KE := Lib.hid hkE
        clear k2 QA QD HM KA hkE
        have k2 : wE.cell? ⟨rb, 2, none⟩ = some (.int .i64 k) := QE.out.cells 0 _ KE.out.k0
        have kc := QE.out.rd.c1
        have kb := QE.out.rd.c0
        obtain ⟨aE, cE, hvE⟩ := QE.out.rd.reads.len
        subst hvE
        obtain ⟨qE, hqE, hqk⟩ := good_shape KE.out
        subst hqE
        have OC : Hid (qE.cells.all (·.oneCell') = true) := Lib.hid (req_one_cells qE)
        have hpe := prEnd_eq k qE.cells.toList rE
        clear hqk
        by_cases hA : k = 16 ∧ rE.cut = false
        · obtain ⟨h16, hc⟩ := hA
          have b16 : (k == 16) = true := by rw [h16]; rfl
          rw [if_pos ⟨h16, hc⟩] at hpe
          rw [hc] at kc
          have HC := Lib.hid hc
          clear h16 hc
          go_upto_region 15 with (first
            | (go_at_call 57; refine (rr_parsePlan _ rE.bs wE QE.out.rd.reads QE.out.fit).mono ?_; rintro e wP ⟨rfl, hB⟩; have BP := Lib.hid hB; clear hB)
            | (refine wpList_store_row rfl 23 (.tmp 7) (.tmp 93) rfl wP.heap.size (parsePlan rE.bs).1.cells rfl rfl 23 plan0.cells (heap_alloc_new _ _) (by kernel_rfl) rfl (plan_one_cells _) ?_))
          change Code.wp _ _ _ _ ((wP.alloc (.cells plan0.cells 23)).setRow wP.heap.size (parsePlan rE.bs).1.cells)
          have hm := made_row wP (parsePlan rE.bs).1.cells plan0.cells 23
          generalize (wP.alloc (.cells plan0.cells 23)).setRow wP.heap.size (parsePlan rE.bs).1.cells = WP at *
          have QP := Lib.hid ((QE.out.on BP.out).on hm.1)
          have YP : Hid (WP.rangeAt wP.heap.size 0 (parsePlan rE.bs).1.cells.toList) := Lib.hid (fun j u hj => by rw [Nat.zero_add, cell_of_row _ _ _ _ _ _ hm.2.1]; simpa using hj)
          generalize wP.heap.size = pb at *
          generalize parsePlan rE.bs = pp at *
          obtain ⟨pl, pe⟩ := pp
          clear hm k2 kc kb QE BP
          by_cases hp0 : pe = 0
          · have bp : (pe != 0) = false := by simp [hp0]
            have HP : Hid (PP = (({ qE with plan := pl } : ReqD).cells.toList, 0)) := Lib.hid (by rw [HE.out, hpe, if_neg (by simp [hp0])]; exact congrArg (fun l => (l, (0 : Int))) (putPlan_cells qE pl))
            clear hpe HE hp0
            have hth : Hid (WP.there rb 10 10) := Lib.hid (fun j hj => ⟨by obtain ⟨u, hu⟩ := QP.out.cellAt (10 + j) (by omega) (by omega); rw [hu]; rfl, QP.out.frz _⟩)
            have f0 := QP.out.frz 0
            have c0 := QP.out.rd.c0
            go_upto_region 18 with (first
              | (refine wpList_load_mid rfl 23 (.tmp 7) rfl pb 0 rfl pl.cells.toList _ YP.out Try.underlying23 rfl (by kernel_rfl) ?_)
              | (refine wpList_store_mid rfl 23 (.tmp 104) (.tmp 101) rfl rb 10 pl.cells rfl rfl hth.out (by kernel_rfl) (plan_one_cells _) ?_
                 have hm17 : Hid (Mods WP (WP.setCells rb 10 pl.cells.toList) rb (fun o => 10 ≤ o ∧ o < 20)) := Lib.hid (Mods.of_setCells _ _ _ (fun j hj => ⟨by omega, by have : j < 10 := hj; omega⟩))
                 have hr17 := Lib.hid (World.rangeAt_setCells_same WP rb 10 pl.cells.toList hth.out)
                 generalize WP.setCells rb 10 pl.cells.toList = W17 at *
                 have c17 := (hm17.out.row 0 (by omega)).trans c0
                 have f17 := (hm17.out.frz 0).trans f0
                 clear c0 f0))
            change Code.wp _ _ _ _ (W17.setCell ⟨rb, 0, none⟩ (.slice none 0 0))
            have m2 : Mods W17 (W17.setCell ⟨rb, 0, none⟩ (.slice none 0 0)) rb (fun o => o = 0) := Mods.of_setCell rfl
            have h0 := cell_set_same (v := .slice none 0 0) c17
            generalize W17.setCell ⟨rb, 0, none⟩ (.slice none 0 0) = W18 at *
            have Q18 : Hid (QAt w W18 sb rb (.slice none 0 0) ⟨[], false⟩ ({ qE with plan := pl } : ReqD).cells.toList) := Lib.hid (by
              refine QP.out.turn (S := fun o => o = 0 ∨ (10 ≤ o ∧ o < 20)) ((hm17.out.mono (fun _ h => .inr h)).trans (m2.mono (fun _ h => .inl h)))
                ⟨h0, ((m2.row 1 (by omega)).trans (hm17.out.row 1 (by omega))).trans (by rw [QP.out.rd.c1, HC.out]), ((m2.frz 0).trans (hm17.out.frz 0)).trans (QP.out.frz 0), ((m2.frz 1).trans (hm17.out.frz 1)).trans (QP.out.frz 1), Reads.nil _, fun e => by cases e⟩ rfl (fun j u hj => ?_) (by simp)
              rw [m2.row (2 + j) (by omega)]
              have e : ({ qE with plan := pl } : ReqD).cells.toList = qE.cells.toList.take 8 ++ pl.cells.toList := rfl
              rw [e] at hj
              by_cases h8 : j < 8
              · rw [hm17.out.row (2 + j) (by omega)]
                rw [List.getElem?_append_left (by show j < 8; exact h8), List.getElem?_take, if_pos h8] at hj
                exact QP.out.cells j u hj
              · rw [List.getElem?_append_right (by show 8 ≤ j; omega)] at hj
                have := hr17.out (j - 8) u hj
                rwa [show 10 + (j - 8) = 2 + j by omega] at this)
            have kc := Q18.out.rd.c1
            have kb := Q18.out.rd.c0
            clear c17 f17 m2 h0 hm17 hr17 QP YP hth
            go_wp2_with (first
              | (refine wpList_load_mid rfl 25 (.tmp 126) rfl rb 2 rfl ({ qE with plan := pl } : ReqD).cells.toList _ Q18.out.cells Try.underlying25 rfl (by kernel_rfl) ?_)
              | (refine wpList_store_row rfl 25 (.tmp 2) (.tmp 127) rfl sb ({ qE with plan := pl } : ReqD).cells rfl rfl 25 reqZ0.cells Q18.out.res (by kernel_rfl) rfl (req_one_cells _) ?_))
            (try simp only [Exit.inBlock, Exit.then])
            refine bodyPost_ret (res_cell_tmp rfl _ _ sb rfl ({ qE with plan := pl } : ReqD).cells.toList _ (rng_setRow Q18.out.res) Try.underlying25 rfl (by kernel_rfl)) rfl ?_
            exact ⟨by rw [HP.out]; rfl, by rw [HSB.out]; exact below_setRow Q18.out.below (Nat.le_refl _) _⟩
          · have bp : (pe != 0) = true := by simp [hp0]
            have HP : Hid (PP = (reqZ0.cells.toList, pe)) := Lib.hid (by rw [HE.out, hpe, if_pos hp0])
            clear hpe HE hp0
            go_wp2_with (first | (refine wpList_store_row rfl 25 (.tmp 2) (.tmp 97) rfl sb reqZ0.cells rfl rfl 25 reqZ0.cells QP.out.res (by kernel_rfl) rfl (req_one_cells _) ?_))
            (try simp only [Exit.inBlock, Exit.then])
            refine bodyPost_ret (res_cell_tmp rfl _ _ sb rfl reqZ0.cells.toList _ (rng_setRow QP.out.res) Try.underlying25 rfl (by kernel_rfl)) rfl ?_
            exact ⟨by rw [HP.out]; rfl, by rw [HSB.out]; exact below_setRow QP.out.below (Nat.le_refl _) _⟩
        rw [if_neg hA] at hpe
        cases hcut : rE.cut with
        | true =>
          have HP : Hid (PP = (reqZ0.cells.toList, 8)) := Lib.hid (by rw [HE.out, hpe, if_pos hcut])
          rw [hcut] at kc
          clear hpe HE hcut hA
          by_cases hk16 : k = 16
          · have b16 : (k == 16) = true := by rw [hk16]; rfl
            clear hk16
            go_wp2_with (first | (refine wpList_store_row rfl 25 (.tmp 2) (.tmp 114) rfl sb reqZ0.cells rfl rfl 25 reqZ0.cells QE.out.res (by kernel_rfl) rfl (req_one_cells _) ?_))
            (try simp only [Exit.inBlock, Exit.then])
            refine bodyPost_ret (res_cell_tmp rfl _ _ sb rfl reqZ0.cells.toList _ (rng_setRow QE.out.res) Try.underlying25 rfl (by kernel_rfl)) rfl ?_
            exact ⟨by rw [HP.out]; rfl, by rw [HSB.out]; exact below_setRow QE.out.below (Nat.le_refl _) _⟩
          · have b16 : (k == 16) = false := by simp [hk16]
            clear hk16
            go_wp2_with (first | (refine wpList_store_row rfl 25 (.tmp 2) (.tmp 114) rfl sb reqZ0.cells rfl rfl 25 reqZ0.cells QE.out.res (by kernel_rfl) rfl (req_one_cells _) ?_))
            (try simp only [Exit.inBlock, Exit.then])
            refine bodyPost_ret (res_cell_tmp rfl _ _ sb rfl reqZ0.cells.toList _ (rng_setRow QE.out.res) Try.underlying25 rfl (by kernel_rfl)) rfl ?_
            exact ⟨by rw [HP.out]; rfl, by rw [HSB.out]; exact below_setRow QE.out.below (Nat.le_refl _) _⟩
        | false =>
          have hk16 : ¬ k = 16 := fun e => hA ⟨e, hcut⟩
          have b16 : (k == 16) = false := by simp [hk16]
          rw [if_neg (by rw [hcut]; simp)] at hpe
          rw [hcut] at kc
          clear hk16 hA hcut
          by_cases hl2 : 0 < rE.bs.length
          · have hd : decide (0 < rE.bs.length) = true := decide_eq_true hl2
            have HP : Hid (PP = (reqZ0.cells.toList, 9)) := Lib.hid (by rw [HE.out, hpe, if_pos hl2])
            clear hpe HE
            go_wp2_with (first | (refine wpList_store_row rfl 25 (.tmp 2) (.tmp 123) rfl sb reqZ0.cells rfl rfl 25 reqZ0.cells QE.out.res (by kernel_rfl) rfl (req_one_cells _) ?_))
            (try simp only [Exit.inBlock, Exit.then])
            refine bodyPost_ret (res_cell_tmp rfl _ _ sb rfl reqZ0.cells.toList _ (rng_setRow QE.out.res) Try.underlying25 rfl (by kernel_rfl)) rfl ?_
            exact ⟨by rw [HP.out]; rfl, by rw [HSB.out]; exact below_setRow QE.out.below (Nat.le_refl _) _⟩
          · have hd : decide (0 < rE.bs.length) = false := decide_eq_false hl2
            have HP : Hid (PP = (qE.cells.toList, 0)) := Lib.hid (by rw [HE.out, hpe, if_neg hl2])
            clear hpe HE
            go_wp2_with (first
              | (refine wpList_load_mid rfl 25 (.tmp 126) rfl rb 2 rfl qE.cells.toList _ QE.out.cells Try.underlying25 rfl (by kernel_rfl) ?_)
              | (refine wpList_store_row rfl 25 (.tmp 2) (.tmp 127) rfl sb qE.cells rfl rfl 25 reqZ0.cells QE.out.res (by kernel_rfl) rfl OC.out ?_))
            (try simp only [Exit.inBlock, Exit.then])
            refine bodyPost_ret (res_cell_tmp rfl _ _ sb rfl qE.cells.toList _ (rng_setRow QE.out.res) Try.underlying25 rfl (by kernel_rfl)) rfl ?_
            exact ⟨by rw [HP.out]; rfl, by rw [HSB.out]; exact below_setRow QE.out.below (Nat.le_refl _) _⟩
      | succ g =>
        obtain ⟨o, ho⟩ : ∃ o, (textOffs k)[j]? = some o := ⟨_, List.getElem?_eq_getElem (by omega)⟩
        have hj : (j : Int) < ((textOffs k).length : Int) := by omega
        have hjn : j < (textOffs k).length := by omega
        have hoo := (textOffs_ok k).2.1 o (List.mem_of_getElem? ho)
        obtain ⟨nb, rfl, hnb, hnr, hcp⟩ := (Q9.out.2.mods hm) j o ho
        have T := Lib.hid (And.intro hq (And.intro hm ho))
        have HO := Lib.hid hoo
        clear hq hm ho hoo hnb hnr
        go_wp2_with (go_at_call 47; refine (q_str T.out.1).mono ?_; rintro e wS ⟨vS, rfl, hq, hm⟩; obtain ⟨uS, kS⟩ := hq.cellAt o (by have := HO.out; omega) HO.out.2; have fS := hq.frz o; have QS := Lib.hid (And.intro hq hm); clear hq hm)
        go_roundg g
        case measure => omega
        case rel =>
          refine ⟨j + 1, vS, by omega, by first | rfl | go_num, ?_, (T.out.2.1.trans QS.out.2).trans ((Mods.of_setCell (S := fun _ => True) trivial))⟩
          have hs := QS.out.1.set o (.string (strB (Rd.strs j r8).2.str.1)) (by have := HO.out; omega) HO.out.2
          rw [Rd.strs_snoc, List.take_add_one, T.out.2.2]
          simp only [strsV, List.map_append, List.map_cons, List.map_nil, Option.toList_some]
          rw [putAt_snoc _ _ _ _ _ (by rw [List.length_map, Rd.strs_length, List.length_take]; omega)]
          exact hs
end Go.Proofs.Ytehkgcmdndehaaa
