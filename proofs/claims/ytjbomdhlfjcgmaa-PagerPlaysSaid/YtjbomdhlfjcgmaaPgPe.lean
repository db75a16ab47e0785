/-
  The law PagerPlays.
-/
import Derived.Test.YtjbomdhlfjcgmaaPgQs
import Derived.Deep.DeepCutAuto
import Derived.Deep.CutRange
import Derived.Deep.CutBlock
namespace Go.Proofs.Ytjbomdhlfjcgmaa
set_option linter.unusedSimpArgs false
set_option linter.unusedVariables false
open Go.RowKit
attribute [local irreducible] atF woP newP

set_option maxHeartbeats 12800000 in
set_option maxRecDepth 100000 in
theorem pagerPlays_walk {w : World} (x : Int) (hx : (Lit.int .i64 x).wf = true) (vc : Value) (cs : List CallD) (hc : RdCalls w vc cs) : Calls Try.prog 7 #[.int .i64 x, vc] w (fun e w' => e = .returned (.bool true) ∧ Below w.heap.size w w') := by
  have HW := Lib.hid (law3_within x 100 (by omega) (by omega) hx)
  obtain ⟨av, cv, rfl⟩ : ∃ a c, vc = .slice a cs.length c := by
    obtain ⟨a, c, e⟩ := hc.1.len
    exact ⟨a, c, by rw [e, List.length_map]⟩
  have hN : (cs.length : Int) ≤ 140737488351232 := by have := hc.2.2; omega
  have HC := Lib.hid hc
  clear hx hc
  go_enter Try.func7, Try.ntmps7
  go_upto_region 4 with (first
    | (go_at_call 9; go_must (refine (law3_known _).mono ?_; rintro e w1 ⟨rfl, hB⟩; have X1 := Lib.hid hB; clear hB))
    | (go_at_call 16; go_must (refine (HW.out _).mono ?_; rintro e w' ⟨r, hr, rfl, rfl⟩; have HR := Lib.hid hr; have hr' : (r : Int) < 100 := (by omega); clear hr)))
  have HNW := ub_new (64 + r) (by omega) (by have := HR.out; omega) X1.out
  obtain ⟨bl, hbl⟩ : ∃ bl, bl = 64 + r := ⟨_, rfl⟩
  have hbi : (64 : Int) + (r : Int) = (bl : Int) := by omega
  have HBL : Hid (64 ≤ bl ∧ bl < 164) := Lib.hid (by have := HR.out; omega)
  have hbl2 : (bl : Int) < 164 := by have := HBL.out; omega
  rw [← hbl] at HNW
  have HN' := Lib.hid HNW
  rw [hbi]
  clear HNW hbl hbi hr'
  go_upto_region 11 with (first
      | (go_at_call 10; go_must (refine HN'.out.mono ?_; rintro e w2 ⟨db, G, rfl, hd⟩; have X2 := Lib.hid hd; clear hd))
      | (go_at_call 11; go_must (refine (ub_open X2.out).mono ?_; rintro e w3 ⟨pb, F, rfl, hup⟩; have X3 := Lib.hid hup; clear hup)))
  go_upto_region 13 with (go_at_call 27; go_must (refine (dk_writes X3.out.up.on.dk).mono ?_; rw [show wrap64 (((DiskS.new bl).writes : Nat) : Int) = ((0 : Nat) : Int) by (show wrap64 ((0 : Nat) : Int) = _; exact IntWalk.wrap64_in _ (by omega))]; rintro e w' ⟨rfl, rfl⟩))
  have H3 : Hid (PlE w w3 bl 0 db (.pointer (some ⟨pb, 0, none⟩)) (.slice none 0 0) (.slice none 0 0) (.string (strB [])) (.int .i64 ((0 : Nat) : Int)) (.int .i64 ((0 : Nat) : Int)) (.int .i64 ((0 : Nat) : Int))) := Lib.hid (PlS.pack (ps := []) (qs := []) (rt := []) (F := F) (G := G) (D := DiskS.new bl) (S := loadS (DiskS.new bl)) (C := Comm.new)
    ⟨⟨X3.out, PRow.nil _ _, fun k hk => (by cases hk), PRow.nil _ _, fun k hk => (by cases hk), fun k hk => (by cases hk)⟩, PMap.nil (fun n => by rw [loadS_now]; rfl), PMap.nil (fun n => rfl), rfl, rfl, rfl, by rw [cnt_none (p := fun k => ((loadS (DiskS.new bl)).fresh k).isSome) _ (fun n _ => rfl)]; exact Nat.le_refl _, rfl, Nat.le_refl _, Nat.le_refl _, Nat.le_refl _, Nat.le_refl _, Nat.le_refl _⟩)
  go_loopg [7, 8, 9, 10, 11, 12, 13, 14, 15, 16, 17, 18, 19, 20, 21, 22, 23, 24, 25, 26, 27] 120 (fun g s7 s8 s9 s10 s11 s12 s13 s14 s15 s16 s17 s18 s19 s20 s21 s22 s23 s24 s25 s26 s27 wr => ∃ k : Nat, k + g = 120 ∧ s15 = .int .i64 k ∧ PlE w wr bl k db s7 s9 s10 s11 s12 s13 s14)
  case atStart => exact ⟨0, rfl, rfl, H3.out⟩
  case round =>
    obtain ⟨k, hkg, rfl, pb4, a9, c9, ps, a10, c10, qs, rt, sq, nw, wn, F4, G4, D4, S4, C4, rfl, rfl, rfl, rfl, rfl, rfl, rfl, hS⟩ := hrel
    obtain ⟨w4, rfl⟩ : ∃ x : World, x = wr := ⟨_, rfl⟩
    have HA := Lib.hid (And.intro hS hkg)
    clear hS
    by_cases hend : k < cs.length ∧ k < 120
    · obtain ⟨hkn, hkm⟩ := hend
      have hk1 : (k : Int) < (cs.length : Int) := by omega
      have hk2 : (k : Int) < 120 := by omega
      have hps : (ps.length : Int) ≤ 120 := by have := HA.out.1.lps; omega
      clear hkg
      obtain ⟨q, hq⟩ : ∃ q, cs[k]? = some q := ⟨_, List.getElem?_eq_getElem hkn⟩
      have hqok : CallOk w q := HC.out.2.1 q (List.mem_of_getElem? hq)
      have hit := HC.out.1.below HA.out.1.up.bel
      obtain ⟨b0, off, rfl, hb0⟩ : ∃ b off, av = some ⟨b, off, none⟩ ∧ w4.rangeAt b (off + k * 3) [.int .i64 q.kd, .int .i64 q.n, q.v] := by
        rcases hit with ⟨h0, _⟩ | ⟨b, off, cap, e, _, _, hx⟩
        · have := congrArg List.length h0
          simp only [List.length_map, List.length_nil] at this
          omega
        · rw [List.length_map] at e
          cases e
          exact ⟨b, off, rfl, (hx k q.cells (by rw [List.getElem?_map, hq]; rfl)).2⟩
      obtain ⟨kd, nn, vv, bs⟩ := q
      obtain ⟨aq, cq, evv⟩ := hqok.bs.len
      obtain rfl : vv = .slice aq bs.length cq := evv
      have HB0 := Lib.hid (And.intro hb0 (And.intro hqok hkm))
      clear hit hb0 hqok hkm hq
      go_upto_region 16 with (first
        | (refine wpList_load_mid rfl 49 (.tmp 59) rfl b0 (off + k * 3) rfl [.int .i64 kd, .int .i64 nn, .slice aq bs.length cq] _ HB0.out.1 Try.underlying49 rfl (by kernel_rfl) ?_)
        | (refine wpList_store_row rfl 49 (.tmp 16) (.tmp 60) rfl w4.heap.size #[.int .i64 kd, .int .i64 nn, .slice aq bs.length cq] rfl rfl 49 #[.int .i64 0, .int .i64 0, .slice none 0 0] (heap_alloc_new _ _) (by kernel_rfl) rfl (by rfl) ?_))
      have hm1 := below_any w4 (.cells #[.int .i64 kd, .int .i64 nn, .slice aq bs.length cq] 49)
      have hm2 := heap_alloc_new w4 (.cells #[.int .i64 kd, .int .i64 nn, .slice aq bs.length cq] 49)
      obtain ⟨w5, hw5⟩ : ∃ w5, w5 = w4.alloc (.cells #[.int .i64 kd, .int .i64 nn, .slice aq bs.length cq] 49) := ⟨_, rfl⟩
      rw [← hw5] at hm1 hm2 ⊢
      clear hw5
      obtain ⟨cb, hcb⟩ : ∃ cb, cb = w4.heap.size := ⟨_, rfl⟩
      rw [← hcb] at hm2
      have X5 : Hid (PlS w w5 bl k pb4 db (.slice a9 ps.length c9) ps (.slice a10 qs.length c10) qs rt sq nw wn F4 G4 D4 S4 C4 ∧ CAt w w5 F4 G4 (.slice a9 ps.length c9) (.slice a10 qs.length c10) cb ⟨kd, nn, .slice aq bs.length cq, bs⟩) := Lib.hid ⟨HA.out.1.below hm1,
        ⟨hm2, by rw [hcb]; exact HA.out.1.up.bel.size, HA.out.1.up.far_new (by omega), fun e => by have := (HA.out.1.two.ra.blk _ e).2; omega, fun e => by have := (HA.out.1.two.rd.blk _ e).2; omega, HB0.out.2.1, HA.out.1.up.bel.trans (hm1.mono HA.out.1.up.bel.size)⟩⟩
      rw [← hcb]
      clear hm1 hm2 hcb
      have kc0 : w5.cell? ⟨cb, 0, none⟩ = some (.int .i64 kd) := X5.out.2.cells.1
      have kc1 : w5.cell? ⟨cb, 1, none⟩ = some (.int .i64 nn) := X5.out.2.cells.2.1
      have kc2 : w5.cell? ⟨cb, 2, none⟩ = some (.slice aq bs.length cq) := X5.out.2.cells.2.2
      go_upto_region 17 with (fail)
      go_cut [71] from 63 to 70 (fun s71 wx => ∃ b : Bool, s71 = .bool b ∧ (b = true → 0 < ps.length) ∧ wx = w5)
      case first =>
        as_aux_lemma =>
        by_cases hl : 0 < ps.length
        · have hl' : (0 : Int) < (ps.length : Int) := by omega
          have HL := Lib.hid hl
          clear hl
          by_cases h4 : 0 < nn.tmod 4
          · have hb4 : decide (0 < nn.tmod 4) = true := decide_eq_true h4
            go_wp2
            go_meet
            exact ⟨true, rfl, fun _ => HL.out, rfl⟩
          · have hb4 : decide (0 < nn.tmod 4) = false := decide_eq_false h4
            go_wp2
            go_meet
            exact ⟨false, rfl, fun _ => HL.out, rfl⟩
        · have hl' : ¬ (0 : Int) < (ps.length : Int) := by omega
          go_wp2
          go_meet
          exact ⟨false, rfl, (fun h => absurd h (by decide)), rfl⟩
      case rest =>
        obtain ⟨b71, rfl, hb71, rfl⟩ := hcut
        have HB71 := Lib.hid hb71
        clear hb71
        go_upto_if 71 with (fail)
        go_cut [17] from 72 to 80 (fun s17 wx => ∃ xk : Int, s17 = .int .i64 xk ∧ (Lit.int .i64 xk).wf = true ∧ wx = wc)
        case first =>
          as_aux_lemma =>
          cases b71 with
          | true =>
            have hl := HB71.out rfl
            have hl' : (0 : Int) < (ps.length : Int) := by omega
            obtain ⟨_, g9, rfl⟩ := X5.out.1.two.ra.form hl
            have HWN := Lib.hid (law3_within nn ps.length hl (by have := X5.out.1.lps; have := HB0.out.2.2; omega) HB0.out.2.1.n)
            clear hl
            go_wp2_with (go_at_call 16; go_must (refine (HWN.out _).mono ?_; rintro e w' ⟨r2, hr2, rfl, rfl⟩; have hr2' : (r2 : Int) < (ps.length : Int) := (by omega); obtain ⟨p2, hp2⟩ : ∃ p, ps[r2]? = some p := ⟨_, List.getElem?_eq_getElem hr2⟩; obtain ⟨kp, _⟩ := X5.out.1.two.ra.cell r2 p2 hp2; have HP2 := Lib.hid (List.mem_of_getElem? hp2); clear hr2 hp2))
            go_meet
            obtain ⟨z1, z2, z3⟩ := now_range X5.out.1.up.up.inv ((X5.out.1.ma.mem p2.1 p2.2).2 HP2.out)
            exact ⟨_, rfl, wf_small p2.1 (by rw [X5.out.1.blk] at z2; have := HBL.out; omega), rfl⟩
          | false =>
            go_wp2
            go_meet
            exact ⟨_, rfl, HB0.out.2.1.n, rfl⟩
        case rest =>
          obtain ⟨xk, rfl, hxk, rfl⟩ := hcut
          obtain ⟨w6, rfl⟩ : ∃ x : World, x = wc := ⟨_, rfl⟩
          have HXK := Lib.hid hxk
          have hnw : (nw : Int) ≤ 120 := by have := HA.out.1.lnw; have := HB0.out.2.2; omega
          have hsq : (sq : Int) ≤ 120 := by have := HA.out.1.lsq; have := HB0.out.2.2; omega
          have hwn : (wn : Int) ≤ 48000 := by have := HA.out.1.lwn; have := HB0.out.2.2; omega
          have hqs : (qs.length : Int) ≤ 120 := by have := HA.out.1.lqs; have := HB0.out.2.2; omega
          have HW6 := Lib.hid (law3_within kd 6 (by omega) (by omega) HB0.out.2.1.kd)
          clear hxk
          go_upto_block 2 with (go_at_call 16; go_must (refine (HW6.out _).mono ?_; rintro e w' ⟨r6, hr6, rfl, rfl⟩; have HR6 : Hid (r6 = 0 ∨ r6 = 1 ∨ r6 = 2 ∨ r6 = 3 ∨ r6 = 4 ∨ r6 = 5) := Lib.hid (by omega); clear hr6))
          go_cut [7, 8, 9, 10, 11, 12, 13, 14] from 84 to 259 (fun s7 s8 s9 s10 s11 s12 s13 s14 wx => PlE w wx bl (k + 1) db s7 s9 s10 s11 s12 s13 s14)
          case first =>
            refine plays_sw HR6.out HBL HB0.out.2.2 X5 HXK (by assumption) (by assumption) ?_
            as_aux_lemma =>
            intro a' w' hm
            iterate 193 (obtain ⟨_, hm⟩ := hm)
            obtain ⟨⟨pb8, a9', c9', ps', a10', c10', qs', rt', sq', nw', wn', F8, G8, D8, S8, C8, rfl, rfl, rfl, rfl, rfl, rfl, rfl, hS⟩, rfl⟩ := hm
            have HS := Lib.hid hS
            clear hS
            go_wp2
            go_roundg (120 - (k + 1))
            case measure => have := HA.out.2; have := HB0.out.2.2; omega
            case rel => exact ⟨k + 1, by have := HB0.out.2.2; omega, by simp, HS.out.pack⟩
          case rest =>
            as_aux_lemma =>
            obtain ⟨pb8, a9, c9, ps, a10, c10, qs, rt, sq, nw, wn, F8, G8, D8, S8, C8, rfl, rfl, rfl, rfl, rfl, rfl, rfl, hS⟩ := hcut
            obtain ⟨w8, rfl⟩ : ∃ x : World, x = wc := ⟨_, rfl⟩
            have HS := Lib.hid hS
            have hps : (ps.length : Int) ≤ 121 := by have := hS.lps; have := HB0.out.2.2; omega
            have hqs : (qs.length : Int) ≤ 121 := by have := hS.lqs; have := HB0.out.2.2; omega
            clear hS
            go_upto_region 66 with (fail)
            go_loopg [26, 27] ps.length (fun g s26 s27 wr => ∃ j : Nat, j + g = ps.length ∧ s27 = .int .i64 j ∧ s26 = .int .i64 ((qs.length + (newP (ps.take j) qs).length : Nat) : Int) ∧ w8 = wr)
            case atStart => exact ⟨0, by omega, rfl, by rw [List.take_zero, show (newP [] qs) = [] from by unfold newP; rfl]; rfl, rfl⟩
            case round =>
              obtain ⟨j, hjg, rfl, rfl, rfl⟩ := hrel
              have HJG := Lib.hid hjg
              cases gk with
              | zero =>
                obtain rfl : j = ps.length := by omega
                rw [List.take_length]
                have hj : ¬ (ps.length : Int) < (ps.length : Int) := by omega
                obtain ⟨bo, hbo⟩ : ∃ bo, bo = qs.length + (newP ps qs).length := ⟨_, rfl⟩
                rw [← hbo]
                obtain ⟨L, hL2⟩ : ∃ L, L = S8.left := ⟨_, rfl⟩
                have HL := Lib.hid hL2
                have hlq : ¬ L < (bl : Int) - 32 - (bo : Int) := by
                  have h1 := left_both HS.out.up.up.inv HS.out.ma HS.out.md
                  have h2 := firstN_le HS.out.up.up.inv.ok.wf.hi
                  rw [HS.out.blk] at h1 h2
                  omega
                have hbo2 : (bo : Int) ≤ 300 := by have := newP_le ps qs; omega
                clear hbo hL2 hjg
                go_wp2_with (first
                  | (go_at_call 18; go_must (refine (ub_left HS.out.up).mono ?_; rw [← HL.out]; rintro e w9 ⟨rfl, _, nd, hw⟩; have X9 := Lib.hid (HS.out.drewN nd); rw [← hw] at X9; clear hw))
                  | (go_at_call 15; go_must (have HRT := up_root X9.out.up.up; rw [X9.out.root] at HRT; refine HRT.mono ?_; clear HRT; rintro e w10 ⟨v10, rfl, hr10, _, hB10⟩; obtain ⟨a12, c12, rfl⟩ := hr10.len; have hc10 : (convert 22 9 (.slice a12 rt.length c12)).run Try.prog w10 = .ok (.string (strB rt)) w10 := run_string_of 22 9 5 Try.underlying22 Try.underlying5 Try.underlying9 hr10; have X10 := Lib.hid (X9.out.below hB10); clear hr10 hB10))
                  | (go_at_call 17; go_must (refine (up_seq X10.out.up.up).mono ?_; rw [X10.out.seq]; rintro e w' ⟨rfl, rfl⟩)))
                go_roundg (120 - (k + 1))
                case measure => have := HA.out.2; have := HB0.out.2.2; omega
                case rel => exact ⟨k + 1, by have := HB0.out.2.2; omega, by simp, X10.out.pack⟩
              | succ g =>
                have hjn : j < ps.length := by omega
                have hj : (j : Int) < (ps.length : Int) := by omega
                obtain ⟨p, hp⟩ : ∃ p, ps[j]? = some p := ⟨_, List.getElem?_eq_getElem hjn⟩
                obtain ⟨_, g9, rfl⟩ := HS.out.two.ra.form (by omega)
                obtain ⟨kp, _⟩ := HS.out.two.ra.cell j p hp
                have HP := Lib.hid hp
                have HPW : Hid ((Lit.int .i64 (p.1 : Int)).wf = true) := Lib.hid (by
                  obtain ⟨z1, z2, z3⟩ := now_range HS.out.up.up.inv ((HS.out.ma.mem p.1 p.2).2 (List.mem_of_getElem? hp))
                  exact wf_small p.1 (by rw [HS.out.blk] at z2; have := HBL.out; omega))
                obtain ⟨nq, hnq⟩ : ∃ nq, nq = qs.length + (newP (ps.take j) qs).length := ⟨_, rfl⟩
                have hnl : (nq : Int) ≤ 300 := by have := newP_le (ps.take j) qs; rw [List.length_take] at this; omega
                rw [← hnq]
                obtain ⟨z, hz⟩ : ∃ z, z = atF qs (p.1 : Int) 0 := ⟨_, rfl⟩
                have HZ := Lib.hid (And.intro hz hnq)
                clear hp hz hjg hjn hnq
                by_cases hx : z < 0
                · have HX := Lib.hid hx
                  go_wp2_with (go_at_call 28; go_must (refine (law3_at HS.out.two.rd (by have := hqs; omega) (p.1 : Int) HPW.out).mono ?_; rw [← HZ.out.1]; rintro e w' ⟨rfl, rfl⟩))
                  go_roundg g
                  case measure => omega
                  case rel => exact ⟨j + 1, by have := HJG.out; omega, by simp, by rw [newP_take_yes HP.out (by rw [← HZ.out.1]; exact HX.out), HZ.out.2]; simp; omega, rfl⟩
                · have HX := Lib.hid hx
                  go_wp2_with (go_at_call 28; go_must (refine (law3_at HS.out.two.rd (by have := hqs; omega) (p.1 : Int) HPW.out).mono ?_; rw [← HZ.out.1]; rintro e w' ⟨rfl, rfl⟩))
                  go_roundg g
                  case measure => omega
                  case rel => exact ⟨j + 1, by have := HJG.out; omega, by simp, by rw [newP_take_no HP.out (by rw [← HZ.out.1]; have := HX.out; omega), HZ.out.2], rfl⟩
    · as_aux_lemma =>
      by_cases hkn : k < cs.length
      · have hk1 : (k : Int) < (cs.length : Int) := by omega
        have hk2 : ¬ (k : Int) < 120 := by omega
        clear hend hkg
        go_wp2_with (go_at_call 26; go_must (refine (law3_holds HA.out.1.up HA.out.1.two.ra (by have := HA.out.1.lps; have := HA.out.2; omega) (fun j hj e => (HA.out.1.two.fa j hj).1 (by rw [e]; exact HA.out.1.up.up.on.pg.own)) rt HA.out.1.root (fun p hp => (HA.out.1.ma.mem p.1 p.2).2 hp)).mono ?_; rintro e w9 ⟨rfl, hup⟩; have X9 := Lib.hid hup; clear hup))
        go_ret
        exact ⟨rfl, X9.out.bel⟩
      · have hk1 : ¬ (k : Int) < (cs.length : Int) := by omega
        clear hend hkg
        go_wp2_with (go_at_call 26; go_must (refine (law3_holds HA.out.1.up HA.out.1.two.ra (by have := HA.out.1.lps; have := HA.out.2; omega) (fun j hj e => (HA.out.1.two.fa j hj).1 (by rw [e]; exact HA.out.1.up.up.on.pg.own)) rt HA.out.1.root (fun p hp => (HA.out.1.ma.mem p.1 p.2).2 hp)).mono ?_; rintro e w9 ⟨rfl, hup⟩; have X9 := Lib.hid hup; clear hup))
        go_ret
        exact ⟨rfl, X9.out.bel⟩
end Go.Proofs.Ytjbomdhlfjcgmaa
