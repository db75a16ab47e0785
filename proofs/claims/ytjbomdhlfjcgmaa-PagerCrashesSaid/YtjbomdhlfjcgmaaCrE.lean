/-
  The law PagerCrashes.
-/
import Derived.Test.YtjbomdhlfjcgmaaCrQs
import Derived.Deep.DeepCutAuto
import Derived.Deep.CutRange
import Derived.Deep.CutBlock
namespace Go.Proofs.Ytjbomdhlfjcgmaa
set_option linter.unusedSimpArgs false
set_option linter.unusedVariables false
open Go.RowKit
attribute [local irreducible] atF woP newP

theorem UpB.cut {w0 w w' : World} {pb db : Nat} {F G : Nat → Prop} {D : DiskS} {S : PgS} {C : Comm} (h : UpB w0 w pb db F G D S C) (r : Nat) (hr : r < 1000) (hd : DkAt w' db G (D.cut r)) (hk : Keeps G w w') : UpC w0 w' pb db F G (D.cut r) S C :=
  ⟨⟨h.up.on.disk hd (Moves.of_keeps hk) rfl, ⟨h.up.inv.ok.cut r (by omega), h.up.inv.wf, h.up.inv.bl, h.up.inv.seq, h.up.inv.root, h.up.inv.has⟩⟩, Keeps.below_new h.bel hk (fun j hj => h.own j (.inr hj)), h.own, h.alive⟩
section
variable {w0 w w' : World} {db : Nat} {vd : Value} {qs : List PageD} {rt : List UInt8} {G : Nat → Prop} {D D' : DiskS} {C : Comm}
theorem CrD.turn (h : CrD w0 w db vd qs rt G D C) (hd : DkC w0 w' db G D' C) (hk : Keeps G w w') : CrD w0 w' db vd qs rt G D' C := ⟨hd, h.rd.keeps hk (fun j hj => h.fd j hj), h.fd, h.md, h.root, h.lqs⟩
theorem CrD.below (h : CrD w0 w db vd qs rt G D C) (k : Below w.heap.size w w') : CrD w0 w' db vd qs rt G D C := ⟨h.dk.below k, h.rd.below k, h.fd, h.md, h.root, h.lqs⟩
end
set_option maxHeartbeats 12800000 in
set_option maxRecDepth 100000 in
theorem pagerCrashes_walk {w : World} (vc : Value) (cs : List CallD) (hc : RdCalls w vc cs) (hcl : cs.length ≤ 140737488351232) (x : Int) (hx : (Lit.int .i64 x).wf = true) (va : Value) (ns : List Int) (hn : RdInts w va ns) (hnl : ns.length ≤ 140737488351232) : Calls Try.prog 6 #[vc, .int .i64 x, va] w (fun e w' => e = .returned (.bool true) ∧ Below w.heap.size w w') := by
  have HW := Lib.hid (law3_within x 60 (by omega) (by omega) hx)
  obtain ⟨av, cv, rfl⟩ : ∃ a c, vc = .slice a cs.length c := by
    obtain ⟨a, c, e⟩ := hc.1.len
    exact ⟨a, c, by rw [e, List.length_map]⟩
  obtain ⟨an, cn, rfl, hni⟩ := hn
  have hNl : (cs.length : Int) ≤ 140737488351232 := by omega
  have hNn : (ns.length : Int) ≤ 140737488351232 := by omega
  have HC := Lib.hid hc
  have HNI := Lib.hid hni
  clear hx hc hni hcl hnl
  go_enter Try.func6, Try.ntmps6
  go_upto_region 8 with (first
    | (go_at_call 9; go_must (refine (law3_known _).mono ?_; rintro e w1 ⟨rfl, hB⟩; have X1 := Lib.hid hB; clear hB))
    | (go_at_call 10; go_must (refine (ub_new 160 (by omega) (by omega) X1.out).mono ?_; rintro e w2 ⟨db, G, rfl, hd⟩; have X2 := Lib.hid hd; clear hd))
    | (go_at_call 11; go_must (refine (ub_open X2.out).mono ?_; rintro e w3 ⟨pb, F, rfl, hup⟩; have X3 := Lib.hid hup; clear hup))
    | (go_at_call 16; go_must (refine (HW.out _).mono ?_; rintro e w' ⟨r, hr, rfl, rfl⟩; have HR := Lib.hid hr; have hr' : (r : Int) < 60 := (by omega); clear hr))
    | (go_at_call 19; go_must (refine (dk_cut X3.out.up.on.dk r (by omega)).mono ?_; rintro e w4 ⟨rfl, hd, hk⟩; have X4 := Lib.hid (X3.out.cut r (by have := HR.out; omega) hd hk); clear hd hk)))
  have H3 : Hid (CrE w w4 0 db (.pointer (some ⟨pb, 0, none⟩)) (.slice none 0 0) (.slice none 0 0) (.string (strB []))) := Lib.hid (CrS.pack (ps := []) (qs := []) (rt := [])
    ⟨⟨X4.out, PRow.nil _ _, fun k hk => (by cases hk), PRow.nil _ _, fun k hk => (by cases hk), fun k hk => (by cases hk)⟩, PMap.nil (fun n => by rw [loadS_now]; rfl), PMap.nil (fun n => rfl), rfl, Nat.le_refl _, Nat.le_refl _, Nat.le_refl _⟩)
  go_upto_block 0 with (fail)
  go_cut [9, 10, 11, 12, 13, 14, 15, 16, 17, 18, 19, 20, 21] from 40 to 135 (fun s9 s10 s11 s12 s13 s14 s15 s16 s17 s18 s19 s20 s21 wx => CrX w wx db s12 s14)
  case first =>
    as_aux_lemma =>
    go_upto_region 12 with (fail)
    go_loopg [11, 12, 13, 14, 15, 16, 17, 18, 19, 20, 21] 60 (fun g s11 s12 s13 s14 s15 s16 s17 s18 s19 s20 s21 wr => ∃ k : Nat, k + g = 60 ∧ s17 = .int .i64 k ∧ CrE w wr k db (.pointer (some ⟨pb, 0, none⟩)) s11 s12 s14)
    case atStart => exact ⟨0, rfl, rfl, H3.out⟩
    case round =>
      obtain ⟨k, hkg, rfl, ⟨pb4, a11, c11, ps, a12, c12, qs, rt, F4, G4, D4, S4, C4, e9, rfl, rfl, rfl, hS⟩ | ⟨a12, c12, qs, rt, G4, D4, C4, rfl, rfl, hdd, hS⟩⟩ := hrel
      · obtain rfl : pb4 = pb := by cases e9; rfl
        obtain ⟨w5, rfl⟩ : ∃ x : World, x = wr := ⟨_, rfl⟩
        have HA := Lib.hid (And.intro hS hkg)
        clear hS e9
        by_cases hend : k < cs.length ∧ k < 60
        · obtain ⟨hkn, hkm⟩ := hend
          have hk1 : (k : Int) < (cs.length : Int) := by omega
          have hk2 : (k : Int) < 60 := by omega
          clear hkg
          go_upto_block 1 with (go_at_call 22; go_must (refine (dk_dead HA.out.1.two.up.up.on.dk).mono ?_; rw [HA.out.1.two.up.alive]; rintro e w' ⟨rfl, rfl⟩))
          go_cut [11, 12, 13, 14, 15, 16, 18, 19, 20, 21] from 55 to 135 (fun s11 s12 s13 s14 s15 s16 s18 s19 s20 s21 wx => CrE w wx (k + 1) db (.pointer (some ⟨pb4, 0, none⟩)) s11 s12 s14)
          case first =>
            as_aux_lemma =>
            obtain ⟨q, hq⟩ : ∃ q, cs[k]? = some q := ⟨_, List.getElem?_eq_getElem hkn⟩
            have hqok : CallOk w q := HC.out.2.1 q (List.mem_of_getElem? hq)
            have hit := HC.out.1.below HA.out.1.two.up.bel
            obtain ⟨b0, off, rfl, hb0⟩ : ∃ b off, av = some ⟨b, off, none⟩ ∧ w5.rangeAt b (off + k * 3) [.int .i64 q.kd, .int .i64 q.n, q.v] := by
              rcases hit with ⟨h0, _⟩ | ⟨b, off, cap, e, _, _, hx⟩
              · have := congrArg List.length h0
                simp only [List.length_map, List.length_nil] at this
                omega
              · rw [List.length_map] at e
                cases e
                exact ⟨b, off, rfl, (hx k q.cells (by rw [List.getElem?_map, hq]; rfl)).2⟩
            obtain ⟨kd, nn, vv, bs⟩ := q
            obtain ⟨aq, cq, evv⟩ := hqok.bs.len
            obtain rfl : vv = .slice aq bs.length cq := evv
            have HB0 := Lib.hid (And.intro hb0 (And.intro hqok hkm))
            clear hit hb0 hqok hkm hq
            go_upto_region 15 with (first
              | (refine wpList_load_mid rfl 49 (.tmp 57) rfl b0 (off + k * 3) rfl [.int .i64 kd, .int .i64 nn, .slice aq bs.length cq] _ HB0.out.1 Try.underlying49 rfl (by kernel_rfl) ?_)
              | (refine wpList_store_row rfl 49 (.tmp 18) (.tmp 58) rfl w5.heap.size #[.int .i64 kd, .int .i64 nn, .slice aq bs.length cq] rfl rfl 49 #[.int .i64 0, .int .i64 0, .slice none 0 0] (heap_alloc_new _ _) (by kernel_rfl) rfl (by rfl) ?_))
            have hm1 := below_any w5 (.cells #[.int .i64 kd, .int .i64 nn, .slice aq bs.length cq] 49)
            have hm2 := heap_alloc_new w5 (.cells #[.int .i64 kd, .int .i64 nn, .slice aq bs.length cq] 49)
            obtain ⟨w6, hw6⟩ : ∃ w6, w6 = w5.alloc (.cells #[.int .i64 kd, .int .i64 nn, .slice aq bs.length cq] 49) := ⟨_, rfl⟩
            rw [← hw6] at hm1 hm2 ⊢
            clear hw6
            obtain ⟨cb, hcb⟩ : ∃ cb, cb = w5.heap.size := ⟨_, rfl⟩
            rw [← hcb] at hm2
            have X5 : Hid (CrS w w6 k pb4 db (.slice a11 ps.length c11) ps (.slice a12 qs.length c12) qs rt F4 G4 D4 S4 C4 ∧ CAt w w6 F4 G4 (.slice a11 ps.length c11) (.slice a12 qs.length c12) cb ⟨kd, nn, .slice aq bs.length cq, bs⟩) := Lib.hid ⟨HA.out.1.below hm1,
              ⟨hm2, by rw [hcb]; exact HA.out.1.two.up.bel.size, HA.out.1.two.up.far_new (by omega), fun e => by have := (HA.out.1.two.ra.blk _ e).2; omega, fun e => by have := (HA.out.1.two.rd.blk _ e).2; omega, HB0.out.2.1, HA.out.1.two.up.bel.trans (hm1.mono HA.out.1.two.up.bel.size)⟩⟩
            rw [← hcb]
            clear hm1 hm2 hcb
            have kc0 : w6.cell? ⟨cb, 0, none⟩ = some (.int .i64 kd) := X5.out.2.cells.1
            have HW6 := Lib.hid (law3_within kd 5 (by omega) (by omega) HB0.out.2.1.kd)
            go_upto_block 2 with (go_at_call 16; go_must (refine (HW6.out _).mono ?_; rintro e w' ⟨r6, hr6, rfl, rfl⟩; have HR6 : Hid (r6 = 0 ∨ r6 = 1 ∨ r6 = 2 ∨ r6 = 3 ∨ r6 = 4) := Lib.hid (by omega); clear hr6))
            refine crash_sw HR6.out HB0.out.2.2 X5 ?_ ?_ ?_
            · as_aux_lemma =>
              intro a' w' hm
              iterate 83 (obtain ⟨_, hm⟩ := hm)
              obtain ⟨hP, rfl⟩ := hm
              have HPE := Lib.hid hP
              clear hP
              go_wp2
              go_meet
              exact HPE.out
            · as_aux_lemma =>
              intro a' w' hm
              iterate 83 (obtain ⟨_, hm⟩ := hm)
              obtain ⟨hP, rfl⟩ := hm
              have HPE := Lib.hid hP
              clear hP
              go_wp2
              go_meet
              exact HPE.out
            · intro c a d v w h
              simp only [Exit.inBlock, Exit.then] at h ⊢
              first
                | exact h
                | (dsimp (config := { zetaDelta := true }) only [bodyPost] at h ⊢; exact h)
                | (dsimp (config := { zetaDelta := true }) only [bodyPost] at h ⊢; exact ⟨by cases d <;> exact h.1, h.2⟩)
          case rest =>
            have HCE := Lib.hid hcut
            clear hcut
            go_wp2
            go_roundg (60 - (k + 1))
            case measure => have := HA.out.2; omega
            case rel => exact ⟨k + 1, by omega, by simp, HCE.out⟩
        · by_cases hkn : k < cs.length
          · have hk1 : (k : Int) < (cs.length : Int) := by omega
            have hk2 : ¬ (k : Int) < 60 := by omega
            clear hend hkg
            go_wp2
            go_meet
            exact (HA.out.1.rest (by have := HA.out.2; omega)).pack
          · have hk1 : ¬ (k : Int) < (cs.length : Int) := by omega
            clear hend hkg
            go_wp2
            go_meet
            exact (HA.out.1.rest (by have := HA.out.2; omega)).pack
      · obtain ⟨w5, rfl⟩ : ∃ x : World, x = wr := ⟨_, rfl⟩
        have HA := Lib.hid (And.intro hS hdd)
        clear hS hdd
        by_cases hkn : k < cs.length
        · have hk1 : (k : Int) < (cs.length : Int) := by omega
          by_cases hkm : k < 60
          · have hk2 : (k : Int) < 60 := by omega
            clear hkg
            go_wp2_with (go_at_call 22; go_must (refine (dk_dead HA.out.1.dk.dk).mono ?_; rw [HA.out.2]; rintro e w' ⟨rfl, rfl⟩))
            go_meet
            exact HA.out.1.pack
          · have hk2 : ¬ (k : Int) < 60 := by omega
            clear hkg
            go_wp2
            go_meet
            exact HA.out.1.pack
        · have hk1 : ¬ (k : Int) < (cs.length : Int) := by omega
          clear hkg
          go_wp2
          go_meet
          exact HA.out.1.pack
  case rest =>
    as_aux_lemma =>
    obtain ⟨a12, c12, qs, rt, G5, D5, C5, rfl, rfl, hD⟩ := hcut
    obtain ⟨w7, rfl⟩ : ∃ x : World, x = wc := ⟨_, rfl⟩
    have H7 := Lib.hid hD
    clear hD
    go_upto_region 38 with (fail)
    go_loopg [22] 4 (fun g s22 wr => ∃ k : Nat, k + g = 4 ∧ s22 = .int .i64 k ∧ ∃ D, CrD w wr db (.slice a12 qs.length c12) qs rt G5 D C5)
    case atStart => exact ⟨0, rfl, rfl, _, H7.out⟩
    case round =>
      obtain ⟨k, hkg, rfl, D6, hD⟩ := hrel
      obtain ⟨w8, rfl⟩ : ∃ x : World, x = wr := ⟨_, rfl⟩
      have H8 := Lib.hid (And.intro hD hkg)
      clear hD
      by_cases hend : k < ns.length ∧ k < 4
      · obtain ⟨hkn, hkm⟩ := hend
        have hk1 : (k : Int) < (ns.length : Int) := by omega
        have hk2 : (k : Int) < 4 := by omega
        obtain ⟨m, hmn⟩ : ∃ m, ns[k]? = some m := ⟨_, List.getElem?_eq_getElem hkn⟩
        obtain ⟨hmw, b0, off, rfl, hb1, hb2⟩ := HNI.out k m hmn
        have HM := Lib.hid (And.intro (law3_within m 8 (by omega) (by omega) hmw) (And.intro hb1 hb2))
        clear hkg hmn hmw hb1 hb2
        go_upto_region 41 with (go_at_call 25; go_must (refine (dc_start H8.out.1.dk).mono ?_; rintro e w9 ⟨rfl, hd, hk⟩; have X9 := Lib.hid (H8.out.1.turn hd hk); clear hd hk))
        have kc : w9.cell? ⟨b0, off + k, none⟩ = some (.int .i64 m) := (X9.out.dk.bel.cell (p := ⟨b0, off + k, none⟩) HM.out.2.1).trans HM.out.2.2
        go_wp2_with (first
          | (go_at_call 16; go_must (refine (HM.out.1 _).mono ?_; rintro e w' ⟨r2, hr2, rfl, rfl⟩; have HR2 := Lib.hid hr2; clear hr2))
          | (go_at_call 19; go_must (refine (dc_cut X9.out.dk r2 (by have := HR2.out; omega)).mono ?_; rintro e w10 ⟨rfl, hd, hk⟩; have X10 := Lib.hid (X9.out.turn hd hk); clear hd hk))
          | (go_at_call 11; go_must (refine (dc_open X10.out.dk rfl).mono ?_; rintro e w11 ⟨pb5, F5, rfl, hup, hB, _⟩; have X11 := Lib.hid (X10.out.below hB); clear hup hB)))
        go_roundg (4 - (k + 1))
        case measure => have := H8.out.2; omega
        case rel => exact ⟨k + 1, by omega, by simp, _, X11.out⟩
      · have FIN : Hid (∀ pb6 F6 w10, UpC w w10 pb6 db F6 G5 D6.start (loadS D6.start) C5 → (∀ k, F6 k → w8.heap.size ≤ k) → CrD w w10 db (.slice a12 qs.length c12) qs rt G5 D6.start C5 → Calls Try.prog 26 #[.pointer (some ⟨pb6, 0, none⟩), .slice a12 qs.length c12, .string (strB rt)] w10 (fun e w' => e = .returned (.bool true) ∧ Below w.heap.size w w')) := Lib.hid (by
          intro pb6 F6 w10 hu hF hd
          have hub : UpB w w10 pb6 db F6 G5 D6.start (loadS D6.start) C5 := ⟨hu.up, hu.bel, hu.own, hu.alive, rfl⟩
          refine (law3_holds hub hd.rd (by have := hd.lqs; omega) (fun j hj e => ?_) rt hd.root (fun p hp => by rw [loadS_now]; exact (hd.md.mem p.1 p.2).2 hp)).mono ?_
          · have h1 := hF pb6 hu.up.on.pg.own
            have h2 := (H8.out.1.rd.blk j hj).2
            omega
          · rintro e w' ⟨he, hup⟩
            exact ⟨he, hup.bel⟩)
        by_cases hkn : k < ns.length
        · have hk1 : (k : Int) < (ns.length : Int) := by omega
          have hk2 : ¬ (k : Int) < 4 := by omega
          clear hend hkg
          go_wp2_with (first
            | (go_at_call 25; go_must (refine (dc_start H8.out.1.dk).mono ?_; rintro e w9 ⟨rfl, hd, hk⟩; have X9 := Lib.hid (And.intro (H8.out.1.turn hd hk) hk); clear hd hk))
            | (go_at_call 11; go_must (refine (dc_open X9.out.1.dk rfl).mono ?_; rintro e w10 ⟨pb6, F6, rfl, hup, hB, hF⟩; have X10 := Lib.hid (And.intro hup (And.intro (fun k hk => Nat.le_trans X9.out.2.size (hF k hk)) (X9.out.1.below hB))); clear hup hB hF))
            | (go_at_call 26; go_must (refine (FIN.out pb6 F6 w10 X10.out.1 X10.out.2.1 X10.out.2.2).mono ?_; rintro e w11 ⟨rfl, hB⟩; have X11 := Lib.hid hB; clear hB)))
          go_ret
          exact ⟨rfl, X11.out⟩
        · have hk1 : ¬ (k : Int) < (ns.length : Int) := by omega
          clear hend hkg
          go_wp2_with (first
            | (go_at_call 25; go_must (refine (dc_start H8.out.1.dk).mono ?_; rintro e w9 ⟨rfl, hd, hk⟩; have X9 := Lib.hid (And.intro (H8.out.1.turn hd hk) hk); clear hd hk))
            | (go_at_call 11; go_must (refine (dc_open X9.out.1.dk rfl).mono ?_; rintro e w10 ⟨pb6, F6, rfl, hup, hB, hF⟩; have X10 := Lib.hid (And.intro hup (And.intro (fun k hk => Nat.le_trans X9.out.2.size (hF k hk)) (X9.out.1.below hB))); clear hup hB hF))
            | (go_at_call 26; go_must (refine (FIN.out pb6 F6 w10 X10.out.1 X10.out.2.1 X10.out.2.2).mono ?_; rintro e w11 ⟨rfl, hB⟩; have X11 := Lib.hid hB; clear hB)))
          go_ret
          exact ⟨rfl, X11.out⟩
end Go.Proofs.Ytjbomdhlfjcgmaa
