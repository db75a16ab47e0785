/-
  Alloc, at bytes that read or are an empty slice wherever it points.
-/
import Derived.Test.YtjbomdhlfjcgmaaCloZ
import Derived.Deep.RegionWith
namespace Go.Proofs.Ytjbomdhlfjcgmaa
set_option linter.unusedSimpArgs false
set_option linter.unusedVariables false
open Go.RowKit
set_option maxRecDepth 100000 in
set_option maxHeartbeats 3200000 in
theorem pg_alloc_okZ {w : World} {pb db : Nat} {F G : Nat → Prop} {D : DiskS} {S : PgS} (h : PgOn w pb db F G D S) (wf : PgWf S) (hd : D.dead = false) (v : Value) (zs : List UInt8) (hz : ReadsZ w v zs) (hzl : zs.length ≤ 496) (hap : zs = [] ∨ ∀ k, v.ownBlock = some k → ¬ F k) (hleft : S.left ≠ 0) :
    Calls Try.prog 12 #[.pointer (some ⟨pb, 0, none⟩), v] w (AllocPost w pb db F G D S zs) := by
  obtain ⟨v5, v6, mb, fb, c, m⟩ := h.pg.ex
  obtain ⟨f, hm0, hm1, hm2⟩ := m.fresh.ex
  obtain ⟨tb, tc, e6, htc, htl, hcell⟩ := m.taken
  have K := Lib.hid (show AllocK w pb db mb fb tb F G D S v5 v6 f from ⟨h, wf, m, hm0, hm1, hm2, hcell, htl, (m.taken' tb (by rw [e6]; rfl)).2.1⟩)
  subst e6
  have HC := Lib.hid c
  obtain ⟨av, cv, rfl⟩ := hz.len
  have HZ := Lib.hid (And.intro hz (And.intro hzl (And.intro hap hd)))
  have hzl' : (zs.length : Int) ≤ 496 := by omega
  have hleft' : (S.left == 0) = false := by simpa using hleft
  -- a page that is free
  obtain ⟨p, hp1, hp2, hp3, hp4⟩ : ∃ p, firstN S.blocks ≤ p ∧ p < S.blocks ∧ S.taken p = false ∧ S.fresh p = none := by
    have hc : cnt (fun k => S.taken k || (S.fresh k).isSome) S.blocks = cnt S.taken S.blocks + cnt (fun k => (S.fresh k).isSome) S.blocks :=
      cnt_or (r := fun k => S.taken k || (S.fresh k).isSome) (fun _ => rfl) (fun n hn => by
        cases hf : S.fresh n with
        | none => rfl
        | some ys => have := (wf.fresh n ys hf).2.2.1; rw [hn] at this; cases this) _
    have hlow : ∀ n, n < firstN S.blocks → (fun k => S.taken k || (S.fresh k).isSome) n = false := fun n hn => by
      have h1 : S.taken n = false := by cases ht : S.taken n with
        | false => rfl
        | true => have := (wf.taken n ht).1; omega
      have h2 : S.fresh n = none := by cases hf : S.fresh n with
        | none => rfl
        | some ys => have := (wf.fresh n ys hf).1; omega
      simp [h1, h2]
    have hle := cnt_low hlow S.blocks
    have hlt : cnt (fun k => S.taken k || (S.fresh k).isSome) S.blocks < S.blocks - firstN S.blocks := by
      have := hleft
      unfold PgS.left at this
      rw [wf.many] at this
      have h10 : firstN S.blocks ≤ 10 := by have := maps_le wf.hi; unfold firstN; omega
      have := wf.lo
      omega
    obtain ⟨p, h1, h2, h3⟩ := cnt_free hlow S.blocks hlt
    simp at h3
    exact ⟨p, h1, h2, h3.1, h3.2⟩
  have HPF := Lib.hid (And.intro hp1 (And.intro hp2 (And.intro hp3 hp4)))
  have c0 := c.c0
  clear c m hm0 hm1 hm2 hcell hz hzl hap hd hleft hp1 hp2 hp3 hp4 h htc htl
  have HW := Lib.hid wf
  clear wf
  go_enter Try.func12, Try.ntmps12
  go_wp2_with (first
    | (go_at_call 22; refine (dk_dead K.out.on'.dk).mono ?_; rw [HZ.out.2.2.2]; rintro e w' ⟨rfl, rfl⟩)
    | (go_at_call 18; refine (pg_left K.out.on' (by rw [HW.out.many]; exact cnt_le _ _)).mono ?_; rintro e w' ⟨rfl, n, rfl⟩))
  go_loopg [6, 7, 8] (dist (firstN S.blocks) S.blocks S.next p) (fun g s6 s7 s8 wr => ∃ m : Nat, dist (firstN S.blocks) S.blocks m p ≤ g ∧ firstN S.blocks ≤ m ∧ m < S.blocks ∧ PgCells wr pb db { S with next := m } v5 (.slice (some ⟨tb, 0, none⟩) S.blocks tc) mb fb ∧ Keeps (fun k => k = pb) w wr)
  case atStart => exact ⟨S.next, Nat.le_refl _, HW.out.next.1, HW.out.next.2, HC.out.drewN n, (Keeps.refl _ _).drewN n⟩
  case round =>
    obtain ⟨m, hg, hm1, hm2, hc, hk⟩ := hrel
    have c0r := hc.c0
    have k10 := hc.c10
    have f10 := hc.frz 10
    have k8 := hc.c8
    have k6 := hc.c6
    have hb := HW.out.hi
    have hcell : wr.cell? ⟨tb, m, none⟩ = some (.bool (S.taken m)) := (hk.cell (a := ⟨tb, m, none⟩) K.out.tb2 K.out.tb3).trans (K.out.tb1 m hm2)
    have hmw := wf_small m (by omega)
    have hm0 : (0 : Int) ≤ (m : Int) := by omega
    have hmN : (m : Int) < (S.blocks : Int) := by omega
    have hm3 : (m : Int) < 16384 := by omega
    have hbp : ¬ pb = tb := fun e => K.out.tb3 e.symm
    have hpb : pb < wr.heap.size := Nat.lt_of_lt_of_le K.out.on'.pg.lt hk.size
    have hs1 : (wr.setCell ⟨pb, 10, none⟩ (.int .i64 ((m : Int) + 1))) = (wr.setCell ⟨pb, 10, none⟩ (.int .i64 ((m + 1 : Nat) : Int))) := rfl
    have C1 : Hid (PgCells (wr.setCell ⟨pb, 10, none⟩ (.int .i64 ((m : Int) + 1))) pb db { S with next := m + 1 } v5 (.slice (some ⟨tb, 0, none⟩) S.blocks tc) mb fb ∧ Keeps (fun k => k = pb) w (wr.setCell ⟨pb, 10, none⟩ (.int .i64 ((m : Int) + 1)))) :=
      Lib.hid ⟨hc.setNext (m + 1), hk.setCell _ _ (fun _ => rfl)⟩
    have D1 : Hid (∀ W, Keeps (fun k => k = pb) w W → DkAt W db G D ∧ MapI W mb f (cnt (fun k => (S.fresh k).isSome) S.blocks)) := Lib.hid fun W hW => ⟨K.out.on'.dk.keeps hW (fun k hk1 e => K.out.on'.npb (by rw [← e]; exact hk1)), K.out.map.keeps hW (fun e => K.out.mem.ne1 e)⟩
    have hbl := K.out.on'.bl
    have HX := Lib.hid (And.intro hg (And.intro hm1 (And.intro hm2 (And.intro hc hk))))
    clear hg hm1 hm2 hc hk hs1
    have HR : Hid (cnt (fun k => (S.fresh k).isSome) S.blocks < maxLen) := Lib.hid (by have := cnt_le (fun k => (S.fresh k).isSome) S.blocks; unfold maxLen; omega)
    have HBL := Lib.hid hbl.symm
    by_cases he : m + 1 = S.blocks
    · have he' : (((m : Int) + 1) == (S.blocks : Int)) = true := by rw [beq_iff_eq]; omega
      have HSTEP : Hid (m ≠ p → dist (firstN S.blocks) S.blocks (firstN S.blocks) p < dist (firstN S.blocks) S.blocks m p) := Lib.hid fun hne => by
        have := dist_step (firstN S.blocks) S.blocks m p HX.out.2.1 HX.out.2.2.1 HPF.out.1 HPF.out.2.1 hne
        rwa [if_pos he] at this
      have HNX : Hid (firstN S.blocks ≤ firstN S.blocks ∧ firstN S.blocks < S.blocks) := Lib.hid ⟨Nat.le_refl _, by have := HX.out.2.1; have := HX.out.2.2.1; omega⟩
      rw [hbl] at he'
      clear he hbl hb
      go_wp2
      go_quiet ((go_at_call 29; exact Calls.quiet_of_same ((dk_blocks ((D1.out _ C1.out.2).1.drewN _)).mono fun e w' h => ⟨h.1, h.2.symm⟩)))
      obtain ⟨W2, hW2⟩ : ∃ W2, W2 = ((wr.setCell ⟨pb, 10, none⟩ (.int .i64 ((m : Int) + 1))).drewN nq).setCell ⟨pb, 10, none⟩ (.int .i64 ((firstN S.blocks : Nat) : Int)) := ⟨_, rfl⟩
      have C2 : Hid (Keeps (fun k => k = pb) w ((wr.setCell ⟨pb, 10, none⟩ (.int .i64 ((m : Int) + 1))).drewN nq) ∧ Keeps (fun k => k = pb) w W2 ∧ PgCells W2 pb db { S with next := firstN S.blocks } v5 (.slice (some ⟨tb, 0, none⟩) S.blocks tc) mb fb) := Lib.hid ⟨C1.out.2.drewN nq, by rw [hW2]; exact (C1.out.2.drewN nq).setCell _ _ (fun _ => rfl), by rw [hW2]; exact (C1.out.1.drewN nq).setNext (firstN S.blocks)⟩
      have HP2 : Hid (pb < W2.heap.size) := Lib.hid (Nat.lt_of_lt_of_le K.out.on'.pg.lt C2.out.2.1.size)
      subst hW2
      by_cases hf : S.fresh m = none
      · have HF := Lib.hid (And.intro hf ((K.out.none' m).2 hf))
        clear hf
        cases ht : S.taken m with
        | true =>
          rw [ht] at hcell
          have HT : Hid (m ≠ p) := Lib.hid (fun e => by have := HPF.out.2.2.1; rw [← e, ht] at this; cases this)
          clear ht
          go_wp2_with (first
            | (go_at_call 33; go_must (refine (pg_first (D1.out _ C2.out.1).1 C1.out.1.c0).mono ?_; rw [HBL.out]; rintro e w' ⟨rfl, rfl⟩))
            | (at_lookup; go_must (refine wpList_look2I _ rfl _ _ 57 rfl 3 22 Try.underlying3 Try.underlying57 (zeroBytes _) mb _ f rfl (D1.out _ C2.out.2.1).2 m rfl hmw ?_; rw [HF.out.2]))
            )
          go_roundg (dist (firstN S.blocks) S.blocks (firstN S.blocks) p)
          case measure => have := HSTEP.out HT.out; have := HX.out.1; omega
          case rel => exact ⟨firstN S.blocks, Nat.le_refl _, HNX.out.1, HNX.out.2, C2.out.2.2, C2.out.2.1⟩
        | false =>
          rw [ht] at hcell
          have HT := Lib.hid ht
          clear ht
          go_wp2_with (first
            | (go_at_call 33; go_must (refine (pg_first (D1.out _ C2.out.1).1 C1.out.1.c0).mono ?_; rw [HBL.out]; rintro e w' ⟨rfl, rfl⟩))
            | (at_lookup; go_must (refine wpList_look2I _ rfl _ _ 57 rfl 3 22 Try.underlying3 Try.underlying57 (zeroBytes _) mb _ f rfl (D1.out _ C2.out.2.1).2 m rfl hmw ?_; rw [HF.out.2]))
            )
          have RZ : Hid (ReadsZ _ (.slice av zs.length cv) zs) := Lib.hid (HZ.out.1.keeps C2.out.2.1 (HZ.out.2.2.1.imp id fun h j hj e => h j hj (by rw [e]; exact K.out.on'.pg.own)))
          go_region_with (first
            | (go_at_call 34; go_must (refine (clone_bytesZ _ zs _ (by exact RZ.out) (by have := HZ.out.2.1; omega)).mono ?_; rintro e w1 ⟨v', rfl, hv, hnew, hB⟩; obtain ⟨a', c', rfl⟩ := hv.len; have k8b : w1.cell? ⟨pb, 8, none⟩ = some (.map (some mb)) := (hB.cell (p := ⟨pb, 8, none⟩) (by exact HP2.out)).trans C2.out.2.2.c8; have X := Lib.hid (And.intro hv (And.intro hnew hB)); clear hv hnew hB))
            | (refine upon_storeI 57 3 22 Try.underlying3 Try.underlying57 mb _ f ((D1.out _ C2.out.2.1.drew).2.below X.out.2.2) HR.out m hmw _ ?_; intro w2 hm2 hon2; have Y := Lib.hid (alloc_end K.out.on' K.out.mem C2.out.2.2.drew C2.out.2.1.drew X.out.2.2 ⟨K.out.f1, K.out.f2⟩ X.out.1 X.out.2.1 hm2 hon2 HX.out.2.1 HX.out.2.2.1 HT.out HF.out.1 HNX.out.1 HNX.out.2); clear hm2 hon2))
          all_goals
            go_wp2
            go_ret2
            exact Y.out
      · obtain ⟨ys, hys⟩ := Option.ne_none_iff_exists'.1 hf
        obtain ⟨u, hu⟩ := Option.isSome_iff_exists.1 (K.out.f2 m ys hys)
        obtain ⟨_, ys', _, hry, _⟩ := K.out.f1 m u hu
        obtain ⟨ua, uc, rfl⟩ := hry.len
        have HF := Lib.hid hu
        have HT : Hid (m ≠ p) := Lib.hid (fun e => by have := HPF.out.2.2.2; rw [← e, hys] at this; cases this)
        clear hf hys hu hry
        go_wp2_with (first
            | (go_at_call 33; go_must (refine (pg_first (D1.out _ C2.out.1).1 C1.out.1.c0).mono ?_; rw [HBL.out]; rintro e w' ⟨rfl, rfl⟩))
            | (at_lookup; go_must (refine wpList_look2I _ rfl _ _ 57 rfl 3 22 Try.underlying3 Try.underlying57 (zeroBytes _) mb _ f rfl (D1.out _ C2.out.2.1).2 m rfl hmw ?_; rw [HF.out]))
            )
        go_roundg (dist (firstN S.blocks) S.blocks (firstN S.blocks) p)
        case measure => have := HSTEP.out HT.out; have := HX.out.1; omega
        case rel => exact ⟨firstN S.blocks, Nat.le_refl _, HNX.out.1, HNX.out.2, C2.out.2.2, C2.out.2.1⟩
    · have he' : (((m : Int) + 1) == (S.blocks : Int)) = false := by rw [beq_eq_false_iff_ne]; omega
      have HSTEP : Hid (m ≠ p → dist (firstN S.blocks) S.blocks (m + 1) p < dist (firstN S.blocks) S.blocks m p) := Lib.hid fun hne => by
        have := dist_step (firstN S.blocks) S.blocks m p HX.out.2.1 HX.out.2.2.1 HPF.out.1 HPF.out.2.1 hne
        rwa [if_neg he] at this
      have HNX : Hid (firstN S.blocks ≤ m + 1 ∧ m + 1 < S.blocks) := Lib.hid (by have := HX.out.2.1; have := HX.out.2.2.1; omega)
      rw [hbl] at he'
      clear he hbl hb
      go_wp2
      go_quiet ((go_at_call 29; exact Calls.quiet_of_same ((dk_blocks ((D1.out _ C1.out.2).1.drewN _)).mono fun e w' h => ⟨h.1, h.2.symm⟩)))
      have C2 : Hid (Keeps (fun k => k = pb) w ((wr.setCell ⟨pb, 10, none⟩ (.int .i64 ((m : Int) + 1))).drewN nq) ∧ Keeps (fun k => k = pb) w ((wr.setCell ⟨pb, 10, none⟩ (.int .i64 ((m : Int) + 1))).drewN nq) ∧ PgCells ((wr.setCell ⟨pb, 10, none⟩ (.int .i64 ((m : Int) + 1))).drewN nq) pb db { S with next := m + 1 } v5 (.slice (some ⟨tb, 0, none⟩) S.blocks tc) mb fb) := Lib.hid ⟨C1.out.2.drewN nq, C1.out.2.drewN nq, C1.out.1.drewN nq⟩
      have HP2 : Hid (pb < ((wr.setCell ⟨pb, 10, none⟩ (.int .i64 ((m : Int) + 1))).drewN nq).heap.size) := Lib.hid (Nat.lt_of_lt_of_le K.out.on'.pg.lt C2.out.2.1.size)
      by_cases hf : S.fresh m = none
      · have HF := Lib.hid (And.intro hf ((K.out.none' m).2 hf))
        clear hf
        cases ht : S.taken m with
        | true =>
          rw [ht] at hcell
          have HT : Hid (m ≠ p) := Lib.hid (fun e => by have := HPF.out.2.2.1; rw [← e, ht] at this; cases this)
          clear ht
          go_wp2_with (at_lookup; go_must (refine wpList_look2I _ rfl _ _ 57 rfl 3 22 Try.underlying3 Try.underlying57 (zeroBytes _) mb _ f rfl (D1.out _ C2.out.2.1).2 m rfl hmw ?_; rw [HF.out.2]))
          go_roundg (dist (firstN S.blocks) S.blocks (m + 1) p)
          case measure => have := HSTEP.out HT.out; have := HX.out.1; omega
          case rel => exact ⟨m + 1, Nat.le_refl _, HNX.out.1, HNX.out.2, C2.out.2.2, C2.out.2.1⟩
        | false =>
          rw [ht] at hcell
          have HT := Lib.hid ht
          clear ht
          go_wp2_with (at_lookup; go_must (refine wpList_look2I _ rfl _ _ 57 rfl 3 22 Try.underlying3 Try.underlying57 (zeroBytes _) mb _ f rfl (D1.out _ C2.out.2.1).2 m rfl hmw ?_; rw [HF.out.2]))
          have RZ : Hid (ReadsZ _ (.slice av zs.length cv) zs) := Lib.hid (HZ.out.1.keeps C2.out.2.1 (HZ.out.2.2.1.imp id fun h j hj e => h j hj (by rw [e]; exact K.out.on'.pg.own)))
          go_region_with (first
            | (go_at_call 34; go_must (refine (clone_bytesZ _ zs _ (by exact RZ.out) (by have := HZ.out.2.1; omega)).mono ?_; rintro e w1 ⟨v', rfl, hv, hnew, hB⟩; obtain ⟨a', c', rfl⟩ := hv.len; have k8b : w1.cell? ⟨pb, 8, none⟩ = some (.map (some mb)) := (hB.cell (p := ⟨pb, 8, none⟩) (by exact HP2.out)).trans C2.out.2.2.c8; have X := Lib.hid (And.intro hv (And.intro hnew hB)); clear hv hnew hB))
            | (refine upon_storeI 57 3 22 Try.underlying3 Try.underlying57 mb _ f ((D1.out _ C2.out.2.1.drew).2.below X.out.2.2) HR.out m hmw _ ?_; intro w2 hm2 hon2; have Y := Lib.hid (alloc_end K.out.on' K.out.mem C2.out.2.2.drew C2.out.2.1.drew X.out.2.2 ⟨K.out.f1, K.out.f2⟩ X.out.1 X.out.2.1 hm2 hon2 HX.out.2.1 HX.out.2.2.1 HT.out HF.out.1 HNX.out.1 HNX.out.2); clear hm2 hon2))
          all_goals
            go_wp2
            go_ret2
            exact Y.out
      · obtain ⟨ys, hys⟩ := Option.ne_none_iff_exists'.1 hf
        obtain ⟨u, hu⟩ := Option.isSome_iff_exists.1 (K.out.f2 m ys hys)
        obtain ⟨_, ys', _, hry, _⟩ := K.out.f1 m u hu
        obtain ⟨ua, uc, rfl⟩ := hry.len
        have HF := Lib.hid hu
        have HT : Hid (m ≠ p) := Lib.hid (fun e => by have := HPF.out.2.2.2; rw [← e, hys] at this; cases this)
        clear hf hys hu hry
        go_wp2_with (at_lookup; go_must (refine wpList_look2I _ rfl _ _ 57 rfl 3 22 Try.underlying3 Try.underlying57 (zeroBytes _) mb _ f rfl (D1.out _ C2.out.2.1).2 m rfl hmw ?_; rw [HF.out]))
        go_roundg (dist (firstN S.blocks) S.blocks (m + 1) p)
        case measure => have := HSTEP.out HT.out; have := HX.out.1; omega
        case rel => exact ⟨m + 1, Nat.le_refl _, HNX.out.1, HNX.out.2, C2.out.2.2, C2.out.2.1⟩

theorem up_allocZ {w : World} {pb db : Nat} {F G : Nat → Prop} {D : DiskS} {S : PgS} {C : Comm} (h : PgUp w pb db F G D S C) (hd : D.dead = false) (v : Value) (zs : List UInt8) (hz : ReadsZ w v zs) (hzl : zs.length ≤ 496) (hap : zs = [] ∨ ∀ k, v.ownBlock = some k → ¬ F k) (hleft : S.left ≠ 0) :
    Calls Try.prog 12 #[.pointer (some ⟨pb, 0, none⟩), v] w (UpAlloc w pb db F G D S C zs) := by
  refine (pg_alloc_okZ h.on h.inv.wf hd v zs hz hzl hap hleft).mono ?_
  rintro e w' ⟨n, nx, F', he, h1, h2, h3, h4, h5, h6, hon, hm⟩
  have hc : C.pages n = none := by
    have := h.inv.has n
    rw [h3] at this
    unfold Comm.has at this
    cases hp : C.pages n with
    | none => rfl
    | some b => rw [hp] at this; cases this
  have hnow : nowP S C n = none := by
    unfold nowP
    rw [h4, hc]
    cases S.freed n <;> rfl
  have hcnt : cnt (fun k => (updN S.fresh n (some zs) k).isSome) S.blocks = cnt (fun k => (S.fresh k).isSome) S.blocks + 1 := by
    rw [cnt_set (p := fun k => (S.fresh k).isSome) (m := n) (by rw [h4]; rfl) (by rw [updN_same]; rfl) (fun k hk => by rw [updN_other _ _ _ hk]), if_pos h2]
  have hbl := h.inv.bl
  refine ⟨n, _, F', he, by rw [← hbl]; exact h1, by rw [← hbl]; exact h2, hnow, hc, ⟨hon, h.inv.ok, ⟨h.inv.wf.lo, h.inv.wf.hi, h.inv.wf.taken, ?_, h.inv.wf.freed, h.inv.wf.many, ⟨h5, h6⟩, h.inv.wf.root, h.inv.wf.seq⟩, hbl, h.inv.seq, h.inv.root, h.inv.has⟩, ?_, ?_, rfl, hcnt, hm⟩
  · intro k ys hk
    have hk' : updN S.fresh n (some zs) k = some ys := hk
    by_cases e : k = n
    · subst e
      rw [updN_same] at hk'
      cases hk'
      exact ⟨h1, h2, h3, hzl⟩
    · rw [updN_other _ _ _ e] at hk'
      exact h.inv.wf.fresh k ys hk'
  · intro k
    show (match updN S.fresh n (some zs) k with | some zs => some zs | none => if S.freed k = true then none else C.pages k) = _
    by_cases e : k = n
    · subst e
      rw [updN_same, if_pos rfl]
    · rw [updN_other _ _ _ e, if_neg e]
      rfl
  · show (S.blocks : Int) - firstN S.blocks - S.many - (cnt (fun k => (updN S.fresh n (some zs) k).isSome) S.blocks : Nat) = _
    rw [hcnt]
    unfold PgS.left
    omega

end Go.Proofs.Ytjbomdhlfjcgmaa
