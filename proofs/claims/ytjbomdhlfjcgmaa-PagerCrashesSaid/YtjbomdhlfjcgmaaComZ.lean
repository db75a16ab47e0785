/-
  Commit, at a root that reads or is an empty slice wherever it points.
-/
import Derived.Test.YtjbomdhlfjcgmaaLayZ
namespace Go.Proofs.Ytjbomdhlfjcgmaa
set_option linter.unusedSimpArgs false
set_option linter.unusedVariables false
open Go.RowKit
attribute [local irreducible] DiskS.all DiskS.write layL tkOf orKs notKs
set_option maxHeartbeats 6400000 in
set_option maxRecDepth 100000 in
theorem pg_commit_okZ {w : World} {pb db : Nat} {F G : Nat → Prop} {D : DiskS} {S : PgS} (h : PgOn w pb db F G D S) (wf : PgWf S) (hd : D.dead = false) (ra : Option Addr) (rc : Nat) (root : List UInt8) (hr : ReadsZ w (.slice ra root.length rc) root) (hrl : root.length ≤ 64)
    (hrb : root = [] ∨ ∀ k, (Value.slice ra root.length rc).ownBlock = some k → ¬ F k ∧ ¬ G k) : Calls Try.prog 13 #[.pointer (some ⟨pb, 0, none⟩), .slice ra root.length rc] w (CommitPost w pb db F G D S root) := by
  obtain ⟨v5, v6, mb, fb, c, m⟩ := h.pg.ex
  obtain ⟨tb, tc, e6, htc, htl, hcell⟩ := m.taken
  subst e6
  have c0 := c.c0
  have c6 := c.c6
  have c7 := c.c7
  have HS := Lib.hid (And.intro h (And.intro wf (And.intro hd (And.intro c m))))
  have HR := Lib.hid (And.intro hr (And.intro hrl hrb))
  obtain ⟨f1, hm1, h11, h12⟩ := m.fresh.ex
  obtain ⟨f2, hm2, h21, h22⟩ := m.freed.ex
  have HK1 : Hid (∀ x, (f1 x).isSome = true ↔ ∃ k : Nat, x = k ∧ k < S.blocks ∧ (S.fresh k).isSome = true) := Lib.hid fun x => by
    constructor
    · intro hx
      obtain ⟨v, hv⟩ := Option.isSome_iff_exists.1 hx
      obtain ⟨h0, zs, hg, _⟩ := h11 x v hv
      exact ⟨x.toNat, (Int.toNat_of_nonneg h0).symm, m.fresh.lt _ _ hg, by rw [hg]; rfl⟩
    · rintro ⟨k, rfl, _, hk⟩
      obtain ⟨zs, hz⟩ := Option.isSome_iff_exists.1 hk
      exact h12 k zs hz
  have HK2 : Hid (∀ x, (f2 x).isSome = true ↔ ∃ k : Nat, x = k ∧ k < S.blocks ∧ S.freed k = true) := Lib.hid fun x => by
    constructor
    · intro hx
      obtain ⟨v, hv⟩ := Option.isSome_iff_exists.1 hx
      obtain ⟨h0, hq⟩ := h21 x v hv
      exact ⟨x.toNat, (Int.toNat_of_nonneg h0).symm, m.freed.lt _ hq, hq⟩
    · rintro ⟨k, rfl, _, hk⟩
      exact h22 k hk
  have HM := Lib.hid (And.intro hm1 hm2)
  have hN : (S.blocks : Int) ≤ 16384 := by have := wf.hi; omega
  have hmany : (S.many : Int) ≤ 16384 := by have := cnt_le S.taken S.blocks; have := wf.many; have := wf.hi; omega
  have hrl' : (root.length : Int) ≤ 64 := by omega
  clear hm1 h11 h12 hm2 h21 h22 hr hrl hrb c m h wf hd hcell htc htl
  go_enter Try.func13, Try.ntmps13
  go_wp2_with (first
    | (go_at_call 22; go_must (refine (dk_dead HS.out.1.dk).mono ?_; rw [HS.out.2.2.1]; rintro e w' ⟨rfl, rfl⟩))
    | (go_at_call 35; go_must (refine (clone_bools tb tc S.blocks S.taken w HS.out.2.2.2.2.taken (by have := HS.out.2.1.lo; omega) HS.out.2.1.hi).mono ?_; rintro e w1 ⟨g, gc, rfl, hob, hB1⟩; have k7 : w1.cell? ⟨pb, 7, none⟩ = some (.int .i64 S.many) := (hB1.cell (p := ⟨pb, 7, none⟩) HS.out.1.pg.lt).trans HS.out.2.2.2.1.c7; have k8 : w1.cell? ⟨pb, 8, none⟩ = some (.map (some mb)) := (hB1.cell (p := ⟨pb, 8, none⟩) HS.out.1.pg.lt).trans HS.out.2.2.2.1.c8); have X1 := Lib.hid (And.intro hob hB1); clear hob hB1)
    | (at_range; go_must (refine wpList_rangeI _ rfl _ 57 rfl 3 22 Try.underlying57 mb _ f1 rfl (HM.out.1.below X1.out.2) ?_; intro w2 hit hB2 hs2); have X2 := Lib.hid (And.intro hit (And.intro hB2 hs2)); clear hit hB2 hs2))
  go_frame
  clear k7 k8
  have HG1 : Hid (g < w1.heap.size ∧ mb < w.heap.size ∧ fb < w.heap.size ∧ pb < w.heap.size ∧ w.heap.size ≤ g ∧ w.heap.size ≤ w1.heap.size) := Lib.hid ⟨X1.out.1.2.1, HM.out.1.lt, HM.out.2.lt, HS.out.1.pg.lt, X1.out.1.1, X1.out.2.size⟩
  go_loopg [6, 7, 34, 35] (cnt (fun k => (S.fresh k).isSome) S.blocks) (fun G' s6 s7 s34 s35 wr => ∃ (ks : List Int) (ct : Nat), ct ≤ G' ∧ s6 = .int .i64 ((S.many : Int) + (ks.length : Int)) ∧ IterI wr mb w1.heap.size f1 (cnt (fun k => (S.fresh k).isSome) S.blocks) ks ct ∧
    OwnBools wr w.heap.size g gc S.blocks (orKs S.taken ks) ∧ Below w.heap.size w wr ∧ ks.length + ct ≤ cnt (fun k => (S.fresh k).isSome) S.blocks)
  case atStart =>
    refine ⟨[], _, Nat.le_refl _, by simp, X2.out.1, ?_, X1.out.2.trans (X2.out.2.1.mono X1.out.2.size), by simp⟩
    exact (X1.out.1.stay (X2.out.2.1.block g HG1.out.1) X2.out.2.1.size).congr (fun i _ => by unfold orKs; simp)
  case round =>
    obtain ⟨ks, ct, hct, rfl, hit, hob, hB, hkl⟩ := hrel
    have HX := Lib.hid (And.intro hct (And.intro hit (And.intro hob (And.intro hB hkl))))
    have hkl2 : (ks.length : Int) ≤ 16384 := by have := cnt_le (fun k => (S.fresh k).isSome) S.blocks; omega
    clear hct hit hob hB hkl
    go_wp2_with (at_next; refine wpList_nextI _ rfl _ rfl mb w1.heap.size _ f1 ks ct rfl HX.out.2.1 ?_ ?_)
    · intro hall
      have HP : Hid (∀ x : Int, x ∈ ks ↔ ∃ k : Nat, x = k ∧ k < S.blocks ∧ (S.fresh k).isSome = true) := Lib.hid (fun x => by
        rw [← HK1.out x]
        exact ⟨fun hx => HX.out.2.1.mem hx, hall x⟩)
      have hkn := ks_len S.fresh S.blocks ks HX.out.2.1.nodup HP.out
      obtain ⟨nf, hnf⟩ : ∃ nf, nf = cnt (fun k => (S.fresh k).isSome) S.blocks := ⟨_, rfl⟩
      rw [← hnf] at hkn
      have HNF := Lib.hid hnf
      have hnf2 : (nf : Int) ≤ 16384 := by have := cnt_le (fun k => (S.fresh k).isSome) S.blocks; omega
      have HO : Hid (OwnBools wr w.heap.size g gc S.blocks (fun k => S.taken k || (S.fresh k).isSome) ∧ Below w.heap.size w wr) := Lib.hid ⟨HX.out.2.2.1.congr (fun i hi => by
        unfold orKs
        congr 1
        cases hs : (S.fresh i).isSome with
        | true => simp; exact (HP.out i).2 ⟨i, rfl, hi, hs⟩
        | false =>
          simp
          intro hx
          obtain ⟨k, hk, _, hk2⟩ := (HP.out i).1 hx
          have : k = i := by omega
          subst this
          rw [hs] at hk2
          cases hk2), HX.out.2.2.2.1⟩
      rw [hkn]
      clear hall hnf hkn hkl2
      have k9 : wr.cell? ⟨pb, 9, none⟩ = some (.map (some fb)) := (HO.out.2.cell (p := ⟨pb, 9, none⟩) HS.out.1.pg.lt).trans HS.out.2.2.2.1.c9
      clear HP
      obtain ⟨wA, rfl⟩ : ∃ x : World, x = wr := ⟨_, rfl⟩
      go_wp2_with (at_range; go_must (refine wpList_rangeI _ rfl _ 76 rfl 3 3 Try.underlying76 fb _ f2 rfl (HM.out.2.below HO.out.2) ?_; intro w4 hit hB4 hs4); have X4 := Lib.hid (And.intro hit (And.intro hB4 hs4)); clear hit hB4 hs4)
      go_frame
      clear k9
      have HG2 : Hid (g < wA.heap.size ∧ w.heap.size ≤ wA.heap.size) := Lib.hid ⟨HO.out.1.2.1, HO.out.2.size⟩
      go_loopg [6, 8, 48, 49] (cnt S.freed S.blocks) (fun G' s6 s8 s48 s49 wr => ∃ (ks : List Int) (ct : Nat), ct ≤ G' ∧ s6 = .int .i64 ((S.many : Int) + (nf : Int) - (ks.length : Int)) ∧ IterI wr fb wA.heap.size f2 (cnt S.freed S.blocks) ks ct ∧
        OwnBools wr w.heap.size g gc S.blocks (notKs (fun k => S.taken k || (S.fresh k).isSome) ks) ∧ Below w.heap.size w wr ∧ ks.length + ct ≤ cnt S.freed S.blocks)
      case atStart =>
        refine ⟨[], _, Nat.le_refl _, by simp, X4.out.1, ?_, HO.out.2.trans (X4.out.2.1.mono HO.out.2.size), by simp⟩
        exact (HO.out.1.stay (X4.out.2.1.block g HG2.out.1) X4.out.2.1.size).congr (fun i _ => by unfold notKs; simp)
      case round =>
        obtain ⟨ks2, ct, hct, rfl, hit, hob, hB, hkl⟩ := hrel
        have HZ := Lib.hid (And.intro hct (And.intro hit (And.intro hob (And.intro hB hkl))))
        have hkl2 : (ks2.length : Int) ≤ 16384 := by have := cnt_le S.freed S.blocks; omega
        clear hct hit hob hB hkl
        go_wp2_with (at_next; refine wpList_nextI _ rfl _ rfl fb wA.heap.size _ f2 ks2 ct rfl HZ.out.2.1 ?_ ?_)
        · intro hall
          have HP : ∀ x : Int, x ∈ ks2 ↔ ∃ k : Nat, x = k ∧ k < S.blocks ∧ S.freed k = true := fun x => by
            rw [← HK2.out x]
            exact ⟨fun hx => HZ.out.2.1.mem hx, hall x⟩
          have hkn : ks2.length = cnt S.freed S.blocks := by
            have := ks_len (fun k => if S.freed k then some () else none) S.blocks ks2 HZ.out.2.1.nodup (fun x => by
              rw [HP x]
              constructor
              · rintro ⟨k, h1, h2, h3⟩; exact ⟨k, h1, h2, by simp [h3]⟩
              · rintro ⟨k, h1, h2, h3⟩
                refine ⟨k, h1, h2, ?_⟩
                cases hq : S.freed k with
                | true => rfl
                | false => simp [hq] at h3)
            rw [this]
            exact cnt_congr _ (fun n _ => by cases hq : S.freed n <;> simp)
          have hmm : (S.many : Int) + (nf : Int) - (ks2.length : Int) = ((cnt (tkOf S) S.blocks : Nat) : Int) := by
            have h1 := tk_cnt HS.out.2.1
            have h2 := HNF.out
            rw [hkn]
            omega
          have HOB : Hid (OwnBools wr w.heap.size g gc S.blocks (tkOf S) ∧ Below w.heap.size w wr) := Lib.hid ⟨HZ.out.2.2.1.congr (fun i hi => by
            unfold notKs tkOf
            congr 1
            congr 1
            cases hs : S.freed i with
            | true => simp; exact (HP i).2 ⟨i, rfl, hi, hs⟩
            | false =>
              simp
              intro hx
              obtain ⟨k, hk, _, hk2⟩ := (HP i).1 hx
              have : k = i := by omega
              subst this
              rw [hs] at hk2
              cases hk2), HZ.out.2.2.2.1⟩
          rw [hmm]
          clear hall HP hkn hmm hkl2
          obtain ⟨nm, hnm⟩ : ∃ nm, nm = cnt (tkOf S) S.blocks := ⟨_, rfl⟩
          rw [← hnm]
          have HNM := Lib.hid hnm
          clear hnm
          have LH : Hid (Bools wr (.slice (some ⟨g, 0, none⟩) S.blocks gc) (tkOf S) S.blocks ∧ (¬ G g ∧ g ≠ pb) ∧ (∀ k, S.blocks ≤ k → tkOf S k = false) ∧ ReadsZ wr (.slice ra root.length rc) root ∧ (root = [] ∨ ∀ k, (Value.slice ra root.length rc).ownBlock = some k → ¬ G k ∧ k ≠ pb)) := Lib.hid
            ⟨HOB.out.1.bools, ⟨fun e => by have := HS.out.1.dk.lim g e; have := HG1.out; omega, by have := HG1.out; omega⟩, fun k hk => by
              unfold tkOf
              have h1 : S.taken k = false := by cases ht : S.taken k with
                | false => rfl
                | true => have := (HS.out.2.1.taken k ht).2; omega
              have h2 : S.fresh k = none := by cases hf : S.fresh k with
                | none => rfl
                | some zs => have := (HS.out.2.1.fresh k zs hf).2.1; omega
              simp [h1, h2], HR.out.1.below HOB.out.2, HR.out.2.2.imp id fun hq k hk => ⟨(hq k hk).2, fun e => (hq k hk).1 (by rw [e]; exact HS.out.1.pg.own)⟩⟩
          go_upto_region 18 with (go_at_call 36; go_must (refine (pg_layZ (HS.out.1.below HOB.out.2) HS.out.2.1 g gc (tkOf S) LH.out.1 LH.out.2.1 LH.out.2.2.1 ra rc root LH.out.2.2.2.1 LH.out.2.2.2.2 HR.out.2.1).mono ?_; rintro e w6 ⟨rfl, hend⟩); have P6 := Lib.hid hend; clear hend)
          obtain ⟨G', hon, hup, hnw, hkk⟩ := P6.out
          have HL6 := Lib.hid (And.intro hon (And.intro hup (And.intro hnw hkk)))
          have hm6 : Moves (fun k => F k ∨ G k) (fun k => F k ∨ G' k) w w6 := (Moves.of_below HOB.out.2).trans ⟨hkk.mono (fun k _ e => by rcases e with e | e; exact .inr e; rw [e]; exact .inl HS.out.1.pg.own), fun k hk => hk.imp id (hup k), fun k hk => by
            rcases hk with hk | hk
            · exact .inl (.inl hk)
            · rcases hnw k hk with h | h
              · exact .inl (.inr h)
              · exact .inr h⟩
          have HM6 := Lib.hid hm6
          clear hm6 hup hnw hkk
          obtain ⟨v5', v6', mb', fb', c', m'⟩ := hon.pg.ex
          have HC6 := Lib.hid c'
          by_cases he : (D.all (layL S (tkOf S) root)).2 = 0
          · have HE := Lib.hid he
            have he1 : ((D.all (layL S (tkOf S) root)).2 != 0) = false := by simp [he]
            have k4 := c'.c4
            have z4 := c'.frz 4
            have hsq : (S.seq : Int) < 1000000000000000000 := by have := HS.out.2.1.seq; omega
            have hss : ∀ (w : World) (a : Addr) (v : Value), (w.setCell a v).heap.size = w.heap.size := fun w a v => by simp [World.setCell]
            have HSS := Lib.hid hss
            have HR6 : Hid (ReadsZ (w6.setCell ⟨pb, 4, none⟩ (.int .i64 ((S.seq : Int) + 1))) (.slice ra root.length rc) root) := Lib.hid ((HR.out.1.keeps HM6.out.keeps (HR.out.2.2.imp id fun hq k hk e => by
              rcases e with e | e
              · exact (hq k hk).1 e
              · exact (hq k hk).2 e)).keeps (F := fun k => k = pb) ((Keeps.refl _ w6).setCell _ _ (fun _ => rfl)) (HR.out.2.2.imp id fun hq k hk e => (hq k hk).1 (by rw [e]; exact HS.out.1.pg.own)))
            have hpb6 : pb < w6.heap.size := hon.pg.lt
            have hob6 : OwnBools w6 w.heap.size g gc S.blocks (tkOf S) := HOB.out.1.stay (HL6.out.2.2.2.block g HOB.out.1.2.1 (fun e => by
              rcases e with e | e
              · exact LH.out.2.1.1 e
              · exact LH.out.2.1.2 e)) HL6.out.2.2.2.size
            have HOB6 := Lib.hid hob6
            have q5 := c'.c5
            have q6 := c'.c6
            have q7 := c'.c7
            have FZ : Hid (∀ o, (w6.setCell ⟨pb, 4, none⟩ (.int .i64 ((S.seq : Int) + 1))).frozen? ⟨pb, o, none⟩ = false) := Lib.hid (fun o => by rw [World.frozen?_setCell]; exact c'.frz o)
            clear c' m' hon he hss hob6
            go_upto_region 22 with (go_at_call 34; go_must (refine (clone_bytesZ _ root _ HR6.out (by have := HR.out.2.1; omega)).mono ?_; rintro e w8 ⟨v', rfl, hv, hnew, hB8⟩; obtain ⟨a', cc', rfl⟩ := hv.len; have X8 := Lib.hid (And.intro hv (And.intro hnew hB8)); have k5 := (hB8.cell (p := ⟨pb, 5, none⟩) (by rw [HSS.out]; exact hpb6)).trans ((cell_set_ne (fun e => by cases e)).trans q5); have k6 := (hB8.cell (p := ⟨pb, 6, none⟩) (by rw [HSS.out]; exact hpb6)).trans ((cell_set_ne (fun e => by cases e)).trans q6); have k7 := (hB8.cell (p := ⟨pb, 7, none⟩) (by rw [HSS.out]; exact hpb6)).trans ((cell_set_ne (fun e => by cases e)).trans q7); have y5 := (hB8.frozen (p := ⟨pb, 5, none⟩) (by rw [HSS.out]; exact hpb6)).trans (FZ.out 5); have y6 := (hB8.frozen (p := ⟨pb, 6, none⟩) (by rw [HSS.out]; exact hpb6)).trans (FZ.out 6); have y7 := (hB8.frozen (p := ⟨pb, 7, none⟩) (by rw [HSS.out]; exact hpb6)).trans (FZ.out 7); clear hv hnew hB8))
            obtain ⟨w9, hw9⟩ : ∃ w9, w9 = ((w8.setCell ⟨pb, 5, none⟩ (.slice a' root.length cc')).setCell ⟨pb, 6, none⟩ (.slice (some ⟨g, 0, none⟩) S.blocks gc)).setCell ⟨pb, 7, none⟩ (.int .i64 (nm : Int)) := ⟨_, rfl⟩
            have PRE := commit_pre (w9 := w9) (S1 := { S with seq := S.seq + 1, root := root, taken := tkOf S, many := nm }) HL6.out.1 HC6.out HOB6.out LH.out.2.1.2 X8.out.2.2 X8.out.1 (fun k hk => by have := X8.out.2.1 k hk; rw [HSS.out] at this; exact this) nm rfl hw9
            have HPR : Hid (PgPre w9 pb db (fun k => F k ∨ k = g ∨ (Value.slice a' root.length cc').ownBlock = some k) { S with seq := S.seq + 1, root := root, taken := tkOf S, many := nm } (.slice a' root.length cc') (.slice (some ⟨g, 0, none⟩) S.blocks gc) ∧ Keeps (fun k => k = pb) w6 w9 ∧ DkAt w9 db G' (D.all (layL S (tkOf S) root)).1) :=
              Lib.hid ⟨PRE.1, PRE.2, HL6.out.1.dk.keeps PRE.2 (fun k hk e => HL6.out.1.npb (by rw [← e]; exact hk))⟩
            clear PRE k5 k6 k7 y5 y6 y7 q5 q6 q7 k4 z4
            rw [← hw9]
            clear hw9
            go_wp2_with (go_at_call 24; go_must (refine (pg_abort HPR.out.2.2 HPR.out.1 (by have := HL6.out.1.bl; exact this)).mono ?_; rintro e w10 ⟨rfl, hpa, hka⟩); have X10 := Lib.hid (And.intro hpa hka); clear hpa hka)
            go_ret
            have hk610 : Keeps (fun k => k = pb) w6 w10 := HPR.out.2.1.trans X10.out.2
            have hSd : (⟨S.blocks, S.seq + 1, root, tkOf S, nm, fun _ => none, fun _ => false, firstN S.blocks⟩ : PgS) = S.done root := by rw [HNM.out]; rfl
            have hvk : ∀ k, (Value.slice a' root.length cc').ownBlock = some k → w6.heap.size ≤ k := fun k hk => by have := X8.out.2.1 k hk; rw [HSS.out] at this; exact this
            have hsz9 : w6.heap.size ≤ w9.heap.size := HPR.out.2.1.size
            refine ⟨Two (fun k => F k ∨ k = g ∨ (Value.slice a' root.length cc').ownBlock = some k) w9, G', by rw [HE.out]; rfl, ?_, ?_⟩
            · rw [if_pos HE.out, ← hSd]
              refine ⟨HL6.out.1.dk.keeps hk610 (fun k hk e => HL6.out.1.npb (by rw [← e]; exact hk)), X10.out.1, HL6.out.1.bl, fun k hk hG => ?_⟩
              have hl := HL6.out.1.dk.lim k hG
              rcases hk with (hk | hk | hk) | hk | hk
              · exact HL6.out.1.dis k hk hG
              · rcases HL6.out.2.2.1 k hG with h | h
                · exact LH.out.2.1.1 (by rw [← hk]; exact h)
                · have := HOB.out.1.2.1; omega
              · have := hvk k hk; omega
              · omega
              · omega
            · refine ⟨HM6.out.keeps.trans' hk610 (fun j hj e => by rw [e]; exact .inl HS.out.1.pg.own), fun k hk => ?_, fun k hk => ?_⟩
              · rcases HM6.out.up k hk with h | h
                · exact .inl (.inl (.inl h))
                · exact .inr h
              · rcases hk with ((hk | hk | hk) | hk | hk) | hk
                · exact .inl (.inl hk)
                · exact .inr (by have := HG1.out; omega)
                · exact .inr (by have := hvk k hk; have := HM6.out.size; omega)
                · exact .inr (by have := HM6.out.size; omega)
                · exact .inr (by have := HM6.out.size; omega)
                · exact HM6.out.new k (.inr hk)
          · have he1 : ((D.all (layL S (tkOf S) root)).2 != 0) = true := by simpa using he
            have HE := Lib.hid he
            clear he c' m' hon
            go_wp2
            go_ret
            refine ⟨F, G', rfl, ?_, HM6.out⟩
            rw [if_neg HE.out]
            exact HL6.out.1
        · intro x v w5 ct1 hx hfx hwx hit1 hlt1 hon1 hen1
          obtain ⟨n, rfl, hnN, hns⟩ := (HK2.out x).1 (by rw [hfx]; rfl)
          have hgr : g ≠ wA.heap.size := by have := HG2.out.1; omega
          have HY := Lib.hid (And.intro hit1 (And.intro hlt1 (And.intro hon1 (HZ.out.2.2.1.stay (hon1.2.2.2.2 g hgr) (Nat.le_of_eq hon1.2.2.2.1.symm)))))
          have k1 := HY.out.2.2.2.2.2.2.1 n hnN
          have k2 := HY.out.2.2.2.2.2.2.2 n
          have hn1 : (n : Int) < (S.blocks : Int) := by omega
          have hn0 : (0 : Int) ≤ (n : Int) := by omega
          have HNN := Lib.hid hnN
          clear hx hfx hit1 hlt1 hon1 hns hnN hgr
          go_wp2
          go_roundg ct1
          case measure => have := HY.out.2.1; have := HZ.out.1; omega
          case rel =>
            refine ⟨ks2 ++ [(n : Int)], ct1, Nat.le_refl _, by simp; omega, ?_, ?_, ?_, by have := HY.out.2.1; have := HZ.out.2.2.2.2; simp; omega⟩
            · exact HY.out.1.on (Below.heap_setCell _ _ _ _ (by have := HG1.out; show fb ≠ g; omega)) (Below.heap_setCell _ _ _ _ (by have := HG2.out.1; show wA.heap.size ≠ g; omega))
            · exact (HY.out.2.2.2.set n HNN.out false).congr (fun i _ => notKs_snoc _ _ _ i)
            · exact (below_only HZ.out.2.2.2.1 HY.out.2.2.1 HG2.out.2).setCell (by exact HG1.out.2.2.2.2.1) _
    · intro x v w3 ct1 hx hfx hwx hit1 hlt1 hon1 hen1
      obtain ⟨n, rfl, hnN, hns⟩ := (HK1.out x).1 (by rw [hfx]; rfl)
      have hgr : g ≠ w1.heap.size := by have := HG1.out.1; omega
      have HY := Lib.hid (And.intro hit1 (And.intro hlt1 (And.intro hon1 (HX.out.2.2.1.stay (hon1.2.2.2.2 g hgr) (Nat.le_of_eq hon1.2.2.2.1.symm)))))
      have k1 := HY.out.2.2.2.2.2.2.1 n hnN
      have k2 := HY.out.2.2.2.2.2.2.2 n
      have hn1 : (n : Int) < (S.blocks : Int) := by omega
      have hn0 : (0 : Int) ≤ (n : Int) := by omega
      have HNN := Lib.hid hnN
      clear hx hfx hit1 hlt1 hon1 hns hnN hgr
      go_wp2
      go_roundg ct1
      case measure => have := HY.out.2.1; have := HX.out.1; omega
      case rel =>
        refine ⟨ks ++ [(n : Int)], ct1, Nat.le_refl _, by simp; omega, ?_, ?_, ?_, by have := HY.out.2.1; have := HX.out.2.2.2.2; simp; omega⟩
        · exact HY.out.1.on (Below.heap_setCell _ _ _ _ (by have := HG1.out; show mb ≠ g; omega)) (Below.heap_setCell _ _ _ _ (by have := HG1.out.1; show w1.heap.size ≠ g; omega))
        · exact (HY.out.2.2.2.set n HNN.out true).congr (fun i _ => orKs_snoc _ _ _ i)
        · exact (below_only HX.out.2.2.2.1 HY.out.2.2.1 HG1.out.2.2.2.2.2).setCell (by exact HG1.out.2.2.2.2.1) _
theorem up_commitZ {w : World} {pb db : Nat} {F G : Nat → Prop} {D : DiskS} {S : PgS} {C : Comm} (h : PgUp w pb db F G D S C) (hd : D.dead = false) (ra : Option Addr) (rc : Nat) (root : List UInt8) (hr : ReadsZ w (.slice ra root.length rc) root) (hrl : root.length ≤ 64)
    (hrb : root = [] ∨ ∀ k, (Value.slice ra root.length rc).ownBlock = some k → ¬ F k ∧ ¬ G k) (hs : S.seq + 1 < 1000000000000000000) :
    Calls Try.prog 13 #[.pointer (some ⟨pb, 0, none⟩), .slice ra root.length rc] w (UpCommit w pb db F G D S C root) := by
  refine (pg_commit_okZ h.on h.inv.wf hd ra rc root hr hrl hrb).mono ?_
  rintro e w' ⟨F', G', he, hon, hm⟩
  rcases commit_all h.inv hd root hrl hs with ⟨h1, h2, h3, h4, h5⟩ | ⟨h1, h2, h3, h4⟩
  · rw [if_pos h1] at hon
    rw [h1] at he
    refine ⟨F', G', _, hm, DiskS.all_blocks _ _, .inl ⟨he, h2, h4, ?_, hon, h5⟩⟩
    rw [h3, layL_length]
    omega
  · rw [if_neg (by rw [h1]; decide)] at hon
    rw [h1] at he
    exact ⟨F', G', _, hm, DiskS.all_blocks _ _, .inr ⟨he, h3, h2, hon, h4⟩⟩
end Go.Proofs.Ytjbomdhlfjcgmaa
