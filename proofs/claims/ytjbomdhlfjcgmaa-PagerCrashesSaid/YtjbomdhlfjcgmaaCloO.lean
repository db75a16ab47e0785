/-
  slices.Clone of bytes: the copy is the caller's own.
-/
import Derived.Test.YtjbomdhlfjcgmaaPgU
namespace Go.Proofs.Ytjbomdhlfjcgmaa
set_option linter.unusedSimpArgs false
set_option linter.unusedVariables false
open Go.RowKit

/-- A copy of bytes, of one's own. -/
def CloneOwn (w : World) (zs : List UInt8) (e : Ending) (w' : World) : Prop := ∃ v', e = .returned v' ∧ Row w' w.heap.size v' zs ∧ Below w.heap.size w w'

set_option maxHeartbeats 800000 in
set_option maxRecDepth 100000 in
theorem clone_own (v : Value) (zs : List UInt8) (w : World) (h : Reads w v zs) (hl : Fits zs.length) :
    Calls Try.prog 34 #[v] w (CloneOwn w zs) := by
  obtain ⟨i0, hi, hz0, hz1, hz2⟩ := info_parts infoU8
  have q28 : ∀ (w : World) (a : Option Addr) (n c n' c' : Nat), (binOp .eql 22 (.slice a n c) (.slice none n' c')).run Try.prog w = .ok (.bool a.isNone) w := fun w a n c n' c' => Lib.run_eql_slice_nil w _ _ a n c n' c' Try.underlying22
  rcases h with ⟨rfl, he⟩ | ⟨b, off, cap, rfl, hlc, hbb, hx⟩
  · go_enter Try.func34, Try.ntmps34
    go_wp2
    go_ret
    exact ⟨.slice none 0 0, rfl, by subst he; exact Row.nil _ _, Below.refl _ _⟩
  · have HX := Lib.hid hx
    clear hx
    go_enter Try.func34, Try.ntmps34
    go_wp2_with (at_builtin; refine wpList_append_own _ rfl _ _ 22 rfl w.heap.size 5 i0 (.int .u8 0) 1 1 Try.underlying22 hi hz0 hz1 hz2 rfl (by decide) _ _ _ rfl (World.ownsRow_made w #[] 0 (Nat.le_refl _) (Nat.zero_le _) rfl) ⟨b, off, none⟩ zs.length cap (bcells zs) rfl ?qc1 ?qc2 (bcells_oneCell _) ?qc4 ?qc5 ?qc6 ?_)
    case qc1 => simp [bcells]
    case qc2 =>
      intro j u hj
      have hjn : j < zs.length := by
        have := (List.getElem?_eq_some_iff.1 hj).1
        simpa [bcells] using this
      rw [Addr.add_lit]
      refine Lib.cell?_alloc_some _ ?_
      have hx := HX.out j zs[j] (List.getElem?_eq_getElem hjn)
      have e : (bcells zs)[j]? = some (.int .u8 (zs[j].toNat : Int)) := by simp [bcells, hjn]
      rw [e] at hj
      cases hj
      exact hx
    case qc4 => have := hl; unfold Fits at this; unfold maxLen; omega
    case qc5 => have := hl; unfold Fits at this; omega
    case qc6 => simp
    intro v' w1 hown hgrow hnil
    have hB : Below w.heap.size w w1 := ((Below.refl _ w).alloc (Nat.le_refl _) _).grown hgrow (by simp) (by intro k hk; simp [Value.ownBlock] at hk; omega)
    have F : Hid (CloneOwn w zs (.returned v') w1) := Lib.hid (by
      have hown' : w1.ownsRow w.heap.size 5 1 v' zs.length (bcells zs) := by simpa using hown
      exact ⟨v', rfl, hown', hB⟩)
    clear hown hgrow hnil hB
    go_wp2
    go_ret
    exact F.out

def RdOwn (w : World) (zs : List UInt8) (e : Ending) (w' : World) : Prop :=
  ∃ (a : Option Addr) (c : Nat), e = .returned (.tuple #[.slice a zs.length c, .int .i64 0]) ∧ Row w' w.heap.size (.slice a zs.length c) zs ∧ Below w.heap.size w w'
set_option maxRecDepth 100000 in
set_option maxHeartbeats 800000 in
theorem dk_read_own {w : World} {db : Nat} {F : Nat → Prop} {D : DiskS} (h : DkAt w db F D) (hd : D.dead = false) (n : Nat) (hn : n < D.blocks) :
    Calls Try.prog 48 #[.pointer (some ⟨db, 0, none⟩), .int .i64 n] w (RdOwn w (D.block n)) := by
  obtain ⟨i0, hi, hz0, hz1, hz2⟩ := info_parts infoU8
  obtain ⟨mb, c1, _, _, hm⟩ := h.by'
  have c0 := h.c0
  have c4 := h.c4
  rw [hd] at c4
  have hb := h.wf.hi
  have hn0 : (0 : Int) ≤ (n : Int) := by omega
  have hn1 : (n : Int) < (D.blocks : Int) := by omega
  rcases hm.raw n (wf_small n (by omega)) (k := 3) (t := 57) Try.underlying3 Try.underlying57 (zeroBytes w) with ⟨hg, hrun⟩ | ⟨a, c, zs, h0, hg, hr, ho, hrun⟩
  · have hg' : D.block n = zerosB 512 := by unfold DiskS.block; rw [show D.put n = none by simpa using hg]; rfl
    rw [hg']
    have HB := Lib.hid hb
    clear hg hg' hm h hb hd
    go_enter Try.func48, Try.ntmps48
    go_wp2_with (at_make; refine wpList_make_full _ rfl _ _ 22 rfl w.heap.size 5 i0 (.int .u8 0) 1 Try.underlying22 hi hz0 hz1 _ _ _ _ 512 rfl rfl rfl rfl (by rw [hz2]; omega) (by unfold maxLen; omega) (Nat.le_refl _) ?_)
    intro w1 hown hgrow
    have F : Hid (RdOwn w (zerosB 512) (.returned (.tuple #[.slice (some ⟨w.heap.size, 0, none⟩) 512 512, .int .i64 0])) w1) := Lib.hid (by
      refine ⟨some ⟨w.heap.size, 0, none⟩, 512, by rw [zerosB_length], ?_, (Below.refl _ _).grown hgrow (Nat.le_refl _) (fun k hk => by cases hk)⟩
      unfold Row
      rw [zerosB_length]
      have e : bcells (zerosB 512) = (madeCells (Value.int .u8 0).cells (512 * 1)).toList := by
        rw [show (Value.int .u8 0).cells = #[Value.int .u8 0] from rfl, toList_madeCells_one]
        simp [bcells, zerosB]
      rw [e]
      exact hown)
    clear hown hgrow
    go_wp2
    go_ret2
    exact F.out
  · have hg' : D.block n = zs := by unfold DiskS.block; rw [show D.put n = some zs by simpa using hg]; rfl
    have hl : zs.length = 512 := (h.wf.len n zs (by simpa using hg)).2
    rw [hg']
    have H := Lib.hid (And.intro hr hl)
    clear hg hg' hm h hb hd hr hl
    go_enter Try.func48, Try.ntmps48
    go_wp2_with (go_at_call 34; refine (clone_own _ zs w H.out.1 (fits_of _ (by rw [H.out.2]; omega))).mono ?_; rintro e w1 ⟨v', rfl, hv, hB⟩; obtain ⟨a', c', rfl⟩ := hv.reads.len; have X := Lib.hid (And.intro hv hB); clear hv hB)
    go_ret2
    exact ⟨a', c', rfl, X.out.1, X.out.2⟩
/-- A page that is read is the caller's own. -/
def PgRdOwn (w : World) (pb db : Nat) (F G : Nat → Prop) (D : DiskS) (S : PgS) (zs : List UInt8) (e : Ending) (w' : World) : Prop :=
  ∃ (a : Option Addr) (c : Nat), e = .returned (.tuple #[.slice a zs.length c, .int .i64 0]) ∧ Row w' w.heap.size (.slice a zs.length c) zs ∧ PgOn w' pb db F G D S ∧ Keeps (fun k => k = pb) w w'
set_option maxRecDepth 100000 in
set_option maxHeartbeats 1600000 in
theorem pg_rd_own {w : World} {pb db : Nat} {F G : Nat → Prop} {D : DiskS} {S : PgS} (h : PgOn w pb db F G D S) (wf : PgWf S) (hd : D.dead = false) (x : Int) (hw : (Lit.int .i64 x).wf = true) (ht : S.there x = true) (zs : List UInt8)
    (hp : D.block x.toNat = pageB zs) (hz : zs.length ≤ 496) : Calls Try.prog 14 #[.pointer (some ⟨pb, 0, none⟩), .int .i64 x] w (PgRdOwn w pb db F G D S zs) := by
  obtain ⟨v5, v6, mb, fb, c, m⟩ := h.pg.ex
  obtain ⟨a, n, cc, hrun⟩ := m.fresh.raw2 x hw
  have hx : 0 < x ∧ x < S.blocks ∧ S.taken x.toNat = true := by
    unfold PgS.there at ht
    simp at ht
    exact ⟨ht.1.1.1, ht.1.1.2, ht.1.2⟩
  have hf : (decide (0 ≤ x) && (S.fresh x.toNat).isSome) = false := by
    cases hs : S.fresh x.toNat with
    | none => simp
    | some ys => have := (wf.fresh _ _ hs).2.2.1; rw [hx.2.2] at this; cases this
  rw [hf] at hrun
  have c0 := c.c0
  have c8 := c.c8
  have HD := Lib.hid (And.intro h.dk (And.intro hd (And.intro h.pg (And.intro wf.hi (And.intro ht h)))))
  obtain ⟨k, rfl⟩ : ∃ k : Nat, x = k := ⟨x.toNat, (Int.toNat_of_nonneg (by omega)).symm⟩
  rw [Int.toNat_natCast] at hp
  have hkb : k < D.blocks := by have := h.bl; omega
  have HP := Lib.hid (And.intro hp (And.intro hz hkb))
  have hz' : (zs.length : Int) ≤ 496 := by omega
  have hz2 : ((2 : Int) + (zs.length : Int)).toNat = 2 + zs.length := by omega
  clear hp hz hkb m c h wf hf hd hx ht hw
  go_enter Try.func14, Try.ntmps14
  go_wp2_with (first
    | (go_at_call 22; refine (dk_dead HD.out.1).mono ?_; rw [HD.out.2.1]; rintro e w' ⟨rfl, rfl⟩)
    | (go_at_call 37; refine (pg_there HD.out.2.2.1 HD.out.2.2.2.1 (k : Int) (wf_small k (by have := HP.out.2.2; have := HD.out.1.wf.hi; omega))).mono ?_; rw [HD.out.2.2.2.2.1]; rintro e w' ⟨rfl, rfl⟩)
    | (go_at_call 38; refine (pg_blk HD.out.2.2.2.2.2 HD.out.2.1 k HP.out.2.2).mono ?_; rintro e w1 ⟨b, off, c1, rfl, hc1, hr, hnew, hT⟩; rw [HP.out.1] at hr; have X1 := Lib.hid (And.intro hr (And.intro hnew hT)); clear hr hnew hT)
    | (go_at_call 39; go_must (refine (pg_get _ ((pageB zs).take 2) w1 (X1.out.1.front (m := 2) (pageB_length HP.out.2.1).symm (by omega)) (by rw [List.length_take]; omega) (by rw [pageB_len zs HP.out.2.1]; omega)).mono ?_; rw [pageB_len zs HP.out.2.1]; rintro e w' ⟨rfl, rfl⟩))
    | (go_at_call 34; go_must (have RB := X1.out.1.mid (i := 2) (m := zs.length) (pageB_length HP.out.2.1).symm (by have := HP.out.2.1; omega) (by omega); rw [pageB_body] at RB; refine (clone_own _ zs w1 RB (fits_of _ (by have := HP.out.2.1; omega))).mono ?_; rintro e w2 ⟨v', rfl, hv, hB⟩; obtain ⟨a', c', rfl⟩ := hv.reads.len); have X2 := Lib.hid (And.intro hv hB); clear hv hB RB))
  go_ret2
  exact ⟨a', c', rfl, ownsRow_base X2.out.1 X1.out.2.2.keeps.size, (HD.out.2.2.2.2.2.ticks X1.out.2.2 (.inl rfl)).below X2.out.2, X1.out.2.2.keeps.trans (Keeps.of_below X2.out.2)⟩
theorem ub_read_own {w0 w : World} {pb db : Nat} {F G : Nat → Prop} {D : DiskS} {S : PgS} {C : Comm} (h : UpB w0 w pb db F G D S C) (n : Nat) (zs : List UInt8) (hn : nowP S C n = some zs) (hf : S.fresh n = none) :
    Calls Try.prog 14 #[.pointer (some ⟨pb, 0, none⟩), .int .i64 n] w (fun e w' => ∃ (a : Option Addr) (c : Nat), e = .returned (.tuple #[.slice a zs.length c, .int .i64 0]) ∧ Row w' w.heap.size (.slice a zs.length c) zs ∧ UpB w0 w' pb db F G D S C ∧ Keeps (fun k => k = pb) w w') := by
  rcases now_has h.up.inv hn with ⟨h1, _⟩ | ⟨_, h2, h3, h4⟩
  · rw [hf] at h1; cases h1
  · obtain ⟨g1, g2, g3, g4⟩ := h.up.inv.ok.pages n zs h4
    have hbl := h.up.inv.bl
    have hi := h.up.inv.wf.hi
    have hfe : firstN D.blocks = 2 + 2 * mapsN D.blocks := rfl
    refine (pg_rd_own h.up.on h.up.inv.wf h.alive n (wf_small n (by omega)) ?_ zs g4 g3).mono ?_
    · unfold PgS.there
      have e1 : (0 : Int) < (n : Int) := by omega
      have e2 : (n : Int) < (S.blocks : Int) := by omega
      have e3 : 0 < n := by omega
      simp [e1, e2, e3, h3, h2]
    · rintro e w' ⟨a, c, he, hr, hon, hk⟩
      exact ⟨a, c, he, hr, ⟨⟨hon, h.up.inv⟩, Keeps.below_new h.bel hk (fun j hj => by rw [hj]; exact h.own pb (.inl h.up.on.pg.own)), h.own, h.alive, h.free⟩, hk⟩
end Go.Proofs.Ytjbomdhlfjcgmaa
