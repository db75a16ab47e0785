/-
  The law PagerCrashes: pager and disk while the power may go.
-/
import Derived.Test.YtjbomdhlfjcgmaaAllZ
import Derived.Test.YtjbomdhlfjcgmaaComZ
namespace Go.Proofs.Ytjbomdhlfjcgmaa
set_option linter.unusedSimpArgs false
set_option linter.unusedVariables false
open Go.RowKit

/-- A pager whose disk has power. -/
structure UpC (w0 w : World) (pb db : Nat) (F G : Nat → Prop) (D : DiskS) (S : PgS) (C : Comm) : Prop where
  up : PgUp w pb db F G D S C
  bel : Below w0.heap.size w0 w
  own : ∀ k, F k ∨ G k → w0.heap.size ≤ k
  alive : D.dead = false
/-- A disk, with power or without. -/
structure DkC (w0 w : World) (db : Nat) (G : Nat → Prop) (D : DiskS) (C : Comm) : Prop where
  dk : DkAt w db G D
  ok : DiskOk D C
  bel : Below w0.heap.size w0 w
  own : ∀ k, G k → w0.heap.size ≤ k
section
variable {w0 w w' : World} {pb db : Nat} {F G H : Nat → Prop} {D : DiskS} {S : PgS} {C : Comm}
theorem UpC.below (h : UpC w0 w pb db F G D S C) (k : Below w.heap.size w w') : UpC w0 w' pb db F G D S C := ⟨h.up.below k, h.bel.trans (k.mono h.bel.size), h.own, h.alive⟩
theorem UpC.drewN (h : UpC w0 w pb db F G D S C) (n : Nat) : UpC w0 (w.drewN n) pb db F G D S C := ⟨⟨h.up.on.drewN n, h.up.inv⟩, below_drewN (B := 0) w n h.bel, h.own, h.alive⟩
theorem UpC.other (h : UpC w0 w pb db F G D S C) (hk : Keeps H w w') (hH : ∀ k, H k → w0.heap.size ≤ k ∧ ¬ F k ∧ ¬ G k) : UpC w0 w' pb db F G D S C :=
  ⟨⟨⟨h.up.on.dk.keeps hk (fun k hg hh => (hH k hh).2.2 hg), h.up.on.pg.keeps hk (fun k hf hh => (hH k hh).2.1 hf), h.up.on.bl, h.up.on.dis⟩, h.up.inv⟩, Keeps.below_new h.bel hk (fun j hj => (hH j hj).1), h.own, h.alive⟩
theorem UpC.dk (h : UpC w0 w pb db F G D S C) : DkC w0 w db G D C := ⟨h.up.on.dk, h.up.inv.ok, h.bel, fun k hk => h.own k (.inr hk)⟩
theorem DkC.below (h : DkC w0 w db G D C) (k : Below w.heap.size w w') : DkC w0 w' db G D C := ⟨h.dk.below k, h.ok, h.bel.trans (k.mono h.bel.size), h.own⟩
end

/-! The calls. -/
section
variable {w0 w : World} {pb db : Nat} {F G : Nat → Prop} {D : DiskS} {S : PgS} {C : Comm}
theorem uc_alloc (h : UpC w0 w pb db F G D S C) (v : Value) (zs : List UInt8) (hz : ReadsZ w v zs) (hzl : zs.length ≤ 496) (hap : zs = [] ∨ ∀ k, v.ownBlock = some k → ¬ F k) (hleft : S.left ≠ 0) :
    Calls Try.prog 12 #[.pointer (some ⟨pb, 0, none⟩), v] w (fun e w' => ∃ (n : Nat) (S' : PgS) (F' : Nat → Prop), e = .returned (.tuple #[.int .i64 n, .int .i64 0]) ∧ UpC w0 w' pb db F' G D S' C ∧ nowP S C n = none ∧ (∀ k, nowP S' C k = if k = n then some zs else nowP S C k) ∧ Moves F F' w w') :=
  (up_allocZ h.up h.alive v zs hz hzl hap hleft).mono (by
    rintro e w' ⟨n, S', F', he, h1, h2, h3, h4, hup, hnow, hleft, hfr, hc, hm⟩
    refine ⟨n, S', F', he, ⟨hup, Keeps.below_new h.bel hm.keeps (fun j hj => h.own j (.inl hj)), fun k hk => ?_, h.alive⟩, h3, hnow, hm⟩
    rcases hk with hk | hk
    · rcases hm.new k hk with hk | hk
      · exact h.own k (.inl hk)
      · exact Nat.le_trans h.bel.size hk
    · exact h.own k (.inr hk))
theorem uc_free (h : UpC w0 w pb db F G D S C) (n : Nat) (zs : List UInt8) (hn : nowP S C n = some zs) :
    Calls Try.prog 21 #[.pointer (some ⟨pb, 0, none⟩), .int .i64 n] w (fun e w' => e = .returned (.int .i64 0) ∧ UpC w0 w' pb db F G D (S.free n).1 C ∧ Keeps F w w') := by
  have hr := now_range h.up.inv hn
  have hi := h.up.inv.ok.wf.hi
  obtain ⟨f1, f2, _⟩ := free_yes h.up.inv hn
  refine (pg_free h.up.on h.up.inv.wf h.alive n (wf_small n (by omega))).mono ?_
  rintro e w' ⟨he, hon, hk⟩
  rw [f1] at he
  exact ⟨he, ⟨⟨hon, f2⟩, Keeps.below_new h.bel hk (fun j hj => h.own j (.inl hj)), h.own, h.alive⟩, hk⟩
theorem uc_abort (h : UpC w0 w pb db F G D S C) : Calls Try.prog 24 #[.pointer (some ⟨pb, 0, none⟩)] w (fun e w' => e = .returned (.tuple #[]) ∧ ∃ F', UpC w0 w' pb db F' G D S.clean C ∧ Moves F F' w w') := by
  obtain ⟨v5, v6, hpre⟩ := h.up.on.pg.pre
  refine (pg_abort h.up.on.dk hpre h.up.on.bl).mono ?_
  rintro e w' ⟨he, hat, hk⟩
  have hm := Two.moves h.up.on.pg.own hk
  refine ⟨he, _, ⟨⟨⟨h.up.on.dk.keeps hk (fun k hg e => h.up.on.npb (by rw [← e]; exact hg)), hat, h.up.on.bl, fun k hf hg => ?_⟩, clean_inv h.up.inv⟩, Keeps.below_new h.bel hm.keeps (fun j hj => h.own j (.inl hj)), fun k hk => ?_, h.alive⟩, hm⟩
  · rcases hm.new k hf with hf | hf
    · exact h.up.on.dis k hf hg
    · have := h.up.on.dk.lim k hg; omega
  · rcases hk with hk | hk
    · rcases hm.new k hk with hk | hk
      · exact h.own k (.inl hk)
      · exact Nat.le_trans h.bel.size hk
    · exact h.own k (.inr hk)
/-- Commit: it is done, or the power went and the disk holds what it held. -/
theorem uc_commit (h : UpC w0 w pb db F G D S C) (ra : Option Addr) (rc : Nat) (root : List UInt8) (hr : ReadsZ w (.slice ra root.length rc) root) (hrl : root.length ≤ 64)
    (hrb : root = [] ∨ ∀ k, (Value.slice ra root.length rc).ownBlock = some k → ¬ F k ∧ ¬ G k) (hs : C.seq + 1 < 1000000000000000000) :
    Calls Try.prog 13 #[.pointer (some ⟨pb, 0, none⟩), .slice ra root.length rc] w (fun e w' => ∃ F' G' D', Moves (fun k => F k ∨ G k) (fun k => F' k ∨ G' k) w w' ∧
      ((e = .returned (.int .i64 0) ∧ UpC w0 w' pb db F' G' D' (S.done root) (commC S C root)) ∨ (e = .returned (.int .i64 12) ∧ D'.dead = true ∧ DkC w0 w' db G' D' C))) :=
  (up_commitZ h.up h.alive ra rc root hr hrl hrb (by rw [h.up.inv.seq]; exact hs)).mono (by
    rintro e w' ⟨F', G', D', hm, hbl, hh⟩
    have hown : ∀ k, F' k ∨ G' k → w0.heap.size ≤ k := fun k hk => by
      rcases hm.new k hk with hk | hk
      · exact h.own k hk
      · exact Nat.le_trans h.bel.size hk
    have hbel := Keeps.below_new h.bel hm.keeps h.own
    refine ⟨F', G', D', hm, ?_⟩
    rcases hh with ⟨he, hal, _, _, hup⟩ | ⟨he, _, hde, hup⟩
    · exact .inl ⟨he, hup, hbel, hown, hal⟩
    · exact .inr ⟨he, hde, hup.on.dk, hup.inv.ok, hbel, fun k hk => hown k (.inr hk)⟩)
theorem dc_start (h : DkC w0 w db G D C) : Calls Try.prog 25 #[.pointer (some ⟨db, 0, none⟩)] w (fun e w' => e = .returned (.tuple #[]) ∧ DkC w0 w' db G D.start C ∧ Keeps G w w') :=
  (dk_start h.dk).mono (by
    rintro e w' ⟨he, hd, hk⟩
    exact ⟨he, ⟨hd, h.ok.start, Keeps.below_new h.bel hk h.own, h.own⟩, hk⟩)
theorem dc_cut (h : DkC w0 w db G D C) (n : Nat) (hn : n < 1000) : Calls Try.prog 19 #[.pointer (some ⟨db, 0, none⟩), .int .i64 n] w (fun e w' => e = .returned (.tuple #[]) ∧ DkC w0 w' db G (D.cut n) C ∧ Keeps G w w') :=
  (dk_cut h.dk n (by omega)).mono (by
    rintro e w' ⟨he, hd, hk⟩
    exact ⟨he, ⟨hd, h.ok.cut n (by omega), Keeps.below_new h.bel hk h.own, h.own⟩, hk⟩)
theorem dc_open (h : DkC w0 w db G D C) (ha : D.dead = false) : Calls Try.prog 11 #[.pointer (some ⟨db, 0, none⟩)] w
    (fun e w' => ∃ pb F, e = .returned (.tuple #[.pointer (some ⟨pb, 0, none⟩), .int .i64 0]) ∧ UpC w0 w' pb db F G D (loadS D) C ∧ Below w.heap.size w w' ∧ ∀ k, F k → w.heap.size ≤ k) :=
  (up_open h.dk h.ok ha).mono (by
    rintro e w' ⟨hB, pb, F, he, hup, hF⟩
    refine ⟨pb, F, he, ⟨hup, h.bel.trans (hB.mono h.bel.size), fun k hk => ?_, ha⟩, hB, hF⟩
    rcases hk with hk | hk
    · exact Nat.le_trans h.bel.size (hF k hk)
    · exact h.own k hk)
end

structure Cl2 (w0 w : World) (pb db : Nat) (F G : Nat → Prop) (D : DiskS) (S : PgS) (C : Comm) (va : Value) (ps : List PageD) (vd : Value) (qs : List PageD) : Prop where
  up : UpC w0 w pb db F G D S C
  ra : PRow w w0.heap.size va ps
  fa : ∀ k, va.ownBlock = some k → ¬ F k ∧ ¬ G k
  rd : PRow w w0.heap.size vd qs
  fd : ∀ k, vd.ownBlock = some k → ¬ F k ∧ ¬ G k
  dis : ∀ k, va.ownBlock = some k → vd.ownBlock ≠ some k
section
variable {w0 w w' : World} {pb db : Nat} {F G F' G' : Nat → Prop} {D D' : DiskS} {S S' : PgS} {C C' : Comm} {va vd v : Value} {ps qs rs : List PageD}
theorem Cl2.turn (h : Cl2 w0 w pb db F G D S C va ps vd qs) {pb' : Nat} (hu : UpC w0 w' pb' db F' G' D' S' C') (hm : Moves (fun k => F k ∨ G k) (fun k => F' k ∨ G' k) w w') : Cl2 w0 w' pb' db F' G' D' S' C' va ps vd qs := by
  have hn : ∀ {v : Value}, (∀ k, v.ownBlock = some k → ¬ F k ∧ ¬ G k) → ∀ j, v.ownBlock = some j → ¬ (F j ∨ G j) := fun hv j hj hf => by
    rcases hf with hf | hf
    · exact (hv j hj).1 hf
    · exact (hv j hj).2 hf
  exact ⟨hu, h.ra.keeps hm.keeps (hn h.fa), far_turn h.fa (fun k hk => (h.ra.blk k hk).2) hm, h.rd.keeps hm.keeps (hn h.fd), far_turn h.fd (fun k hk => (h.rd.blk k hk).2) hm, h.dis⟩
theorem Cl2.below (h : Cl2 w0 w pb db F G D S C va ps vd qs) (k : Below w.heap.size w w') : Cl2 w0 w' pb db F G D S C va ps vd qs := ⟨h.up.below k, h.ra.below k, h.fa, h.rd.below k, h.fd, h.dis⟩
theorem Cl2.drewN (h : Cl2 w0 w pb db F G D S C va ps vd qs) (n : Nat) : Cl2 w0 (w.drewN n) pb db F G D S C va ps vd qs := ⟨h.up.drewN n, h.ra, h.fa, h.rd, h.fd, h.dis⟩
theorem UpC.far_new (h : UpC w0 w pb db F G D S C) {k : Nat} (hk : w.heap.size ≤ k) : ¬ F k ∧ ¬ G k := ⟨fun hf => by have := h.up.on.pg.lim k hf; omega, fun hf => by have := h.up.on.dk.lim k hf; omega⟩
/-- A page more in the first list. -/
theorem Cl2.more (h : Cl2 w0 w pb db F G D S C va ps vd qs) (hr : PRow w' w0.heap.size v rs) (ha : Appd w w' va v) : Cl2 w0 w' pb db F G D S C v rs vd qs := by
  have hu : UpC w0 w' pb db F G D S C := h.up.other ha.keeps (fun k hk => ⟨(h.ra.blk k hk).1, h.fa k hk⟩)
  refine ⟨hu, hr, fun k hk => ?_, h.rd.keeps ha.keeps (fun j hj e => h.dis j e hj), h.fd, fun k hk hk2 => ?_⟩
  · rcases ha.new with e | ⟨m, e, hm⟩
    · exact h.fa k (e.symm.trans hk)
    · rw [e] at hk; cases hk; exact h.up.far_new hm
  · rcases ha.new with e | ⟨m, e, hm⟩
    · exact h.dis k (e.symm.trans hk) hk2
    · rw [e] at hk
      cases hk
      have := (h.rd.blk _ hk2).2
      omega
/-- Another first list, in a new block. -/
theorem Cl2.newA (h : Cl2 w0 w pb db F G D S C va ps vd qs) (hr : PRow w' w.heap.size v rs) (k : Below w.heap.size w w') : Cl2 w0 w' pb db F G D S C v rs vd qs :=
  ⟨h.up.below k, hr.base h.up.bel.size, fun k hk => h.up.far_new (hr.blk k hk).1, h.rd.below k, h.fd, fun j hj hj2 => by have := (hr.blk j hj).1; have := (h.rd.blk j hj2).2; omega⟩
theorem Cl2.newD (h : Cl2 w0 w pb db F G D S C va ps vd qs) (hr : PRow w' w.heap.size v rs) (k : Below w.heap.size w w') : Cl2 w0 w' pb db F G D S C va ps v rs :=
  ⟨h.up.below k, h.ra.below k, h.fa, hr.base h.up.bel.size, fun k hk => h.up.far_new (hr.blk k hk).1, fun j hj hj2 => by have := (hr.blk j hj2).1; have := (h.ra.blk j hj).2; omega⟩
end


/-- The law's state while there is power. -/
structure CrS (w0 w : World) (i pb db : Nat) (va : Value) (ps : List PageD) (vd : Value) (qs : List PageD) (rt : List UInt8) (F G : Nat → Prop) (D : DiskS) (S : PgS) (C : Comm) : Prop where
  two : Cl2 w0 w pb db F G D S C va ps vd qs
  ma : PMap (nowP S C) ps
  md : PMap C.pages qs
  root : C.root = rt
  seq : C.seq ≤ i
  lps : ps.length ≤ i
  lqs : qs.length ≤ i
/-- What outlives the pager. -/
structure CrD (w0 w : World) (db : Nat) (vd : Value) (qs : List PageD) (rt : List UInt8) (G : Nat → Prop) (D : DiskS) (C : Comm) : Prop where
  dk : DkC w0 w db G D C
  rd : PRow w w0.heap.size vd qs
  fd : ∀ k, vd.ownBlock = some k → ¬ G k
  md : PMap C.pages qs
  root : C.root = rt
  lqs : qs.length ≤ 60
section
variable {w0 w w' : World} {i pb db : Nat} {va vd v : Value} {ps qs rs : List PageD} {rt : List UInt8} {F G F' G' : Nat → Prop} {D D' : DiskS} {S S' : PgS} {C C' : Comm}
theorem CrS.below (h : CrS w0 w i pb db va ps vd qs rt F G D S C) (k : Below w.heap.size w w') : CrS w0 w' i pb db va ps vd qs rt F G D S C := { h with two := h.two.below k }
theorem CrS.drewN (h : CrS w0 w i pb db va ps vd qs rt F G D S C) (n : Nat) : CrS w0 (w.drewN n) i pb db va ps vd qs rt F G D S C := { h with two := h.two.drewN n }
theorem CrS.mono (h : CrS w0 w i pb db va ps vd qs rt F G D S C) : CrS w0 w (i + 1) pb db va ps vd qs rt F G D S C :=
  { h with seq := by have := h.seq; omega, lps := by have := h.lps; omega, lqs := by have := h.lqs; omega }
theorem CrS.rest (h : CrS w0 w i pb db va ps vd qs rt F G D S C) (hi : i ≤ 60) : CrD w0 w db vd qs rt G D C := ⟨h.two.up.dk, h.two.rd, fun k hk => (h.two.fd k hk).2, h.md, h.root, Nat.le_trans h.lqs hi⟩
theorem CrS.alloc (h : CrS w0 w i pb db va ps vd qs rt F G D S C) {n : Nat} {zs : List UInt8} (hu : UpC w0 w' pb db F' G D S' C) (hm : Moves F F' w w')
    (h1 : nowP S C n = none) (h2 : ∀ k, nowP S' C k = if k = n then some zs else nowP S C k) {w2 : World} (hr : PRow w2 w0.heap.size v (ps ++ [(n, zs)])) (ha : Appd w' w2 va v) : CrS w0 w2 (i + 1) pb db v (ps ++ [(n, zs)]) vd qs rt F' G D S' C :=
  { h with two := (h.two.turn hu hm.left).more hr ha, ma := h.ma.more h1 h2, seq := by have := h.seq; omega, lps := by rw [List.length_append, List.length_singleton]; have := h.lps; omega, lqs := by have := h.lqs; omega }
theorem CrS.free (h : CrS w0 w i pb db va ps vd qs rt F G D S C) {n : Nat} {zs : List UInt8} (hn : nowP S C n = some zs) (hu : UpC w0 w' pb db F G D (S.free n).1 C) (hk : Keeps F w w')
    {w2 : World} (hr : PRow w2 w'.heap.size v (woP ps (n : Int))) (hB : Below w'.heap.size w' w2) : CrS w0 w2 i pb db v (woP ps (n : Int)) vd qs rt F G D (S.free n).1 C := by
  obtain ⟨_, _, f3, _, _⟩ := free_yes h.two.up.up.inv hn
  exact { h with two := (h.two.turn hu (Moves.of_keeps hk).left).newA hr hB, ma := h.ma.wo f3, lps := Nat.le_trans (woP_len _ _) h.lps }
/-- A commit that was done; v: the copy of the list that was made ahead of it. -/
theorem CrS.commit (h : CrS w0 w i pb db va ps vd qs rt F G D S C) (h2 : Cl2 w0 w pb db F G D S C va ps v ps) {root : List UInt8} (hu : UpC w0 w' pb db F' G' D' (S.done root) (commC S C root)) (hm : Moves (fun k => F k ∨ G k) (fun k => F' k ∨ G' k) w w') : CrS w0 w' (i + 1) pb db va ps v ps root F' G' D' (S.done root) (commC S C root) :=
  { two := h2.turn hu hm, ma := h.ma.congr (fun n => done_now S C root n), md := h.ma.congr (fun n => by rw [commC_pages]), root := rfl, seq := by show C.seq + 1 ≤ _; have := h.seq; omega, lps := by have := h.lps; omega, lqs := by have := h.lps; omega }
/-- The power went within it. -/
theorem CrS.died (h : CrS w0 w i pb db va ps vd qs rt F G D S C) (hd : DkC w0 w' db G' D' C) (hm : Moves (fun k => F k ∨ G k) (fun k => F' k ∨ G' k) w w') (hi : i ≤ 60) : CrD w0 w' db vd qs rt G' D' C :=
  ⟨hd, h.two.rd.keeps hm.keeps (fun j hj hf => by
    rcases hf with hf | hf
    · exact (h.two.fd j hj).1 hf
    · exact (h.two.fd j hj).2 hf), fun k hk => (far_turn h.two.fd (fun k hk => (h.two.rd.blk k hk).2) hm k hk).2, h.md, h.root, Nat.le_trans h.lqs hi⟩
theorem CrS.abort (h : CrS w0 w i pb db va ps vd qs rt F G D S C) (hu : UpC w0 w' pb db F' G D S.clean C) (hm : Moves F F' w w') {w2 : World} (hr : PRow w2 w'.heap.size v qs) (hB : Below w'.heap.size w' w2) : CrS w0 w2 i pb db v qs vd qs rt F' G D S.clean C :=
  { h with two := (h.two.turn hu hm.left).newA hr hB, ma := h.md.congr (fun n => clean_now S C n), lps := h.lqs }
end
/-- The state as the loop's slots have it. -/
def CrE (w0 w : World) (i db : Nat) (s9 s11 s12 s14 : Value) : Prop :=
  (∃ (pb : Nat) (a11 : Option Addr) (c11 : Nat) (ps : List PageD) (a12 : Option Addr) (c12 : Nat) (qs : List PageD) (rt : List UInt8) (F G : Nat → Prop) (D : DiskS) (S : PgS) (C : Comm),
    s9 = .pointer (some ⟨pb, 0, none⟩) ∧ s11 = .slice a11 ps.length c11 ∧ s12 = .slice a12 qs.length c12 ∧ s14 = .string (strB rt) ∧ CrS w0 w i pb db (.slice a11 ps.length c11) ps (.slice a12 qs.length c12) qs rt F G D S C) ∨
  (∃ (a12 : Option Addr) (c12 : Nat) (qs : List PageD) (rt : List UInt8) (G : Nat → Prop) (D : DiskS) (C : Comm),
    s12 = .slice a12 qs.length c12 ∧ s14 = .string (strB rt) ∧ D.dead = true ∧ CrD w0 w db (.slice a12 qs.length c12) qs rt G D C)
/-- .. and behind the loop. -/
def CrX (w0 w : World) (db : Nat) (s12 s14 : Value) : Prop :=
  ∃ (a12 : Option Addr) (c12 : Nat) (qs : List PageD) (rt : List UInt8) (G : Nat → Prop) (D : DiskS) (C : Comm),
    s12 = .slice a12 qs.length c12 ∧ s14 = .string (strB rt) ∧ CrD w0 w db (.slice a12 qs.length c12) qs rt G D C
theorem CrS.pack {w0 w : World} {i pb db : Nat} {va vd : Value} {ps qs : List PageD} {rt : List UInt8} {F G : Nat → Prop} {D : DiskS} {S : PgS} {C : Comm} (h : CrS w0 w i pb db va ps vd qs rt F G D S C) : CrE w0 w i db (.pointer (some ⟨pb, 0, none⟩)) va vd (.string (strB rt)) := by
  obtain ⟨a11, c11, rfl⟩ := h.two.ra.len
  obtain ⟨a12, c12, rfl⟩ := h.two.rd.len
  exact .inl ⟨pb, a11, c11, ps, a12, c12, qs, rt, F, G, D, S, C, rfl, rfl, rfl, rfl, h⟩
theorem CrD.pack {w0 w : World} {db : Nat} {vd : Value} {qs : List PageD} {rt : List UInt8} {G : Nat → Prop} {D : DiskS} {C : Comm} (h : CrD w0 w db vd qs rt G D C) : CrX w0 w db vd (.string (strB rt)) := by
  obtain ⟨a12, c12, rfl⟩ := h.rd.len
  exact ⟨a12, c12, qs, rt, G, D, C, rfl, rfl, h⟩
theorem CrD.dies {w0 w : World} {i db : Nat} {vd s9 s11 : Value} {qs : List PageD} {rt : List UInt8} {G : Nat → Prop} {D : DiskS} {C : Comm} (h : CrD w0 w db vd qs rt G D C) (hd : D.dead = true) : CrE w0 w i db s9 s11 vd (.string (strB rt)) := by
  obtain ⟨a12, c12, rfl⟩ := h.rd.len
  exact .inr ⟨a12, c12, qs, rt, G, D, C, rfl, rfl, hd, h⟩
/-- The call's bytes lie apart from pager and disk. -/
theorem CAt.farZ {w0 w : World} {F G : Nat → Prop} {va vd : Value} {cb : Nat} {q : CallD} (h : CAt w0 w F G va vd cb q) (hF : ∀ k, F k ∨ G k → w0.heap.size ≤ k) : q.bs = [] ∨ ∀ k, q.v.ownBlock = some k → ¬ F k ∧ ¬ G k := by
  rcases h.ok.bs with hr | ⟨e, _⟩
  · exact .inr (fun k hk => ⟨fun hf => by have := hF k (.inl hf); have := hr.blk k hk; omega, fun hf => by have := hF k (.inr hf); have := hr.blk k hk; omega⟩)
  · exact .inl e
end Go.Proofs.Ytjbomdhlfjcgmaa
