/-
  package pager: Commit.
-/
import Derived.Test.YtjbomdhlfjcgmaaPgY
namespace Go.Proofs.Ytjbomdhlfjcgmaa
set_option linter.unusedSimpArgs false
set_option linter.unusedVariables false
open Go.RowKit

theorem infoBool : (Try.prog.info? 4).map (fun i => (i.zero, i.size, i.bytes)) = some (some (.bool false), 1, 1) := by kernel_rfl
/-- Bools of the call's own, that may be written. -/
def OwnBools (w : World) (base g c N : Nat) (p : Nat → Bool) : Prop := base ≤ g ∧ g < w.heap.size ∧ N ≤ c ∧ (∀ i, i < N → w.cell? ⟨g, i, none⟩ = some (.bool (p i))) ∧ ∀ i, w.frozen? ⟨g, i, none⟩ = false
theorem OwnBools.bools {w : World} {base g c N : Nat} {p : Nat → Bool} (h : OwnBools w base g c N p) : Bools w (.slice (some ⟨g, 0, none⟩) N c) p N := ⟨g, c, rfl, h.2.2.1, h.2.1, h.2.2.2.1⟩
theorem OwnBools.stay {w w' : World} {base g c N : Nat} {p : Nat → Bool} (h : OwnBools w base g c N p) (hb : w'.heap[g]? = w.heap[g]?) (hs : w.heap.size ≤ w'.heap.size) : OwnBools w' base g c N p :=
  ⟨h.1, Nat.lt_of_lt_of_le h.2.1 hs, h.2.2.1, fun i hi => (World.cell?_of_block hb).trans (h.2.2.2.1 i hi), fun i => (World.frozen?_of_block hb).trans (h.2.2.2.2 i)⟩
theorem OwnBools.congr {w : World} {base g c N : Nat} {p q : Nat → Bool} (h : OwnBools w base g c N p) (e : ∀ i, i < N → p i = q i) : OwnBools w base g c N q := ⟨h.1, h.2.1, h.2.2.1, fun i hi => by rw [← e i hi]; exact h.2.2.2.1 i hi, h.2.2.2.2⟩
theorem OwnBools.set {w : World} {base g c N : Nat} {p : Nat → Bool} (h : OwnBools w base g c N p) (n : Nat) (hn : n < N) (b : Bool) : OwnBools (w.setCell ⟨g, n, none⟩ (.bool b)) base g c N (fun k => if k = n then b else p k) := by
  refine ⟨h.1, by simpa [World.setCell] using h.2.1, h.2.2.1, fun i hi => ?_, fun i => by rw [World.frozen?_setCell]; exact h.2.2.2.2 i⟩
  by_cases e : i = n
  · subst e
    rw [show (fun k => if k = i then b else p k) i = b from if_pos rfl]
    exact cell_set_same (h.2.2.2.1 i hi)
  · show _ = some (Value.bool (if i = n then b else p i))
    rw [if_neg e, cell_set_ne (fun e2 => e (by cases e2; rfl))]
    exact h.2.2.2.1 i hi

def CloneB (w : World) (N : Nat) (p : Nat → Bool) (e : Ending) (w' : World) : Prop := ∃ g c, e = .returned (.slice (some ⟨g, 0, none⟩) N c) ∧ OwnBools w' w.heap.size g c N p ∧ Below w.heap.size w w'

set_option maxHeartbeats 800000 in
set_option maxRecDepth 100000 in
theorem clone_bools (tb c N : Nat) (p : Nat → Bool) (w : World) (h : Bools w (.slice (some ⟨tb, 0, none⟩) N c) p N) (h0 : 0 < N) (hN : N ≤ 16384) :
    Calls Try.prog 35 #[.slice (some ⟨tb, 0, none⟩) N c] w (CloneB w N p) := by
  obtain ⟨i0, hi, hz0, hz1, hz2⟩ := info_parts infoBool
  have q28 : ∀ (w : World) (a : Option Addr) (n c n' c' : Nat), (binOp .eql 75 (.slice a n c) (.slice none n' c')).run Try.prog w = .ok (.bool a.isNone) w := fun w a n c n' c' => Lib.run_eql_slice_nil w _ _ a n c n' c' Try.underlying75
  obtain ⟨tb', c', e, hc, hlt, hx⟩ := h
  cases e
  have HX := Lib.hid hx
  have HN := Lib.hid (And.intro h0 (And.intro hN hc))
  clear hx h0 hN hc
  go_enter Try.func35, Try.ntmps35
  go_wp2_with (at_builtin; refine wpList_append_own _ rfl _ _ 75 rfl w.heap.size 4 i0 (.bool false) 1 1 Try.underlying75 hi hz0 hz1 hz2 rfl (by decide) _ _ _ rfl (World.ownsRow_made w #[] 0 (Nat.le_refl _) (Nat.zero_le _) rfl) ⟨tb, 0, none⟩ N c ((List.range N).map fun i => Value.bool (p i)) rfl ?qc1 ?qc2 ?qc3 ?qc4 ?qc5 ?qc6 ?_)
  case qc1 => simp
  case qc2 =>
    intro j u hj
    have hjn : j < N := by
      have := (List.getElem?_eq_some_iff.1 hj).1
      simpa using this
    rw [Addr.add_lit, Nat.zero_add]
    refine Lib.cell?_alloc_some _ ?_
    rw [List.getElem?_map, List.getElem?_range hjn] at hj
    cases hj
    exact HX.out j hjn
  case qc3 =>
    intro u hu
    obtain ⟨i, _, rfl⟩ := List.mem_map.1 hu
    rfl
  case qc4 => have := HN.out.2.1; unfold maxLen; omega
  case qc5 => have := HN.out.2.1; omega
  case qc6 => simp
  intro v' w1 hown hgrow hnil
  have hB : Below w.heap.size w w1 := ((Below.refl _ w).alloc (Nat.le_refl _) _).grown hgrow (by simp) (by intro k hk; simp [Value.ownBlock] at hk; omega)
  have F : Hid (CloneB w N p (.returned v') w1) := Lib.hid (by
    have hown' : w1.ownsRow w.heap.size 4 1 v' N ((List.range N).map fun i => Value.bool (p i)) := by simpa using hown
    rcases hown'.2 with ⟨_, hl⟩ | ⟨g, cap, cur, rfl, hg, hgg, h1, h2, h3, h4⟩
    · have := HN.out.1; omega
    · refine ⟨g, cap, rfl, ⟨hg, (Array.getElem?_eq_some_iff.1 hgg).1, h1, fun i hi => ?_, fun i => by unfold World.frozen?; rw [hgg]; simp⟩, hB⟩
      have := hown'.cells (g := g) rfl i (.bool (p i)) (by rw [List.getElem?_map, List.getElem?_range hi]; rfl)
      rwa [Addr.add_lit, Nat.zero_add] at this)
  clear hown hgrow hnil hB
  go_wp2
  go_ret
  exact F.out

/-- What is taken behind a commit. -/
def tkOf (S : PgS) (k : Nat) : Bool := (S.taken k || (S.fresh k).isSome) && !S.freed k
/-- The pager behind a commit. -/
def PgS.done (S : PgS) (root : List UInt8) : PgS := ⟨S.blocks, S.seq + 1, root, tkOf S, cnt (tkOf S) S.blocks, fun _ => none, fun _ => false, firstN S.blocks⟩
theorem tk_cnt {S : PgS} (wf : PgWf S) : cnt (tkOf S) S.blocks + cnt S.freed S.blocks = S.many + cnt (fun k => (S.fresh k).isSome) S.blocks := by
  rw [wf.many]
  have h1 := cnt_or (p := S.taken) (q := fun k => (S.fresh k).isSome) (r := fun k => S.taken k || (S.fresh k).isSome) (fun _ => rfl) (fun n hn => by
    cases hf : S.fresh n with
    | none => rfl
    | some zs => have := (wf.fresh n zs hf).2.2.1; rw [hn] at this; cases this) S.blocks
  have h2 := cnt_or (p := tkOf S) (q := S.freed) (r := fun k => S.taken k || (S.fresh k).isSome) (fun n => by
    unfold tkOf
    cases hf : S.freed n with
    | false => simp
    | true => simp [wf.freed n hf]) (fun n hn => by
    unfold tkOf at hn
    simp at hn
    exact hn.2) S.blocks
  omega

/-- The rounds over a map, as sets. -/
def orKs (p : Nat → Bool) (ks : List Int) (k : Nat) : Bool := p k || decide ((k : Int) ∈ ks)
def notKs (p : Nat → Bool) (ks : List Int) (k : Nat) : Bool := p k && !decide ((k : Int) ∈ ks)
theorem orKs_snoc (p : Nat → Bool) (ks : List Int) (n : Nat) : ∀ k, (if k = n then true else orKs p ks k) = orKs p (ks ++ [(n : Int)]) k := fun k => by
  unfold orKs
  by_cases e : k = n
  · subst e; simp
  · have e2 : (k : Int) ≠ (n : Int) := by omega
    simp [e, e2]
theorem notKs_snoc (p : Nat → Bool) (ks : List Int) (n : Nat) : ∀ k, (if k = n then false else notKs p ks k) = notKs p (ks ++ [(n : Int)]) k := fun k => by
  unfold notKs
  by_cases e : k = n
  · subst e; simp
  · have e2 : (k : Int) ≠ (n : Int) := by omega
    simp [e, e2]
theorem ks_len {α : Type} (g : Nat → Option α) (N : Nat) (ks : List Int) (hnd : ks.Nodup) (hm : ∀ x : Int, x ∈ ks ↔ ∃ k : Nat, x = k ∧ k < N ∧ (g k).isSome = true) : ks.length = cnt (fun k => (g k).isSome) N := by
  have := congrArg List.length (mergeSort_keys g N ks hnd hm)
  simpa [keysOf_length] using this

/-- A commit. -/
def CommitPost (w : World) (pb db : Nat) (F G : Nat → Prop) (D : DiskS) (S : PgS) (root : List UInt8) (e : Ending) (w' : World) : Prop :=
  ∃ F' G', e = .returned (.int .i64 (D.all (layL S (tkOf S) root)).2) ∧ PgOn w' pb db F' G' (D.all (layL S (tkOf S) root)).1 (if (D.all (layL S (tkOf S) root)).2 = 0 then S.done root else S) ∧ Moves (fun k => F k ∨ G k) (fun k => F' k ∨ G' k) w w'

theorem LayEnd.moves {W wr : World} {pb db : Nat} {F G : Nat → Prop} {S : PgS} {D' : DiskS} (h : LayEnd W wr pb db F G S D') (hp : F pb) : ∃ G', PgOn wr pb db F G' D' S ∧ Moves (fun k => F k ∨ G k) (fun k => F k ∨ G' k) W wr := by
  obtain ⟨G', h1, h2, h3, h4⟩ := h
  exact ⟨G', h1, h4.mono (fun k _ e => by rcases e with e | e; exact .inr e; rw [e]; exact .inl hp), fun k hk => hk.imp id (h2 k), fun k hk => by
    rcases hk with hk | hk
    · exact .inl (.inl hk)
    · rcases h3 k hk with h | h
      · exact .inl (.inr h)
      · exact .inr h⟩

/-- The pager's cells, committed, ahead of Abort. -/
theorem commit_pre {w6 w8 w9 : World} {pb db mb fb g gc : Nat} {F G : Nat → Prop} {D : DiskS} {S S1 : PgS} {v5 v6 v : Value} {root : List UInt8} {tk : Nat → Bool} {base : Nat} (hon : PgOn w6 pb db F G D S) (c : PgCells w6 pb db S v5 v6 mb fb) (hob : OwnBools w6 base g gc S.blocks tk) (hg : g ≠ pb)
    (hB : Below (w6.setCell ⟨pb, 4, none⟩ (.int .i64 ((S.seq : Int) + 1))).heap.size (w6.setCell ⟨pb, 4, none⟩ (.int .i64 ((S.seq : Int) + 1))) w8) (hr : Reads w8 v root) (hv : ∀ k, v.ownBlock = some k → w6.heap.size ≤ k) (m : Nat)
    (hS : S1 = { S with seq := S.seq + 1, root := root, taken := tk, many := m })
    (hw : w9 = ((w8.setCell ⟨pb, 5, none⟩ v).setCell ⟨pb, 6, none⟩ (.slice (some ⟨g, 0, none⟩) S.blocks gc)).setCell ⟨pb, 7, none⟩ (.int .i64 (m : Int))) :
    PgPre w9 pb db (fun k => F k ∨ k = g ∨ v.ownBlock = some k) S1 v (.slice (some ⟨g, 0, none⟩) S.blocks gc) ∧ Keeps (fun k => k = pb) w6 w9 := by
  have hpb := hon.pg.lt
  have hss : ∀ (w : World) (a : Addr) (v : Value), (w.setCell a v).heap.size = w.heap.size := fun w a v => by simp [World.setCell]
  have hs8 : w6.heap.size ≤ w8.heap.size := by have := hB.size; rw [hss] at this; exact this
  have hs9 : w9.heap.size = w8.heap.size := by rw [hw, hss, hss, hss]
  have hc8 : ∀ o, o ≠ 4 → w8.cell? ⟨pb, o, none⟩ = w6.cell? ⟨pb, o, none⟩ := fun o ho => (hB.cell (p := ⟨pb, o, none⟩) (by rw [hss]; exact hpb)).trans (cell_set_ne (fun e => ho (by cases e; rfl)))
  have hc4 : w8.cell? ⟨pb, 4, none⟩ = some (.int .i64 ((S.seq : Int) + 1)) := (hB.cell (p := ⟨pb, 4, none⟩) (by rw [hss]; exact hpb)).trans (cell_set_same c.c4)
  have hco : ∀ o, o ≠ 5 → o ≠ 6 → o ≠ 7 → w9.cell? ⟨pb, o, none⟩ = w8.cell? ⟨pb, o, none⟩ := fun o h1 h2 h3 => by
    rw [hw, cell_set_ne (fun e => h3 (by cases e; rfl)), cell_set_ne (fun e => h2 (by cases e; rfl)), cell_set_ne (fun e => h1 (by cases e; rfl))]
  have hfz : ∀ o, w9.frozen? ⟨pb, o, none⟩ = false := fun o => by
    rw [hw]
    simp only [World.frozen?_setCell]
    rw [hB.frozen (p := ⟨pb, o, none⟩) (by rw [hss]; exact hpb)]
    simp only [World.frozen?_setCell]
    exact c.frz o
  have hbk : ∀ k, k < w6.heap.size → k ≠ pb → w9.heap[k]? = w6.heap[k]? := fun k h1 h2 => by
    rw [hw, Below.heap_setCell _ _ _ _ h2, Below.heap_setCell _ _ _ _ h2, Below.heap_setCell _ _ _ _ h2, hB.block k (by rw [hss]; exact h1), Below.heap_setCell _ _ _ _ h2]
  have hbn : ∀ k, w6.heap.size ≤ k → w9.heap[k]? = w8.heap[k]? := fun k h1 => by
    have h2 : k ≠ pb := by omega
    rw [hw, Below.heap_setCell _ _ _ _ h2, Below.heap_setCell _ _ _ _ h2, Below.heap_setCell _ _ _ _ h2]
  subst hS
  refine ⟨⟨(hco 0 (by omega) (by omega) (by omega)).trans ((hc8 0 (by omega)).trans c.c0), (hco 4 (by omega) (by omega) (by omega)).trans (hc4.trans rfl), ?_, ?_, ?_, ⟨_, (hco 8 (by omega) (by omega) (by omega)).trans ((hc8 8 (by omega)).trans c.c8)⟩,
    ⟨_, (hco 9 (by omega) (by omega) (by omega)).trans ((hc8 9 (by omega)).trans c.c9)⟩, ⟨_, (hco 10 (by omega) (by omega) (by omega)).trans ((hc8 10 (by omega)).trans c.c10)⟩, c.c11.imp fun _ e => (hco 11 (by omega) (by omega) (by omega)).trans ((hc8 11 (by omega)).trans e),
    c.c12.imp fun _ e => (hco 12 (by omega) (by omega) (by omega)).trans ((hc8 12 (by omega)).trans e), hfz, hr.stay (fun k hk => hbn k (hv k hk)) (by omega), fun k hk => ⟨.inr (.inr hk), by have := hv k hk; omega⟩, ?_, fun k hk => ?_, .inl hon.pg.own, ?_⟩, ?_⟩
  · rw [hw, cell_set_ne (fun e => by cases e), cell_set_ne (fun e => by cases e)]
    exact cell_set_same ((hc8 5 (by omega)).trans c.c5)
  · rw [hw, cell_set_ne (fun e => by cases e)]
    exact cell_set_same ((cell_set_ne (fun e => by cases e)).trans ((hc8 6 (by omega)).trans c.c6))
  · rw [hw]
    exact cell_set_same ((cell_set_ne (fun e => by cases e)).trans ((cell_set_ne (fun e => by cases e)).trans ((hc8 7 (by omega)).trans c.c7)))
  · exact hob.bools.stay (fun k hk hv => hbk k hk (by cases hv; exact hg)) (by omega)
  · cases hk
    exact ⟨.inr (.inl rfl), hg⟩
  · rintro k (hk | hk | hk)
    · have := hon.pg.lim k hk; omega
    · have := hob.2.1; omega
    · have := hr.blk k hk; omega
  · refine ⟨?_, ?_, ?_, by omega, fun k h1 h2 => hbk k h1 h2⟩
    · rw [hw]; exact hB.os
    · rw [hw]; exact hB.tape
    · rw [hw]; exact hB.output

theorem below_only {w w1 w2 : World} {b : Nat} (h : Below w.heap.size w w1) (k : Only b w1 w2) (hb : w.heap.size ≤ b) : Below w.heap.size w w2 :=
  ⟨k.1.trans h.os, k.2.1.trans h.tape, k.2.2.1.trans h.output, by rw [k.2.2.2.1]; exact h.size, fun j hj => (k.2.2.2.2 j (by omega)).trans (h.block j hj)⟩
attribute [local irreducible] DiskS.all DiskS.write layL tkOf orKs notKs
set_option maxHeartbeats 6400000 in
set_option maxRecDepth 100000 in
theorem pg_commit_ok {w : World} {pb db : Nat} {F G : Nat → Prop} {D : DiskS} {S : PgS} (h : PgOn w pb db F G D S) (wf : PgWf S) (hd : D.dead = false) (ra : Option Addr) (rc : Nat) (root : List UInt8) (hr : Reads w (.slice ra root.length rc) root) (hrl : root.length ≤ 64)
    (hrb : ∀ k, (Value.slice ra root.length rc).ownBlock = some k → ¬ F k ∧ ¬ G k) : Calls Try.prog 13 #[.pointer (some ⟨pb, 0, none⟩), .slice ra root.length rc] w (CommitPost w pb db F G D S root) := by
  obtain ⟨v5, v6, mb, fb, c, m⟩ := h.pg.ex
  obtain ⟨tb, tc, e6, htc, htl, hcell⟩ := m.taken
  subst e6
  have c0 := c.c0
  have c6 := c.c6
  have c7 := c.c7
  have HS := Lib.hid (And.intro h (And.intro wf (And.intro hd (And.intro c m))))
  have HR := Lib.hid (And.intro hr (And.intro hrl hrb))
  obtain ⟨f1, hm1, h11, h12⟩ := m.fresh.ex
  obtain ⟨f2, hm2, h21, h22⟩ := m.freed.ex
  have HK1 : Hid (∀ x, (f1 x).isSome = true ↔ ∃ k : Nat, x = k ∧ k < S.blocks ∧ (S.fresh k).isSome = true) := Lib.hid fun x => by
    constructor
    · intro hx
      obtain ⟨v, hv⟩ := Option.isSome_iff_exists.1 hx
      obtain ⟨h0, zs, hg, _⟩ := h11 x v hv
      exact ⟨x.toNat, (Int.toNat_of_nonneg h0).symm, m.fresh.lt _ _ hg, by rw [hg]; rfl⟩
    · rintro ⟨k, rfl, _, hk⟩
      obtain ⟨zs, hz⟩ := Option.isSome_iff_exists.1 hk
      exact h12 k zs hz
  have HK2 : Hid (∀ x, (f2 x).isSome = true ↔ ∃ k : Nat, x = k ∧ k < S.blocks ∧ S.freed k = true) := Lib.hid fun x => by
    constructor
    · intro hx
      obtain ⟨v, hv⟩ := Option.isSome_iff_exists.1 hx
      obtain ⟨h0, hq⟩ := h21 x v hv
      exact ⟨x.toNat, (Int.toNat_of_nonneg h0).symm, m.freed.lt _ hq, hq⟩
    · rintro ⟨k, rfl, _, hk⟩
      exact h22 k hk
  have HM := Lib.hid (And.intro hm1 hm2)
  have hN : (S.blocks : Int) ≤ 16384 := by have := wf.hi; omega
  have hmany : (S.many : Int) ≤ 16384 := by have := cnt_le S.taken S.blocks; have := wf.many; have := wf.hi; omega
  have hrl' : (root.length : Int) ≤ 64 := by omega
  clear hm1 h11 h12 hm2 h21 h22 hr hrl hrb c m h wf hd hcell htc htl
  go_enter Try.func13, Try.ntmps13
  go_wp2_with (first
    | (go_at_call 22; go_must (refine (dk_dead HS.out.1.dk).mono ?_; rw [HS.out.2.2.1]; rintro e w' ⟨rfl, rfl⟩))
    | (go_at_call 35; go_must (refine (clone_bools tb tc S.blocks S.taken w HS.out.2.2.2.2.taken (by have := HS.out.2.1.lo; omega) HS.out.2.1.hi).mono ?_; rintro e w1 ⟨g, gc, rfl, hob, hB1⟩; have k7 : w1.cell? ⟨pb, 7, none⟩ = some (.int .i64 S.many) := (hB1.cell (p := ⟨pb, 7, none⟩) HS.out.1.pg.lt).trans HS.out.2.2.2.1.c7; have k8 : w1.cell? ⟨pb, 8, none⟩ = some (.map (some mb)) := (hB1.cell (p := ⟨pb, 8, none⟩) HS.out.1.pg.lt).trans HS.out.2.2.2.1.c8); have X1 := Lib.hid (And.intro hob hB1); clear hob hB1)
    | (at_range; go_must (refine wpList_rangeI _ rfl _ 57 rfl 3 22 Try.underlying57 mb _ f1 rfl (HM.out.1.below X1.out.2) ?_; intro w2 hit hB2 hs2); have X2 := Lib.hid (And.intro hit (And.intro hB2 hs2)); clear hit hB2 hs2))
  go_frame
  clear k7 k8
  have HG1 : Hid (g < w1.heap.size ∧ mb < w.heap.size ∧ fb < w.heap.size ∧ pb < w.heap.size ∧ w.heap.size ≤ g ∧ w.heap.size ≤ w1.heap.size) := Lib.hid ⟨X1.out.1.2.1, HM.out.1.lt, HM.out.2.lt, HS.out.1.pg.lt, X1.out.1.1, X1.out.2.size⟩
  go_loopg [6, 7, 34, 35] (cnt (fun k => (S.fresh k).isSome) S.blocks) (fun G' s6 s7 s34 s35 wr => ∃ (ks : List Int) (ct : Nat), ct ≤ G' ∧ s6 = .int .i64 ((S.many : Int) + (ks.length : Int)) ∧ IterI wr mb w1.heap.size f1 (cnt (fun k => (S.fresh k).isSome) S.blocks) ks ct ∧
    OwnBools wr w.heap.size g gc S.blocks (orKs S.taken ks) ∧ Below w.heap.size w wr ∧ ks.length + ct ≤ cnt (fun k => (S.fresh k).isSome) S.blocks)
  case atStart =>
    refine ⟨[], _, Nat.le_refl _, by simp, X2.out.1, ?_, X1.out.2.trans (X2.out.2.1.mono X1.out.2.size), by simp⟩
    exact (X1.out.1.stay (X2.out.2.1.block g HG1.out.1) X2.out.2.1.size).congr (fun i _ => by unfold orKs; simp)
  case round =>
    obtain ⟨ks, ct, hct, rfl, hit, hob, hB, hkl⟩ := hrel
    have HX := Lib.hid (And.intro hct (And.intro hit (And.intro hob (And.intro hB hkl))))
    have hkl2 : (ks.length : Int) ≤ 16384 := by have := cnt_le (fun k => (S.fresh k).isSome) S.blocks; omega
    clear hct hit hob hB hkl
    go_wp2_with (at_next; refine wpList_nextI _ rfl _ rfl mb w1.heap.size _ f1 ks ct rfl HX.out.2.1 ?_ ?_)
    · intro hall
      have HP : Hid (∀ x : Int, x ∈ ks ↔ ∃ k : Nat, x = k ∧ k < S.blocks ∧ (S.fresh k).isSome = true) := Lib.hid (fun x => by
        rw [← HK1.out x]
        exact ⟨fun hx => HX.out.2.1.mem hx, hall x⟩)
      have hkn := ks_len S.fresh S.blocks ks HX.out.2.1.nodup HP.out
      obtain ⟨nf, hnf⟩ : ∃ nf, nf = cnt (fun k => (S.fresh k).isSome) S.blocks := ⟨_, rfl⟩
      rw [← hnf] at hkn
      have HNF := Lib.hid hnf
      have hnf2 : (nf : Int) ≤ 16384 := by have := cnt_le (fun k => (S.fresh k).isSome) S.blocks; omega
      have HO : Hid (OwnBools wr w.heap.size g gc S.blocks (fun k => S.taken k || (S.fresh k).isSome) ∧ Below w.heap.size w wr) := Lib.hid ⟨HX.out.2.2.1.congr (fun i hi => by
        unfold orKs
        congr 1
        cases hs : (S.fresh i).isSome with
        | true => simp; exact (HP.out i).2 ⟨i, rfl, hi, hs⟩
        | false =>
          simp
          intro hx
          obtain ⟨k, hk, _, hk2⟩ := (HP.out i).1 hx
          have : k = i := by omega
          subst this
          rw [hs] at hk2
          cases hk2), HX.out.2.2.2.1⟩
      rw [hkn]
      clear hall hnf hkn hkl2
      have k9 : wr.cell? ⟨pb, 9, none⟩ = some (.map (some fb)) := (HO.out.2.cell (p := ⟨pb, 9, none⟩) HS.out.1.pg.lt).trans HS.out.2.2.2.1.c9
      clear HP
      obtain ⟨wA, rfl⟩ : ∃ x : World, x = wr := ⟨_, rfl⟩
      go_wp2_with (at_range; go_must (refine wpList_rangeI _ rfl _ 76 rfl 3 3 Try.underlying76 fb _ f2 rfl (HM.out.2.below HO.out.2) ?_; intro w4 hit hB4 hs4); have X4 := Lib.hid (And.intro hit (And.intro hB4 hs4)); clear hit hB4 hs4)
      go_frame
      clear k9
      have HG2 : Hid (g < wA.heap.size ∧ w.heap.size ≤ wA.heap.size) := Lib.hid ⟨HO.out.1.2.1, HO.out.2.size⟩
      go_loopg [6, 8, 48, 49] (cnt S.freed S.blocks) (fun G' s6 s8 s48 s49 wr => ∃ (ks : List Int) (ct : Nat), ct ≤ G' ∧ s6 = .int .i64 ((S.many : Int) + (nf : Int) - (ks.length : Int)) ∧ IterI wr fb wA.heap.size f2 (cnt S.freed S.blocks) ks ct ∧
        OwnBools wr w.heap.size g gc S.blocks (notKs (fun k => S.taken k || (S.fresh k).isSome) ks) ∧ Below w.heap.size w wr ∧ ks.length + ct ≤ cnt S.freed S.blocks)
      case atStart =>
        refine ⟨[], _, Nat.le_refl _, by simp, X4.out.1, ?_, HO.out.2.trans (X4.out.2.1.mono HO.out.2.size), by simp⟩
        exact (HO.out.1.stay (X4.out.2.1.block g HG2.out.1) X4.out.2.1.size).congr (fun i _ => by unfold notKs; simp)
      case round =>
        obtain ⟨ks2, ct, hct, rfl, hit, hob, hB, hkl⟩ := hrel
        have HZ := Lib.hid (And.intro hct (And.intro hit (And.intro hob (And.intro hB hkl))))
        have hkl2 : (ks2.length : Int) ≤ 16384 := by have := cnt_le S.freed S.blocks; omega
        clear hct hit hob hB hkl
        go_wp2_with (at_next; refine wpList_nextI _ rfl _ rfl fb wA.heap.size _ f2 ks2 ct rfl HZ.out.2.1 ?_ ?_)
        · intro hall
          have HP : ∀ x : Int, x ∈ ks2 ↔ ∃ k : Nat, x = k ∧ k < S.blocks ∧ S.freed k = true := fun x => by
            rw [← HK2.out x]
            exact ⟨fun hx => HZ.out.2.1.mem hx, hall x⟩
          have hkn : ks2.length = cnt S.freed S.blocks := by
            have := ks_len (fun k => if S.freed k then some () else none) S.blocks ks2 HZ.out.2.1.nodup (fun x => by
              rw [HP x]
              constructor
              · rintro ⟨k, h1, h2, h3⟩; exact ⟨k, h1, h2, by simp [h3]⟩
              · rintro ⟨k, h1, h2, h3⟩
                refine ⟨k, h1, h2, ?_⟩
                cases hq : S.freed k with
                | true => rfl
                | false => simp [hq] at h3)
            rw [this]
            exact cnt_congr _ (fun n _ => by cases hq : S.freed n <;> simp)
          have hmm : (S.many : Int) + (nf : Int) - (ks2.length : Int) = ((cnt (tkOf S) S.blocks : Nat) : Int) := by
            have h1 := tk_cnt HS.out.2.1
            have h2 := HNF.out
            rw [hkn]
            omega
          have HOB : Hid (OwnBools wr w.heap.size g gc S.blocks (tkOf S) ∧ Below w.heap.size w wr) := Lib.hid ⟨HZ.out.2.2.1.congr (fun i hi => by
            unfold notKs tkOf
            congr 1
            congr 1
            cases hs : S.freed i with
            | true => simp; exact (HP i).2 ⟨i, rfl, hi, hs⟩
            | false =>
              simp
              intro hx
              obtain ⟨k, hk, _, hk2⟩ := (HP i).1 hx
              have : k = i := by omega
              subst this
              rw [hs] at hk2
              cases hk2), HZ.out.2.2.2.1⟩
          rw [hmm]
          clear hall HP hkn hmm hkl2
          obtain ⟨nm, hnm⟩ : ∃ nm, nm = cnt (tkOf S) S.blocks := ⟨_, rfl⟩
          rw [← hnm]
          have HNM := Lib.hid hnm
          clear hnm
          have LH : Hid (Bools wr (.slice (some ⟨g, 0, none⟩) S.blocks gc) (tkOf S) S.blocks ∧ (¬ G g ∧ g ≠ pb) ∧ (∀ k, S.blocks ≤ k → tkOf S k = false) ∧ Reads wr (.slice ra root.length rc) root ∧ (∀ k, (Value.slice ra root.length rc).ownBlock = some k → ¬ G k ∧ k ≠ pb)) := Lib.hid
            ⟨HOB.out.1.bools, ⟨fun e => by have := HS.out.1.dk.lim g e; have := HG1.out; omega, by have := HG1.out; omega⟩, fun k hk => by
              unfold tkOf
              have h1 : S.taken k = false := by cases ht : S.taken k with
                | false => rfl
                | true => have := (HS.out.2.1.taken k ht).2; omega
              have h2 : S.fresh k = none := by cases hf : S.fresh k with
                | none => rfl
                | some zs => have := (HS.out.2.1.fresh k zs hf).2.1; omega
              simp [h1, h2], HR.out.1.below HOB.out.2, fun k hk => ⟨(HR.out.2.2 k hk).2, fun e => (HR.out.2.2 k hk).1 (by rw [e]; exact HS.out.1.pg.own)⟩⟩
          go_upto_region 18 with (go_at_call 36; go_must (refine (pg_lay (HS.out.1.below HOB.out.2) HS.out.2.1 g gc (tkOf S) LH.out.1 LH.out.2.1 LH.out.2.2.1 ra rc root LH.out.2.2.2.1 LH.out.2.2.2.2 HR.out.2.1).mono ?_; rintro e w6 ⟨rfl, hend⟩); have P6 := Lib.hid hend; clear hend)
          obtain ⟨G', hon, hup, hnw, hkk⟩ := P6.out
          have HL6 := Lib.hid (And.intro hon (And.intro hup (And.intro hnw hkk)))
          have hm6 : Moves (fun k => F k ∨ G k) (fun k => F k ∨ G' k) w w6 := (Moves.of_below HOB.out.2).trans ⟨hkk.mono (fun k _ e => by rcases e with e | e; exact .inr e; rw [e]; exact .inl HS.out.1.pg.own), fun k hk => hk.imp id (hup k), fun k hk => by
            rcases hk with hk | hk
            · exact .inl (.inl hk)
            · rcases hnw k hk with h | h
              · exact .inl (.inr h)
              · exact .inr h⟩
          have HM6 := Lib.hid hm6
          clear hm6 hup hnw hkk
          obtain ⟨v5', v6', mb', fb', c', m'⟩ := hon.pg.ex
          have HC6 := Lib.hid c'
          by_cases he : (D.all (layL S (tkOf S) root)).2 = 0
          · have HE := Lib.hid he
            have he1 : ((D.all (layL S (tkOf S) root)).2 != 0) = false := by simp [he]
            have k4 := c'.c4
            have z4 := c'.frz 4
            have hsq : (S.seq : Int) < 1000000000000000000 := by have := HS.out.2.1.seq; omega
            have hss : ∀ (w : World) (a : Addr) (v : Value), (w.setCell a v).heap.size = w.heap.size := fun w a v => by simp [World.setCell]
            have HSS := Lib.hid hss
            have HR6 : Hid (Reads (w6.setCell ⟨pb, 4, none⟩ (.int .i64 ((S.seq : Int) + 1))) (.slice ra root.length rc) root) := Lib.hid ((HR.out.1.keeps HM6.out.keeps (fun k hk e => by
              rcases e with e | e
              · exact (HR.out.2.2 k hk).1 e
              · exact (HR.out.2.2 k hk).2 e)).keeps (F := fun k => k = pb) ((Keeps.refl _ w6).setCell _ _ (fun _ => rfl)) (fun k hk e => (HR.out.2.2 k hk).1 (by rw [e]; exact HS.out.1.pg.own)))
            have hpb6 : pb < w6.heap.size := hon.pg.lt
            have hob6 : OwnBools w6 w.heap.size g gc S.blocks (tkOf S) := HOB.out.1.stay (HL6.out.2.2.2.block g HOB.out.1.2.1 (fun e => by
              rcases e with e | e
              · exact LH.out.2.1.1 e
              · exact LH.out.2.1.2 e)) HL6.out.2.2.2.size
            have HOB6 := Lib.hid hob6
            have q5 := c'.c5
            have q6 := c'.c6
            have q7 := c'.c7
            have FZ : Hid (∀ o, (w6.setCell ⟨pb, 4, none⟩ (.int .i64 ((S.seq : Int) + 1))).frozen? ⟨pb, o, none⟩ = false) := Lib.hid (fun o => by rw [World.frozen?_setCell]; exact c'.frz o)
            clear c' m' hon he hss hob6
            go_upto_region 22 with (go_at_call 34; go_must (refine (clone_bytes _ root _ HR6.out (fits_of _ (by have := HR.out.2.1; omega))).mono ?_; rintro e w8 ⟨v', rfl, hv, hnew, hB8⟩; obtain ⟨a', cc', rfl⟩ := hv.len; have X8 := Lib.hid (And.intro hv (And.intro hnew hB8)); have k5 := (hB8.cell (p := ⟨pb, 5, none⟩) (by rw [HSS.out]; exact hpb6)).trans ((cell_set_ne (fun e => by cases e)).trans q5); have k6 := (hB8.cell (p := ⟨pb, 6, none⟩) (by rw [HSS.out]; exact hpb6)).trans ((cell_set_ne (fun e => by cases e)).trans q6); have k7 := (hB8.cell (p := ⟨pb, 7, none⟩) (by rw [HSS.out]; exact hpb6)).trans ((cell_set_ne (fun e => by cases e)).trans q7); have y5 := (hB8.frozen (p := ⟨pb, 5, none⟩) (by rw [HSS.out]; exact hpb6)).trans (FZ.out 5); have y6 := (hB8.frozen (p := ⟨pb, 6, none⟩) (by rw [HSS.out]; exact hpb6)).trans (FZ.out 6); have y7 := (hB8.frozen (p := ⟨pb, 7, none⟩) (by rw [HSS.out]; exact hpb6)).trans (FZ.out 7); clear hv hnew hB8))
            obtain ⟨w9, hw9⟩ : ∃ w9, w9 = ((w8.setCell ⟨pb, 5, none⟩ (.slice a' root.length cc')).setCell ⟨pb, 6, none⟩ (.slice (some ⟨g, 0, none⟩) S.blocks gc)).setCell ⟨pb, 7, none⟩ (.int .i64 (nm : Int)) := ⟨_, rfl⟩
            have PRE := commit_pre (w9 := w9) (S1 := { S with seq := S.seq + 1, root := root, taken := tkOf S, many := nm }) HL6.out.1 HC6.out HOB6.out LH.out.2.1.2 X8.out.2.2 X8.out.1 (fun k hk => by have := X8.out.2.1 k hk; rw [HSS.out] at this; exact this) nm rfl hw9
            have HPR : Hid (PgPre w9 pb db (fun k => F k ∨ k = g ∨ (Value.slice a' root.length cc').ownBlock = some k) { S with seq := S.seq + 1, root := root, taken := tkOf S, many := nm } (.slice a' root.length cc') (.slice (some ⟨g, 0, none⟩) S.blocks gc) ∧ Keeps (fun k => k = pb) w6 w9 ∧ DkAt w9 db G' (D.all (layL S (tkOf S) root)).1) :=
              Lib.hid ⟨PRE.1, PRE.2, HL6.out.1.dk.keeps PRE.2 (fun k hk e => HL6.out.1.npb (by rw [← e]; exact hk))⟩
            clear PRE k5 k6 k7 y5 y6 y7 q5 q6 q7 k4 z4
            rw [← hw9]
            clear hw9
            go_wp2_with (go_at_call 24; go_must (refine (pg_abort HPR.out.2.2 HPR.out.1 (by have := HL6.out.1.bl; exact this)).mono ?_; rintro e w10 ⟨rfl, hpa, hka⟩); have X10 := Lib.hid (And.intro hpa hka); clear hpa hka)
            go_ret
            have hk610 : Keeps (fun k => k = pb) w6 w10 := HPR.out.2.1.trans X10.out.2
            have hSd : (⟨S.blocks, S.seq + 1, root, tkOf S, nm, fun _ => none, fun _ => false, firstN S.blocks⟩ : PgS) = S.done root := by rw [HNM.out]; rfl
            have hvk : ∀ k, (Value.slice a' root.length cc').ownBlock = some k → w6.heap.size ≤ k := fun k hk => by have := X8.out.2.1 k hk; rw [HSS.out] at this; exact this
            have hsz9 : w6.heap.size ≤ w9.heap.size := HPR.out.2.1.size
            refine ⟨Two (fun k => F k ∨ k = g ∨ (Value.slice a' root.length cc').ownBlock = some k) w9, G', by rw [HE.out]; rfl, ?_, ?_⟩
            · rw [if_pos HE.out, ← hSd]
              refine ⟨HL6.out.1.dk.keeps hk610 (fun k hk e => HL6.out.1.npb (by rw [← e]; exact hk)), X10.out.1, HL6.out.1.bl, fun k hk hG => ?_⟩
              have hl := HL6.out.1.dk.lim k hG
              rcases hk with (hk | hk | hk) | hk | hk
              · exact HL6.out.1.dis k hk hG
              · rcases HL6.out.2.2.1 k hG with h | h
                · exact LH.out.2.1.1 (by rw [← hk]; exact h)
                · have := HOB.out.1.2.1; omega
              · have := hvk k hk; omega
              · omega
              · omega
            · refine ⟨HM6.out.keeps.trans' hk610 (fun j hj e => by rw [e]; exact .inl HS.out.1.pg.own), fun k hk => ?_, fun k hk => ?_⟩
              · rcases HM6.out.up k hk with h | h
                · exact .inl (.inl (.inl h))
                · exact .inr h
              · rcases hk with ((hk | hk | hk) | hk | hk) | hk
                · exact .inl (.inl hk)
                · exact .inr (by have := HG1.out; omega)
                · exact .inr (by have := hvk k hk; have := HM6.out.size; omega)
                · exact .inr (by have := HM6.out.size; omega)
                · exact .inr (by have := HM6.out.size; omega)
                · exact HM6.out.new k (.inr hk)
          · have he1 : ((D.all (layL S (tkOf S) root)).2 != 0) = true := by simpa using he
            have HE := Lib.hid he
            clear he c' m' hon
            go_wp2
            go_ret
            refine ⟨F, G', rfl, ?_, HM6.out⟩
            rw [if_neg HE.out]
            exact HL6.out.1
        · intro x v w5 ct1 hx hfx hwx hit1 hlt1 hon1 hen1
          obtain ⟨n, rfl, hnN, hns⟩ := (HK2.out x).1 (by rw [hfx]; rfl)
          have hgr : g ≠ wA.heap.size := by have := HG2.out.1; omega
          have HY := Lib.hid (And.intro hit1 (And.intro hlt1 (And.intro hon1 (HZ.out.2.2.1.stay (hon1.2.2.2.2 g hgr) (Nat.le_of_eq hon1.2.2.2.1.symm)))))
          have k1 := HY.out.2.2.2.2.2.2.1 n hnN
          have k2 := HY.out.2.2.2.2.2.2.2 n
          have hn1 : (n : Int) < (S.blocks : Int) := by omega
          have hn0 : (0 : Int) ≤ (n : Int) := by omega
          have HNN := Lib.hid hnN
          clear hx hfx hit1 hlt1 hon1 hns hnN hgr
          go_wp2
          go_roundg ct1
          case measure => have := HY.out.2.1; have := HZ.out.1; omega
          case rel =>
            refine ⟨ks2 ++ [(n : Int)], ct1, Nat.le_refl _, by simp; omega, ?_, ?_, ?_, by have := HY.out.2.1; have := HZ.out.2.2.2.2; simp; omega⟩
            · exact HY.out.1.on (Below.heap_setCell _ _ _ _ (by have := HG1.out; show fb ≠ g; omega)) (Below.heap_setCell _ _ _ _ (by have := HG2.out.1; show wA.heap.size ≠ g; omega))
            · exact (HY.out.2.2.2.set n HNN.out false).congr (fun i _ => notKs_snoc _ _ _ i)
            · exact (below_only HZ.out.2.2.2.1 HY.out.2.2.1 HG2.out.2).setCell (by exact HG1.out.2.2.2.2.1) _
    · intro x v w3 ct1 hx hfx hwx hit1 hlt1 hon1 hen1
      obtain ⟨n, rfl, hnN, hns⟩ := (HK1.out x).1 (by rw [hfx]; rfl)
      have hgr : g ≠ w1.heap.size := by have := HG1.out.1; omega
      have HY := Lib.hid (And.intro hit1 (And.intro hlt1 (And.intro hon1 (HX.out.2.2.1.stay (hon1.2.2.2.2 g hgr) (Nat.le_of_eq hon1.2.2.2.1.symm)))))
      have k1 := HY.out.2.2.2.2.2.2.1 n hnN
      have k2 := HY.out.2.2.2.2.2.2.2 n
      have hn1 : (n : Int) < (S.blocks : Int) := by omega
      have hn0 : (0 : Int) ≤ (n : Int) := by omega
      have HNN := Lib.hid hnN
      clear hx hfx hit1 hlt1 hon1 hns hnN hgr
      go_wp2
      go_roundg ct1
      case measure => have := HY.out.2.1; have := HX.out.1; omega
      case rel =>
        refine ⟨ks ++ [(n : Int)], ct1, Nat.le_refl _, by simp; omega, ?_, ?_, ?_, by have := HY.out.2.1; have := HX.out.2.2.2.2; simp; omega⟩
        · exact HY.out.1.on (Below.heap_setCell _ _ _ _ (by have := HG1.out; show mb ≠ g; omega)) (Below.heap_setCell _ _ _ _ (by have := HG1.out.1; show w1.heap.size ≠ g; omega))
        · exact (HY.out.2.2.2.set n HNN.out true).congr (fun i _ => orKs_snoc _ _ _ i)
        · exact (below_only HX.out.2.2.2.1 HY.out.2.2.1 HG1.out.2.2.2.2.2).setCell (by exact HG1.out.2.2.2.2.1) _
end Go.Proofs.Ytjbomdhlfjcgmaa
