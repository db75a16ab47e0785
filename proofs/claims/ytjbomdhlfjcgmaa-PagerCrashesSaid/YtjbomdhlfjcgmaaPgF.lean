/-
  package pager: what reads, frees, forgets.
-/
import Derived.Test.YtjbomdhlfjcgmaaPgB
import Derived.BigQuiet
import Derived.Deep.QuietTactic
namespace Go.Proofs.Ytjbomdhlfjcgmaa
set_option linter.unusedSimpArgs false
set_option linter.unusedVariables false
open Go.RowKit

/-- A pager on a disk. -/
structure PgOn (w : World) (pb db : Nat) (F G : Nat → Prop) (D : DiskS) (S : PgS) : Prop where
  dk : DkAt w db G D
  pg : PgAt w pb db F S
  bl : S.blocks = D.blocks
  dis : ∀ k, F k → ¬ G k
theorem PgOn.below {w w' : World} {pb db : Nat} {F G : Nat → Prop} {D : DiskS} {S : PgS} (h : PgOn w pb db F G D S) (k : Below w.heap.size w w') : PgOn w' pb db F G D S := ⟨h.dk.below k, h.pg.below k, h.bl, h.dis⟩
theorem PgOn.npb {w : World} {pb db : Nat} {F G : Nat → Prop} {D : DiskS} {S : PgS} (h : PgOn w pb db F G D S) : ¬ G pb := h.dis pb h.pg.own
theorem PgOn.ticks {w w' : World} {pb db o : Nat} {F G : Nat → Prop} {D : DiskS} {S : PgS} (h : PgOn w pb db F G D S) (k : Ticks pb o w w') (ho : o = 11 ∨ o = 12) : PgOn w' pb db F G D S :=
  ⟨h.dk.keeps k.keeps (fun j hj e => h.npb (by rw [← e]; exact hj)), h.pg.ticks k ho, h.bl, h.dis⟩

theorem pg_seq {w : World} {pb db : Nat} {F : Nat → Prop} {S : PgS} (h : PgAt w pb db F S) : Calls Try.prog 17 #[.pointer (some ⟨pb, 0, none⟩)] w fun e w' => e = .returned (.int .i64 S.seq) ∧ w = w' := by
  obtain ⟨v5, v6, mb, fb, c, hm⟩ := h.ex
  have c4 := c.c4
  go_enter Try.func17, Try.ntmps17
  go_wp2
  go_ret
  exact ⟨rfl, rfl⟩
theorem pg_root {w : World} {pb db : Nat} {F : Nat → Prop} {S : PgS} (h : PgAt w pb db F S) (hl : S.root.length ≤ 64) : Calls Try.prog 15 #[.pointer (some ⟨pb, 0, none⟩)] w (ClonePost w S.root) := by
  obtain ⟨v5, v6, mb, fb, c, hm⟩ := h.ex
  have c5 := c.c5
  have HR := Lib.hid hm.root
  obtain ⟨a, n, hv⟩ := hm.root.len
  subst hv
  have HL := Lib.hid hl
  clear hm hl c h
  go_enter Try.func15, Try.ntmps15
  go_wp2_with (go_at_call 34; refine (clone_bytes _ S.root w HR.out (fits_of _ (by have := HL.out; omega))).mono ?_; rintro e w1 ⟨v', rfl, hv, hnew, hB⟩; have X := Lib.hid (And.intro hv (And.intro hnew hB)); clear hv hnew hB)
  go_ret
  exact ⟨v', rfl, X.out⟩

/-- How many pages can be allocated. -/
def PgS.left (S : PgS) : Int := (S.blocks : Int) - firstN S.blocks - S.many - cnt (fun k => (S.fresh k).isSome) S.blocks

set_option maxRecDepth 100000 in
set_option maxHeartbeats 800000 in
theorem pg_left {w : World} {pb db : Nat} {F G : Nat → Prop} {D : DiskS} {S : PgS} (h : PgOn w pb db F G D S) (hm : S.many ≤ S.blocks) :
    Calls Try.prog 18 #[.pointer (some ⟨pb, 0, none⟩)] w fun e w' => e = .returned (.int .i64 S.left) ∧ ∃ n, w' = w.drewN n := by
  obtain ⟨v5, v6, mb, fb, c, hme⟩ := h.pg.ex
  have c0 := c.c0
  have c7 := c.c7
  have c8 := c.c8
  obtain ⟨f, hmf, _⟩ := hme.fresh.at'
  have HG : Hid (∀ a ty, (Builtin.len_ #[57] ty #[.map (some mb)]).run Try.prog (w.drewN a) = .ok (.int .i64 ((cnt (fun k => (S.fresh k).isSome) S.blocks : Nat) : Int)) (w.drewN a)) := Lib.hid fun a ty =>
    (show MapI (w.drewN a) mb f _ from hmf).len (k := 3) (e := 22) Try.underlying57 ty
  have hd := h.dk
  have h1 := h.dk.wf.hi
  have h2 := maps_le h.dk.wf.hi
  have h3 := cnt_le (fun k => (S.fresh k).isSome) S.blocks
  have hb := h.bl
  have HD := Lib.hid hd
  have HL : Hid (S.left = (D.blocks : Int) - ((firstN D.blocks : Nat) : Int) - (S.many : Int) - ((cnt (fun k => (S.fresh k).isSome) S.blocks : Nat) : Int)) := Lib.hid (by unfold PgS.left; rw [hb])
  have b1 : ((firstN D.blocks : Nat) : Int) ≤ 10 := by unfold firstN; omega
  have b2 : (D.blocks : Int) ≤ 16384 := by omega
  have b3 : (S.many : Int) ≤ 16384 := by omega
  have b4 : ((cnt (fun k => (S.fresh k).isSome) S.blocks : Nat) : Int) ≤ 16384 := by omega
  have b5 : (0 : Int) ≤ ((cnt (fun k => (S.fresh k).isSome) S.blocks : Nat) : Int) := by omega
  generalize ((cnt (fun k => (S.fresh k).isSome) S.blocks : Nat) : Int) = n at *
  clear hmf hme c h hd h1 h2 h3 hb hm
  go_enter Try.func18, Try.ntmps18
  go_wp2
  go_quiet ((first
    | (go_at_call 29; exact Calls.quiet_of_same ((dk_blocks (HD.out.drewN _)).mono fun e w' h => ⟨h.1, h.2.symm⟩))
    | (go_at_call 33; exact Calls.quiet_of_same ((pg_first (HD.out.drewN _) c0).mono fun e w' h => ⟨h.1, h.2.symm⟩))
    | (rw [HG.out]; exact ⟨rfl, rfl⟩)))
  go_wp2
  go_ret
  exact ⟨ret_int (by rw [HL.out]), nq, rfl⟩

/-- A pager but for what was allocated and freed. -/
structure PgPre (w : World) (pb db : Nat) (F : Nat → Prop) (S : PgS) (v5 v6 : Value) : Prop where
  c0 : w.cell? ⟨pb, 0, none⟩ = some (.pointer (some ⟨db, 0, none⟩))
  c4 : w.cell? ⟨pb, 4, none⟩ = some (.int .i64 S.seq)
  c5 : w.cell? ⟨pb, 5, none⟩ = some v5
  c6 : w.cell? ⟨pb, 6, none⟩ = some v6
  c7 : w.cell? ⟨pb, 7, none⟩ = some (.int .i64 S.many)
  c8 : ∃ u, w.cell? ⟨pb, 8, none⟩ = some u
  c9 : ∃ u, w.cell? ⟨pb, 9, none⟩ = some u
  c10 : ∃ u, w.cell? ⟨pb, 10, none⟩ = some u
  c11 : ∃ x, w.cell? ⟨pb, 11, none⟩ = some (.int .i64 x)
  c12 : ∃ x, w.cell? ⟨pb, 12, none⟩ = some (.int .i64 x)
  frz : ∀ o, w.frozen? ⟨pb, o, none⟩ = false
  root : Reads w v5 S.root
  root' : ∀ k, v5.ownBlock = some k → F k ∧ k ≠ pb
  taken : Bools w v6 S.taken S.blocks
  taken' : ∀ k, v6.ownBlock = some k → F k ∧ k ≠ pb
  own : F pb
  lim : ∀ k, F k → k < w.heap.size
theorem PgAt.pre {w : World} {pb db : Nat} {F : Nat → Prop} {S : PgS} (h : PgAt w pb db F S) : ∃ v5 v6, PgPre w pb db F S v5 v6 := by
  obtain ⟨v5, v6, mb, fb, c, m⟩ := h.ex
  exact ⟨v5, v6, c.c0, c.c4, c.c5, c.c6, c.c7, ⟨_, c.c8⟩, ⟨_, c.c9⟩, ⟨_, c.c10⟩, c.c11, c.c12, c.frz, m.root, fun k hk => ⟨(m.root' k hk).1, (m.root' k hk).2.1⟩, m.taken, fun k hk => ⟨(m.taken' k hk).1, (m.taken' k hk).2.1⟩, h.own, h.lim⟩

/-- Nothing allocated, nothing freed. -/
def PgS.clean (S : PgS) : PgS := { S with fresh := fun _ => none, freed := fun _ => false, next := firstN S.blocks }
/-- With two new blocks. -/
def Two (F : Nat → Prop) (w : World) (k : Nat) : Prop := F k ∨ k = w.heap.size ∨ k = w.heap.size + 1
def AbortPost (w : World) (pb db : Nat) (F : Nat → Prop) (S : PgS) (e : Ending) (w' : World) : Prop := e = .returned (.tuple #[]) ∧ PgAt w' pb db (Two F w) S.clean ∧ Keeps (fun k => k = pb) w w'
theorem Two.moves {F : Nat → Prop} {w w' : World} {pb : Nat} (hp : F pb) (h : Keeps (fun k => k = pb) w w') : Moves F (Two F w) w w' :=
  ⟨h.mono (fun k _ e => by rw [e]; exact hp), fun k hk => .inl hk, fun k hk => hk.imp id (fun e => by omega)⟩

/-- The three cells that Abort lays. -/
theorem abort_at {w W : World} {pb db : Nat} {F : Nat → Prop} {S : PgS} {v5 v6 : Value} (h : PgPre w pb db F S v5 v6)
    (hW0 : W = ((((w.setCell ⟨pb, 8, none⟩ (.map (some w.heap.size))).setCell ⟨pb, 9, none⟩ (.map (some (w.heap.size + 1)))).setCell ⟨pb, 10, none⟩ (.int .i64 (firstN S.blocks : Nat))).alloc (.map #[] 0)).alloc (.map #[] 0)) :
    PgAt W pb db (Two F w) S.clean ∧ Keeps (fun k => k = pb) w W := by
  have hpb := h.lim pb h.own
  have hss : ∀ (w : World) (a : Addr) (v : Value), (w.setCell a v).heap.size = w.heap.size := fun w a v => by simp [World.setCell]
  have hW : W = ((((w.alloc (.map #[] 0)).alloc (.map #[] 0)).setCell ⟨pb, 8, none⟩ (.map (some w.heap.size))).setCell ⟨pb, 9, none⟩ (.map (some (w.heap.size + 1)))).setCell ⟨pb, 10, none⟩ (.int .i64 (firstN S.blocks : Nat)) := by
    have two : ∀ (w : World) (o : Nat) (v : Value), pb < w.heap.size → ((w.alloc (.map #[] 0)).alloc (.map #[] 0)).setCell ⟨pb, o, none⟩ v = ((w.setCell ⟨pb, o, none⟩ v).alloc (.map #[] 0)).alloc (.map #[] 0) := fun w o v h => by
      rw [World.setCell_alloc_past _ _ _ _ (by simp; omega), World.setCell_alloc_past _ _ _ _ h]
    rw [hW0, two w _ _ hpb, two _ _ _ (by rw [hss]; exact hpb), two _ _ _ (by rw [hss, hss]; exact hpb)]
  have hk : ∀ k, k ≠ pb → W.heap[k]? = ((w.alloc (.map #[] 0)).alloc (.map #[] 0)).heap[k]? := fun k hk => by
    rw [hW, Below.heap_setCell _ _ _ _ hk, Below.heap_setCell _ _ _ _ hk, Below.heap_setCell _ _ _ _ hk]
  have hsz : W.heap.size = w.heap.size + 2 := by rw [hW]; simp [World.setCell]
  have hold : ∀ k, k < w.heap.size → k ≠ pb → W.heap[k]? = w.heap[k]? := fun k h1 h2 => by
    rw [hk k h2, (MapKept.heap_alloc _ _).2 k (by simp; omega), (MapKept.heap_alloc _ _).2 k h1]
  have hpc : ∀ o, ((w.alloc (.map #[] 0)).alloc (.map #[] 0)).cell? ⟨pb, o, none⟩ = w.cell? ⟨pb, o, none⟩ := fun o => by
    rw [World.cell?_alloc_past _ _ _ (by simp; omega), World.cell?_alloc_past _ _ _ hpb]
  have hco : ∀ o, o ≠ 8 → o ≠ 9 → o ≠ 10 → W.cell? ⟨pb, o, none⟩ = w.cell? ⟨pb, o, none⟩ := fun o h1 h2 h3 => by
    rw [hW, cell_set_ne (fun e => h3 (by cases e; rfl)), cell_set_ne (fun e => h2 (by cases e; rfl)), cell_set_ne (fun e => h1 (by cases e; rfl))]
    exact hpc o
  have hfz : ∀ o, W.frozen? ⟨pb, o, none⟩ = false := fun o => by
    rw [hW]
    simp only [World.frozen?_setCell]
    rw [World.frozen?_alloc_past _ _ _ (by simp; omega), World.frozen?_alloc_past _ _ _ hpb]
    exact h.frz o
  obtain ⟨u8, h8⟩ := h.c8
  obtain ⟨u9, h9⟩ := h.c9
  obtain ⟨u10, h10⟩ := h.c10
  have hm1 : W.heap[w.heap.size]? = some (.map #[] 0) := by
    rw [hk _ (by omega), (MapKept.heap_alloc _ _).2 _ (by simp)]; exact (MapKept.heap_alloc w _).1
  have hm2 : W.heap[w.heap.size + 1]? = some (.map #[] 0) := by
    rw [hk _ (by omega)]
    have := (MapKept.heap_alloc (w.alloc (.map #[] 0)) (.map #[] 0)).1
    simpa using this
  refine ⟨⟨⟨v5, v6, w.heap.size, w.heap.size + 1, ⟨(hco 0 (by omega) (by omega) (by omega)).trans h.c0, (hco 4 (by omega) (by omega) (by omega)).trans h.c4, (hco 5 (by omega) (by omega) (by omega)).trans h.c5, (hco 6 (by omega) (by omega) (by omega)).trans h.c6,
    (hco 7 (by omega) (by omega) (by omega)).trans h.c7, ?_, ?_, ?_, h.c11.imp fun _ e => (hco 11 (by omega) (by omega) (by omega)).trans e, h.c12.imp fun _ e => (hco 12 (by omega) (by omega) (by omega)).trans e, hfz⟩,
    ⟨by omega, by omega, by omega, .inr (.inl rfl), .inr (.inr rfl), h.root.stay (fun k hk => hold k (h.root.blk k hk) (h.root' k hk).2) (by omega), fun k hk => ⟨.inl (h.root' k hk).1, (h.root' k hk).2, ?_, ?_⟩,
      h.taken.stay (fun k hk hv => hold k hk (h.taken' k hv).2) (by omega), fun k hk => ⟨.inl (h.taken' k hk).1, (h.taken' k hk).2, ?_, ?_⟩, ?_, ?_⟩⟩, .inl h.own, ?_⟩, ?_⟩
  · rw [hW, cell_set_ne (fun e => by cases e), cell_set_ne (fun e => by cases e)]
    exact cell_set_same ((hpc 8).trans h8)
  · rw [hW, cell_set_ne (fun e => by cases e)]
    exact cell_set_same ((cell_set_ne (fun e => by cases e)).trans ((hpc 9).trans h9))
  · rw [hW]
    exact cell_set_same ((cell_set_ne (fun e => by cases e)).trans ((cell_set_ne (fun e => by cases e)).trans ((hpc 10).trans h10)))
  · have := h.lim k (h.root' k hk).1; omega
  · have := h.lim k (h.root' k hk).1; omega
  · have := h.lim k (h.taken' k hk).1; omega
  · have := h.lim k (h.taken' k hk).1; omega
  · exact ⟨⟨fun _ => none, ⟨#[], 0, hm1, by rw [show cnt (fun k => (S.clean.fresh k).isSome) S.clean.blocks = 0 from cnt_none _ (fun _ _ => rfl)]; exact ⟨MapKept.stamped_empty 0, rfl, Nat.zero_le _, by simp, (fun x v h => (by cases h))⟩⟩, (fun x v h => (by cases h)), (fun m zs h => (by cases h))⟩, (fun m zs h => (by cases h)), fun k hk => hk.2.2.1⟩
  · exact ⟨⟨fun _ => none, ⟨#[], 0, hm2, by rw [show cnt S.clean.freed S.clean.blocks = 0 from cnt_none _ (fun _ _ => rfl)]; exact ⟨MapKept.stamped_empty 0, rfl, Nat.zero_le _, by simp, (fun x v h => (by cases h))⟩⟩, (fun x v h => (by cases h)), (fun m h => (by cases h))⟩, (fun m h => (by cases h))⟩
  · rintro k (hk | hk | hk)
    · have := h.lim k hk; omega
    · omega
    · omega
  · refine ⟨by rw [hW]; rfl, by rw [hW]; rfl, by rw [hW]; rfl, by omega, fun k h1 h2 => hold k h1 h2⟩

set_option maxRecDepth 100000 in
set_option maxHeartbeats 800000 in
theorem pg_abort {w : World} {pb db : Nat} {F G : Nat → Prop} {D : DiskS} {S : PgS} {v5 v6 : Value} (hd : DkAt w db G D) (h : PgPre w pb db F S v5 v6) (hb : S.blocks = D.blocks) :
    Calls Try.prog 24 #[.pointer (some ⟨pb, 0, none⟩)] w (AbortPost w pb db F S) := by
  have hmm := @run_makeMap Try.prog
  have hpb := h.lim pb h.own
  have F1 := Lib.hid (abort_at h rfl)
  rw [hb] at F1
  obtain ⟨u8, h8⟩ := h.c8
  obtain ⟨u9, h9⟩ := h.c9
  obtain ⟨u10, h10⟩ := h.c10
  have f8 := h.frz 8
  have f9 := h.frz 9
  have f10 := h.frz 10
  have HD := Lib.hid (And.intro (hd.below (below_alloc2 w (.map #[] 0) (.map #[] 0))) (show ((w.alloc (.map #[] 0)).alloc (.map #[] 0)).cell? ⟨pb, 0, none⟩ = some (.pointer (some ⟨db, 0, none⟩)) by rw [World.cell?_alloc_past _ _ _ (by simp; omega), World.cell?_alloc_past _ _ _ hpb]; exact h.c0))
  clear h hd hb
  go_enter Try.func24, Try.ntmps24
  go_wp2_with (go_at_call 33; refine (pg_first HD.out.1 HD.out.2).mono ?_; rintro e w3 ⟨rfl, rfl⟩)
  go_end0
  exact ⟨rfl, F1.out⟩
end Go.Proofs.Ytjbomdhlfjcgmaa
