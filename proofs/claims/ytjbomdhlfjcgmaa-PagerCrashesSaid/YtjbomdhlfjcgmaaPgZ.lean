/-
  package pager: its contracts over what is committed.
-/
import Derived.Test.YtjbomdhlfjcgmaaPgX
namespace Go.Proofs.Ytjbomdhlfjcgmaa
set_option linter.unusedSimpArgs false
set_option linter.unusedVariables false
open Go.RowKit

set_option maxRecDepth 100000 in
theorem pg_commit_dead {w : World} {pb db : Nat} {F G : Nat → Prop} {D : DiskS} {S : PgS} (h : PgOn w pb db F G D S) (hd : D.dead = true) (v : Value) :
    Calls Try.prog 13 #[.pointer (some ⟨pb, 0, none⟩), v] w (fun e w' => e = .returned (.int .i64 12) ∧ w = w') := by
  have c0 := h.pg.c0
  have HD := Lib.hid (And.intro h.dk hd)
  clear h hd
  go_enter Try.func13, Try.ntmps13
  go_wp2_with (go_at_call 22; refine (dk_dead HD.out.1).mono ?_; rw [HD.out.2]; rintro e w' ⟨rfl, rfl⟩)
  go_ret
  exact ⟨rfl, rfl⟩
set_option maxRecDepth 100000 in
theorem pg_commit_long {w : World} {pb db : Nat} {F G : Nat → Prop} {D : DiskS} {S : PgS} (h : PgOn w pb db F G D S) (hd : D.dead = false) (a : Option Addr) (n c : Nat) (hl : 64 < n) :
    Calls Try.prog 13 #[.pointer (some ⟨pb, 0, none⟩), .slice a n c] w (fun e w' => e = .returned (.int .i64 5) ∧ w = w') := by
  have c0 := h.pg.c0
  have HD := Lib.hid (And.intro h.dk hd)
  have hl' : (64 : Int) < (n : Int) := by omega
  clear h hd hl
  go_enter Try.func13, Try.ntmps13
  go_wp2_with (go_at_call 22; refine (dk_dead HD.out.1).mono ?_; rw [HD.out.2]; rintro e w' ⟨rfl, rfl⟩)
  go_ret
  exact ⟨rfl, rfl⟩

/-- The pages as they are now. -/
def nowP (S : PgS) (C : Comm) (n : Nat) : Option (List UInt8) := match S.fresh n with | some zs => some zs | none => if S.freed n = true then none else C.pages n
theorem commC_pages (S : PgS) (C : Comm) (root : List UInt8) : (commC S C root).pages = nowP S C := rfl
theorem nowP_clean {S : PgS} (C : Comm) (h1 : ∀ n, S.fresh n = none) (h2 : ∀ n, S.freed n = false) (n : Nat) : nowP S C n = C.pages n := by unfold nowP; rw [h1, h2]; rfl

/-- A pager over what is committed. -/
structure PgUp (w : World) (pb db : Nat) (F G : Nat → Prop) (D : DiskS) (S : PgS) (C : Comm) : Prop where
  on : PgOn w pb db F G D S
  inv : PgInv D S C

theorem PgInv.left_le {D : DiskS} {S : PgS} {C : Comm} (h : PgInv D S C) : S.many ≤ S.blocks := by rw [h.wf.many]; exact cnt_le _ _

/-- Open, of a disk that holds a commit. -/
def UpOpen (w : World) (db : Nat) (G : Nat → Prop) (D : DiskS) (C : Comm) (e : Ending) (w' : World) : Prop :=
  Below w.heap.size w w' ∧ ∃ pb F, e = .returned (.tuple #[.pointer (some ⟨pb, 0, none⟩), .int .i64 0]) ∧ PgUp w' pb db F G D (loadS D) C ∧ ∀ k, F k → w.heap.size ≤ k
theorem up_open {w : World} {db : Nat} {G : Nat → Prop} {D : DiskS} {C : Comm} (hd : DkAt w db G D) (ok : DiskOk D C) (hal : D.dead = false) : Calls Try.prog 11 #[.pointer (some ⟨db, 0, none⟩)] w (UpOpen w db G D C) :=
  (pg_open hd ok.lo (ok_seqs ok)).mono (by
    rintro e w' ⟨hB, h⟩
    rw [if_neg (by rw [hal]; decide)] at h
    obtain ⟨pb, F, he, hon, hF⟩ := h
    exact ⟨hB, pb, F, he, ⟨hon, load_inv ok⟩, hF⟩)
theorem up_open_dead {w : World} {db : Nat} {G : Nat → Prop} {D : DiskS} {C : Comm} (hd : DkAt w db G D) (ok : DiskOk D C) (hal : D.dead = true) : Calls Try.prog 11 #[.pointer (some ⟨db, 0, none⟩)] w (fun e w' => e = .returned (.tuple #[.pointer none, .int .i64 12]) ∧ Below w.heap.size w w') :=
  (pg_open hd ok.lo (ok_seqs ok)).mono (by
    rintro e w' ⟨hB, h⟩
    rw [if_pos hal] at h
    exact ⟨h, hB⟩)
theorem loadS_now {D : DiskS} (C : Comm) (n : Nat) : nowP (loadS D) C n = C.pages n := nowP_clean C (fun _ => rfl) (fun _ => rfl) n

/-- Alloc, with room. -/
def UpAlloc (w : World) (pb db : Nat) (F G : Nat → Prop) (D : DiskS) (S : PgS) (C : Comm) (zs : List UInt8) (e : Ending) (w' : World) : Prop :=
  ∃ (n : Nat) (S' : PgS) (F' : Nat → Prop), e = .returned (.tuple #[.int .i64 n, .int .i64 0]) ∧ firstN D.blocks ≤ n ∧ n < D.blocks ∧ nowP S C n = none ∧ C.pages n = none ∧ PgUp w' pb db F' G D S' C ∧ (∀ k, nowP S' C k = if k = n then some zs else nowP S C k) ∧
    S'.left = S.left - 1 ∧ S'.freed = S.freed ∧ cnt (fun k => (S'.fresh k).isSome) S'.blocks = cnt (fun k => (S.fresh k).isSome) S.blocks + 1 ∧ Moves F F' w w'
theorem up_alloc {w : World} {pb db : Nat} {F G : Nat → Prop} {D : DiskS} {S : PgS} {C : Comm} (h : PgUp w pb db F G D S C) (hd : D.dead = false) (v : Value) (zs : List UInt8) (hz : Reads w v zs) (hzl : zs.length ≤ 496) (hap : ∀ k, v.ownBlock = some k → ¬ F k) (hleft : S.left ≠ 0) :
    Calls Try.prog 12 #[.pointer (some ⟨pb, 0, none⟩), v] w (UpAlloc w pb db F G D S C zs) := by
  refine (pg_alloc_ok h.on h.inv.wf hd v zs hz hzl hap hleft).mono ?_
  rintro e w' ⟨n, nx, F', he, h1, h2, h3, h4, h5, h6, hon, hm⟩
  have hc : C.pages n = none := by
    have := h.inv.has n
    rw [h3] at this
    unfold Comm.has at this
    cases hp : C.pages n with
    | none => rfl
    | some b => rw [hp] at this; cases this
  have hnow : nowP S C n = none := by
    unfold nowP
    rw [h4, hc]
    cases S.freed n <;> rfl
  have hcnt : cnt (fun k => (updN S.fresh n (some zs) k).isSome) S.blocks = cnt (fun k => (S.fresh k).isSome) S.blocks + 1 := by
    rw [cnt_set (p := fun k => (S.fresh k).isSome) (m := n) (by rw [h4]; rfl) (by rw [updN_same]; rfl) (fun k hk => by rw [updN_other _ _ _ hk]), if_pos h2]
  have hbl := h.inv.bl
  refine ⟨n, _, F', he, by rw [← hbl]; exact h1, by rw [← hbl]; exact h2, hnow, hc, ⟨hon, h.inv.ok, ⟨h.inv.wf.lo, h.inv.wf.hi, h.inv.wf.taken, ?_, h.inv.wf.freed, h.inv.wf.many, ⟨h5, h6⟩, h.inv.wf.root, h.inv.wf.seq⟩, hbl, h.inv.seq, h.inv.root, h.inv.has⟩, ?_, ?_, rfl, hcnt, hm⟩
  · intro k ys hk
    have hk' : updN S.fresh n (some zs) k = some ys := hk
    by_cases e : k = n
    · subst e
      rw [updN_same] at hk'
      cases hk'
      exact ⟨h1, h2, h3, hzl⟩
    · rw [updN_other _ _ _ e] at hk'
      exact h.inv.wf.fresh k ys hk'
  · intro k
    show (match updN S.fresh n (some zs) k with | some zs => some zs | none => if S.freed k = true then none else C.pages k) = _
    by_cases e : k = n
    · subst e
      rw [updN_same, if_pos rfl]
    · rw [updN_other _ _ _ e, if_neg e]
      rfl
  · show (S.blocks : Int) - firstN S.blocks - S.many - (cnt (fun k => (updN S.fresh n (some zs) k).isSome) S.blocks : Nat) = _
    rw [hcnt]
    unfold PgS.left
    omega

/-- Read. -/
def UpRead (w : World) (pb db : Nat) (F G : Nat → Prop) (D : DiskS) (S : PgS) (C : Comm) (zs : List UInt8) (er : Int) (e : Ending) (w' : World) : Prop :=
  ∃ (a : Option Addr) (c : Nat), e = .returned (.tuple #[.slice a zs.length c, .int .i64 er]) ∧ Reads w' (.slice a zs.length c) zs ∧ (∀ k, (Value.slice a zs.length c).ownBlock = some k → w.heap.size ≤ k) ∧ PgUp w' pb db F G D S C ∧ Keeps (fun k => k = pb) w w'
theorem up_read {w : World} {pb db : Nat} {F G : Nat → Prop} {D : DiskS} {S : PgS} {C : Comm} (h : PgUp w pb db F G D S C) (hd : D.dead = false) (n : Nat) (zs : List UInt8) (hn : nowP S C n = some zs) :
    Calls Try.prog 14 #[.pointer (some ⟨pb, 0, none⟩), .int .i64 n] w (UpRead w pb db F G D S C zs 0) := by
  have fin : ∀ e w', PgRdPost w pb db F G D S zs 0 e w' → UpRead w pb db F G D S C zs 0 e w' := by
    rintro e w' ⟨a, c, h1, h2, h3, h4, h5⟩
    exact ⟨a, c, h1, h2, h3, ⟨h4, h.inv⟩, h5⟩
  unfold nowP at hn
  cases hf : S.fresh n with
  | some ys =>
    rw [hf] at hn
    cases hn
    exact (pg_rd_fresh h.on h.inv.wf hd n zs hf).mono (fun e w' => fin e w')
  | none =>
    rw [hf] at hn
    have hq : S.freed n = false := by
      cases hq : S.freed n with
      | false => rfl
      | true => simp [hq] at hn
    have hp : C.pages n = some zs := by simpa [hq] using hn
    obtain ⟨g1, g2, g3, g4⟩ := h.inv.ok.pages n zs hp
    have hbl := h.inv.bl
    have hi := h.inv.wf.hi
    have ht : S.taken n = true := by rw [h.inv.has]; unfold Comm.has; rw [hp]; rfl
    have hfe : firstN D.blocks = 2 + 2 * mapsN D.blocks := rfl
    refine (pg_rd_page h.on h.inv.wf hd n (wf_small n (by omega)) ?_ zs g4 g3).mono (fun e w' => fin e w')
    unfold PgS.there
    have e1 : (0 : Int) < (n : Int) := by omega
    have e2 : (n : Int) < (S.blocks : Int) := by omega
    simp [e1, e2, ht, hq]
    omega

/-- Commit. -/
def UpCommit (w : World) (pb db : Nat) (F G : Nat → Prop) (D : DiskS) (S : PgS) (C : Comm) (root : List UInt8) (e : Ending) (w' : World) : Prop :=
  ∃ F' G' D', Moves (fun k => F k ∨ G k) (fun k => F' k ∨ G' k) w w' ∧ D'.blocks = D.blocks ∧
    ((e = .returned (.int .i64 0) ∧ D'.dead = false ∧ (D.left = -1 → D'.left = -1) ∧ D'.writes = D.writes + cnt (fun k => (S.fresh k).isSome) S.blocks + mapsN S.blocks + 1 ∧ PgUp w' pb db F' G' D' (S.done root) (commC S C root)) ∨
    (e = .returned (.int .i64 12) ∧ D.left ≠ -1 ∧ D'.dead = true ∧ PgUp w' pb db F' G' D' S C))
theorem up_commit {w : World} {pb db : Nat} {F G : Nat → Prop} {D : DiskS} {S : PgS} {C : Comm} (h : PgUp w pb db F G D S C) (hd : D.dead = false) (ra : Option Addr) (rc : Nat) (root : List UInt8) (hr : Reads w (.slice ra root.length rc) root) (hrl : root.length ≤ 64)
    (hrb : ∀ k, (Value.slice ra root.length rc).ownBlock = some k → ¬ F k ∧ ¬ G k) (hs : S.seq + 1 < 1000000000000000000) :
    Calls Try.prog 13 #[.pointer (some ⟨pb, 0, none⟩), .slice ra root.length rc] w (UpCommit w pb db F G D S C root) := by
  refine (pg_commit_ok h.on h.inv.wf hd ra rc root hr hrl hrb).mono ?_
  rintro e w' ⟨F', G', he, hon, hm⟩
  rcases commit_all h.inv hd root hrl hs with ⟨h1, h2, h3, h4, h5⟩ | ⟨h1, h2, h3, h4⟩
  · rw [if_pos h1] at hon
    rw [h1] at he
    refine ⟨F', G', _, hm, DiskS.all_blocks _ _, .inl ⟨he, h2, h4, ?_, hon, h5⟩⟩
    rw [h3, layL_length]
    omega
  · rw [if_neg (by rw [h1]; decide)] at hon
    rw [h1] at he
    exact ⟨F', G', _, hm, DiskS.all_blocks _ _, .inr ⟨he, h3, h2, hon, h4⟩⟩
end Go.Proofs.Ytjbomdhlfjcgmaa
