/-
  The laws of pagers: known.
-/
import Derived.Test.YtjbomdhlfjcgmaaPgZ
namespace Go.Proofs.Ytjbomdhlfjcgmaa
set_option linter.unusedSimpArgs false
set_option linter.unusedVariables false
open Go.RowKit

/-- One byte laid. -/
theorem conv_one (x : Int) (w : World) : (convert 22 22 (.slice (some ⟨w.heap.size, 0, none⟩) 1 1)).run Try.prog (w.alloc (.cells #[.int .u8 x] 5)) =
    .ok (.slice (some ⟨w.heap.size, 0, none⟩) 1 1) (w.alloc (.cells #[.int .u8 x] 5 (1, 2))) := Lib.run_convert_bytes_const w _ _ _ 1 1 Try.underlying22 Try.underlying5
theorem one_reads (w : World) (x : UInt8) : Reads (w.alloc (.cells #[.int .u8 x.toNat] 5 (1, 2))) (.slice (some ⟨w.heap.size, 0, none⟩) 1 1) [x] := by
  refine .inr ⟨w.heap.size, 0, 1, rfl, Nat.le_refl _, by simp, fun i y hi => ?_⟩
  rw [Nat.zero_add, World.cell?_alloc_mark]
  match i, hi with
  | 0, hi => cases hi; rfl

theorem PgUp.below {w w' : World} {pb db : Nat} {F G : Nat → Prop} {D : DiskS} {S : PgS} {C : Comm} (h : PgUp w pb db F G D S C) (k : Below w.heap.size w w') : PgUp w' pb db F G D S C := ⟨h.on.below k, h.inv⟩
/-- How many more there is room for. -/
theorem PgInv.left_eq {D : DiskS} {S : PgS} {C : Comm} (h : PgInv D S C) : S.left = (D.blocks : Int) - firstN D.blocks - (cnt C.has D.blocks : Nat) - (cnt (fun k => (S.fresh k).isSome) S.blocks : Nat) := by
  unfold PgS.left
  rw [h.wf.many, cnt_congr _ (fun n _ => h.has n), h.bl]
theorem has_new (n : Nat) : Comm.new.has n = false := rfl
theorem left_new {D : DiskS} (h : PgInv D (loadS D) Comm.new) : (loadS D).left = (D.blocks : Int) - firstN D.blocks := by
  rw [h.left_eq, cnt_none _ (fun n _ => has_new n), cnt_none (p := fun k => ((loadS D).fresh k).isSome) _ (fun n _ => rfl)]
  omega
theorem up_root {w : World} {pb db : Nat} {F G : Nat → Prop} {D : DiskS} {S : PgS} {C : Comm} (h : PgUp w pb db F G D S C) : Calls Try.prog 15 #[.pointer (some ⟨pb, 0, none⟩)] w (ClonePost w C.root) := by
  have := pg_root h.on.pg h.inv.wf.root
  rwa [h.inv.root] at this
theorem up_seq {w : World} {pb db : Nat} {F G : Nat → Prop} {D : DiskS} {S : PgS} {C : Comm} (h : PgUp w pb db F G D S C) : Calls Try.prog 17 #[.pointer (some ⟨pb, 0, none⟩)] w (fun e w' => e = .returned (.int .i64 C.seq) ∧ w = w') := by
  have := pg_seq h.on.pg
  rwa [h.inv.seq] at this

theorem below_any (w : World) (o : Obj) : Below w.heap.size w (w.alloc o) := (Below.refl _ w).alloc (Nat.le_refl _) _
theorem one_own {w : World} {F : Nat → Prop} (h : ∀ k, F k → k < w.heap.size) : ∀ k, (Value.slice (some ⟨w.heap.size, 0, none⟩) 1 1).ownBlock = some k → ¬ F k := fun k hk hf => by
  have e : w.heap.size = k := by simpa [Value.ownBlock] using hk
  have := h k hf
  omega
theorem firstN_le {n : Nat} (h : n ≤ 16384) : firstN n ≤ 10 := by have := maps_le h; unfold firstN; omega
/-- A disk, and a pager on it, in blocks that are new since w0; the power is not cut. -/
structure DkB (w0 w : World) (db : Nat) (G : Nat → Prop) (D : DiskS) (C : Comm) : Prop where
  dk : DkAt w db G D
  ok : DiskOk D C
  bel : Below w0.heap.size w0 w
  own : ∀ k, G k → w0.heap.size ≤ k
  alive : D.dead = false
  free : D.left = -1
structure UpB (w0 w : World) (pb db : Nat) (F G : Nat → Prop) (D : DiskS) (S : PgS) (C : Comm) : Prop where
  up : PgUp w pb db F G D S C
  bel : Below w0.heap.size w0 w
  own : ∀ k, F k ∨ G k → w0.heap.size ≤ k
  alive : D.dead = false
  free : D.left = -1
theorem UpB.dk {w0 w : World} {pb db : Nat} {F G : Nat → Prop} {D : DiskS} {S : PgS} {C : Comm} (h : UpB w0 w pb db F G D S C) : DkB w0 w db G D C := ⟨h.up.on.dk, h.up.inv.ok, h.bel, fun k hk => h.own k (.inr hk), h.alive, h.free⟩
theorem UpB.below {w0 w w' : World} {pb db : Nat} {F G : Nat → Prop} {D : DiskS} {S : PgS} {C : Comm} (h : UpB w0 w pb db F G D S C) (k : Below w.heap.size w w') : UpB w0 w' pb db F G D S C :=
  ⟨h.up.below k, h.bel.trans (k.mono h.bel.size), h.own, h.alive, h.free⟩
theorem ub_new (n : Nat) (h1 : 64 ≤ n) (h2 : n ≤ 16384) {w0 w : World} (hb : Below w0.heap.size w0 w) : Calls Try.prog 10 #[.int .i64 n] w (fun e w' => ∃ db G, e = .returned (.tuple #[.pointer (some ⟨db, 0, none⟩), .int .i64 0]) ∧ DkB w0 w' db G (DiskS.new n) Comm.new) :=
  (dk_new n (by omega) h2 w).mono (by
    rintro e w' ⟨he, hd, hB⟩
    refine ⟨_, _, he, hd, DiskOk.new h1 h2, hb.trans (hB.mono hb.size), fun k hk => ?_, rfl, rfl⟩
    have := hb.size
    rcases hk with hk | hk <;> omega)
theorem ub_open {w0 w : World} {db : Nat} {G : Nat → Prop} {D : DiskS} {C : Comm} (h : DkB w0 w db G D C) : Calls Try.prog 11 #[.pointer (some ⟨db, 0, none⟩)] w
    (fun e w' => ∃ pb F, e = .returned (.tuple #[.pointer (some ⟨pb, 0, none⟩), .int .i64 0]) ∧ UpB w0 w' pb db F G D (loadS D) C) :=
  (up_open h.dk h.ok h.alive).mono (by
    rintro e w' ⟨hB, pb, F, he, hup, hF⟩
    refine ⟨pb, F, he, hup, h.bel.trans (hB.mono h.bel.size), fun k hk => ?_, h.alive, h.free⟩
    rcases hk with hk | hk
    · exact Nat.le_trans h.bel.size (hF k hk)
    · exact h.own k hk)
/-- Alloc's answer. -/
def UbAlloc (w0 w : World) (pb db : Nat) (F G : Nat → Prop) (D : DiskS) (S : PgS) (C : Comm) (zs : List UInt8) (e : Ending) (w' : World) : Prop :=
  ∃ (n : Nat) (S' : PgS) (F' : Nat → Prop), e = .returned (.tuple #[.int .i64 n, .int .i64 0]) ∧ UpB w0 w' pb db F' G D S' C ∧ (firstN D.blocks ≤ n ∧ n < D.blocks ∧ nowP S C n = none ∧ C.pages n = none ∧ (∀ k, nowP S' C k = if k = n then some zs else nowP S C k) ∧
    S'.left = S.left - 1 ∧ S'.freed = S.freed ∧ cnt (fun k => (S'.fresh k).isSome) S'.blocks = cnt (fun k => (S.fresh k).isSome) S.blocks + 1) ∧ Moves F F' w w'
theorem ub_alloc {w0 w : World} {pb db : Nat} {F G : Nat → Prop} {D : DiskS} {S : PgS} {C : Comm} (h : UpB w0 w pb db F G D S C) (v : Value) (zs : List UInt8) (hz : Reads w v zs) (hzl : zs.length ≤ 496) (hap : ∀ k, v.ownBlock = some k → ¬ F k) (hleft : S.left ≠ 0) :
    Calls Try.prog 12 #[.pointer (some ⟨pb, 0, none⟩), v] w (UbAlloc w0 w pb db F G D S C zs) :=
  (up_alloc h.up h.alive v zs hz hzl hap hleft).mono (by
    rintro e w' ⟨n, S', F', he, h1, h2, h3, h4, hup, hnow, hleft, hfr, hc, hm⟩
    refine ⟨n, S', F', he, ⟨hup, Keeps.below_new h.bel hm.keeps (fun j hj => h.own j (.inl hj)), fun k hk => ?_, h.alive, h.free⟩, ⟨h1, h2, h3, h4, hnow, hleft, hfr, hc⟩, hm⟩
    rcases hk with hk | hk
    · rcases hm.new k hk with hk | hk
      · exact h.own k (.inl hk)
      · exact Nat.le_trans h.bel.size hk
    · exact h.own k (.inr hk))
def UbCommit (w0 w : World) (pb db : Nat) (F G : Nat → Prop) (D : DiskS) (S : PgS) (C : Comm) (root : List UInt8) (e : Ending) (w' : World) : Prop :=
  ∃ F' G' D', e = .returned (.int .i64 0) ∧ UpB w0 w' pb db F' G' D' (S.done root) (commC S C root) ∧ D'.blocks = D.blocks ∧ D'.writes = D.writes + cnt (fun k => (S.fresh k).isSome) S.blocks + mapsN S.blocks + 1 ∧ Moves (fun k => F k ∨ G k) (fun k => F' k ∨ G' k) w w'
theorem ub_commit {w0 w : World} {pb db : Nat} {F G : Nat → Prop} {D : DiskS} {S : PgS} {C : Comm} (h : UpB w0 w pb db F G D S C) (ra : Option Addr) (rc : Nat) (root : List UInt8) (hr : Reads w (.slice ra root.length rc) root) (hrl : root.length ≤ 64)
    (hrb : ∀ k, (Value.slice ra root.length rc).ownBlock = some k → ¬ F k ∧ ¬ G k) (hs : C.seq + 1 < 1000000000000000000) :
    Calls Try.prog 13 #[.pointer (some ⟨pb, 0, none⟩), .slice ra root.length rc] w (UbCommit w0 w pb db F G D S C root) :=
  (up_commit h.up h.alive ra rc root hr hrl hrb (by rw [h.up.inv.seq]; exact hs)).mono (by
    rintro e w' ⟨F', G', D', hm, hbl, ⟨he, hal, hfr, hwr, hup⟩ | ⟨_, hl, _⟩⟩
    · refine ⟨F', G', D', he, ⟨hup, Keeps.below_new h.bel hm.keeps h.own, fun k hk => ?_, hal, hfr h.free⟩, hbl, hwr, hm⟩
      rcases hm.new k hk with hk | hk
      · exact h.own k hk
      · exact Nat.le_trans h.bel.size hk
    · exact absurd h.free hl)
def UbRead (w0 w : World) (pb db : Nat) (F G : Nat → Prop) (D : DiskS) (S : PgS) (C : Comm) (zs : List UInt8) (er : Int) (e : Ending) (w' : World) : Prop :=
  ∃ (a : Option Addr) (c : Nat), e = .returned (.tuple #[.slice a zs.length c, .int .i64 er]) ∧ Reads w' (.slice a zs.length c) zs ∧ (∀ k, (Value.slice a zs.length c).ownBlock = some k → w.heap.size ≤ k) ∧ UpB w0 w' pb db F G D S C ∧ Keeps (fun k => k = pb) w w'
theorem ub_read {w0 w : World} {pb db : Nat} {F G : Nat → Prop} {D : DiskS} {S : PgS} {C : Comm} (h : UpB w0 w pb db F G D S C) (n : Nat) (zs : List UInt8) (hn : nowP S C n = some zs) :
    Calls Try.prog 14 #[.pointer (some ⟨pb, 0, none⟩), .int .i64 n] w (UbRead w0 w pb db F G D S C zs 0) :=
  (up_read h.up h.alive n zs hn).mono (by
    rintro e w' ⟨a, c, he, hr, hnew, hup, hk⟩
    exact ⟨a, c, he, hr, hnew, ⟨hup, Keeps.below_new h.bel hk (fun j hj => by rw [hj]; exact h.own pb (.inl h.up.on.pg.own)), h.own, h.alive, h.free⟩, hk⟩)
theorem ub_one {w0 w : World} {pb db : Nat} {F G : Nat → Prop} {D : DiskS} {S : PgS} {C : Comm} (h : UpB w0 w pb db F G D S C) : ∀ k, (Value.slice (some ⟨w.heap.size, 0, none⟩) 1 1).ownBlock = some k → ¬ F k ∧ ¬ G k := fun k hk => ⟨one_own h.up.on.pg.lim k hk, one_own h.up.on.dk.lim k hk⟩

set_option maxHeartbeats 3200000 in
set_option maxRecDepth 100000 in
theorem law3_known (w : World) : Calls Try.prog 9 #[] w (fun e w' => e = .returned (.bool true) ∧ Below w.heap.size w w') := by
  have hcv := conv_one
  go_enter Try.func9, Try.ntmps9
  go_upto_region 7 with (first
    | (go_at_call 10; go_must (refine (ub_new 128 (by omega) (by omega) (Below.refl _ w)).mono ?_; rintro e w1 ⟨db, G, rfl, hd⟩; have X1 := Lib.hid hd; clear hd))
    | (go_at_call 11; go_must (refine (ub_open X1.out).mono ?_; rintro e w2 ⟨pb, F, rfl, hup⟩; have X2 := Lib.hid hup; clear hup)))
  have K2 : Hid ((loadS (DiskS.new 128)).left ≠ 0) := Lib.hid (by rw [left_new X2.out.up.inv]; decide)
  go_upto_region 9 with (first
    | (go_at_call 12; go_must (refine (ub_alloc (X2.out.below (below_any _ _)) _ [120] (one_reads w2 120) (by decide) (fun k hk => (ub_one X2.out k hk).1) K2.out).mono ?_; rintro e w3 ⟨n, S3, F3, rfl, hup, hq, _⟩; have X3 := Lib.hid (And.intro hup hq.2.2.2.2.1); clear hup hq))
    | (go_at_call 13; go_must (refine (ub_commit (X3.out.1.below (below_any _ _)) _ _ [114] (one_reads w3 114) (by decide) (ub_one X3.out.1) (by decide)).mono ?_; rintro e w4 ⟨F4, G4, D4, rfl, hup, _⟩; have X4 := Lib.hid hup; clear hup)))
  have N4 : Hid (nowP (loadS D4) (commC S3 Comm.new [114]) n = some [120]) := Lib.hid (by rw [loadS_now, commC_pages, X3.out.2, if_pos rfl])
  go_upto_region 13 with (first
    | (go_at_call 11; go_must (refine (ub_open X4.out.dk).mono ?_; rintro e w5 ⟨qb, F5, rfl, hup⟩; have X5 := Lib.hid hup; clear hup))
    | (go_at_call 14; go_must (refine (ub_read X5.out n [120] N4.out).mono ?_; rintro e w6 ⟨a6, c6, rfl, hr6, _, hup6, _⟩; have hc6 : (convert 22 9 (.slice a6 1 c6)).run Try.prog w6 = .ok (.string ⟨#[120]⟩) w6 := run_string_of 22 9 5 Try.underlying22 Try.underlying5 Try.underlying9 hr6; have X6 := Lib.hid hup6; clear hr6 hup6)))
  go_wp2_with (go_at_call 15; go_must (refine (up_root X6.out.up).mono ?_; rintro e w7 ⟨v7, rfl, hr7, _, hB7⟩; have hc7 : (convert 22 9 v7).run Try.prog w7 = .ok (.string ⟨#[114]⟩) w7 := run_string_of 22 9 5 Try.underlying22 Try.underlying5 Try.underlying9 hr7; have X7 := Lib.hid (X6.out.below hB7); clear hr7 hB7))

  go_ret
  exact ⟨rfl, X7.out.bel⟩
end Go.Proofs.Ytjbomdhlfjcgmaa
