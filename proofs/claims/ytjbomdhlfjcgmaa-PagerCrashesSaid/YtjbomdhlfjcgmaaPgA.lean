/-
  package pager: Alloc.
-/
import Derived.Test.YtjbomdhlfjcgmaaPgR
import Derived.Deep.RegionWith
namespace Go.Proofs.Ytjbomdhlfjcgmaa
set_option linter.unusedSimpArgs false
set_option linter.unusedVariables false
open Go.RowKit

/-- How far it is from m to p, going round from N to f. -/
def dist (f N m p : Nat) : Nat := if m ≤ p then p - m else (N - m) + (p - f)
theorem dist_step (f N m p : Nat) (h1 : f ≤ m) (h2 : m < N) (h3 : f ≤ p) (h4 : p < N) (hne : m ≠ p) : dist f N (if m + 1 = N then f else m + 1) p < dist f N m p := by
  unfold dist
  by_cases e : m + 1 = N
  · rw [if_pos e]
    split <;> split <;> omega
  · rw [if_neg e]
    split <;> split <;> omega

/-- The cells with another next. -/
theorem PgCells.setNext {w : World} {pb db mb fb : Nat} {S : PgS} {v5 v6 : Value} (h : PgCells w pb db S v5 v6 mb fb) (m : Nat) : PgCells (w.setCell ⟨pb, 10, none⟩ (.int .i64 m)) pb db { S with next := m } v5 v6 mb fb :=
  ⟨(cell_set_ne (fun e => by cases e)).trans h.c0, (cell_set_ne (fun e => by cases e)).trans h.c4, (cell_set_ne (fun e => by cases e)).trans h.c5, (cell_set_ne (fun e => by cases e)).trans h.c6, (cell_set_ne (fun e => by cases e)).trans h.c7, (cell_set_ne (fun e => by cases e)).trans h.c8,
    (cell_set_ne (fun e => by cases e)).trans h.c9, cell_set_same h.c10, h.c11.imp fun _ k => (cell_set_ne (fun e => by cases e)).trans k, h.c12.imp fun _ k => (cell_set_ne (fun e => by cases e)).trans k, fun o => by rw [World.frozen?_setCell]; exact h.frz o⟩
theorem PgCells.drew {w : World} {pb db mb fb : Nat} {S : PgS} {v5 v6 : Value} (h : PgCells w pb db S v5 v6 mb fb) : PgCells w.drew pb db S v5 v6 mb fb := h.stay rfl
theorem PgCells.drewN {w : World} {pb db mb fb : Nat} {S : PgS} {v5 v6 : Value} (h : PgCells w pb db S v5 v6 mb fb) (n : Nat) : PgCells (w.drewN n) pb db S v5 v6 mb fb := h.stay rfl
theorem PgMem.keeps {w w' : World} {F : Nat → Prop} {pb mb fb : Nat} {S : PgS} {v5 v6 : Value} (h : PgMem w F pb S v5 v6 mb fb) (k : Keeps (fun k => k = pb) w w') : PgMem w' F pb S v5 v6 mb fb := h.stay (fun j hj _ hne => k.block j hj hne) k.size
theorem PgMem.next {w : World} {F : Nat → Prop} {pb mb fb : Nat} {S : PgS} {v5 v6 : Value} (h : PgMem w F pb S v5 v6 mb fb) (m : Nat) : PgMem w F pb { S with next := m } v5 v6 mb fb := ⟨h.ne1, h.ne2, h.ne3, h.fm, h.ff, h.root, h.root', h.taken, h.taken', h.fresh, h.freed⟩
theorem Keeps.drewN {F : Nat → Prop} {w w' : World} (h : Keeps F w w') (n : Nat) : Keeps F w (w'.drewN n) := ⟨h.os, h.tape, h.output, h.size, h.block⟩
theorem Reads.drewN {w : World} {v : Value} {zs : List UInt8} (h : Reads w v zs) (n : Nat) : Reads (w.drewN n) v zs := h

/-- A page was made. -/
def AllocPost (w : World) (pb db : Nat) (F G : Nat → Prop) (D : DiskS) (S : PgS) (zs : List UInt8) (e : Ending) (w' : World) : Prop :=
  ∃ (n nx : Nat) (F' : Nat → Prop), e = .returned (.tuple #[.int .i64 n, .int .i64 0]) ∧ firstN S.blocks ≤ n ∧ n < S.blocks ∧ S.taken n = false ∧ S.fresh n = none ∧ firstN S.blocks ≤ nx ∧ nx < S.blocks ∧
    PgOn w' pb db F' G D { S with fresh := updN S.fresh n (some zs), next := nx } ∧ Moves F F' w w'

/-- The end: the map's store. -/
theorem alloc_end {w wr w1 w2 : World} {pb db mb fb n nx : Nat} {F G : Nat → Prop} {D : DiskS} {S : PgS} {v5 v6 v : Value} {zs : List UInt8} {f : Int → Option Value} (h : PgOn w pb db F G D S) (m : PgMem w F pb S v5 v6 mb fb) (c : PgCells wr pb db { S with next := nx } v5 v6 mb fb)
    (hk : Keeps (fun k => k = pb) w wr) (hB : Below wr.heap.size wr w1)
    (hf : (∀ x v, f x = some v → 0 ≤ x ∧ ∃ zs, S.fresh x.toNat = some zs ∧ Reads w v zs ∧ ∀ k, v.ownBlock = some k → RO F pb mb fb k) ∧ ∀ (m : Nat) zs, S.fresh m = some zs → (f m).isSome = true)
    (hr : Reads w1 v zs) (hv : ∀ k, v.ownBlock = some k → wr.heap.size ≤ k) (hm2 : MapI w2 mb (upd f n (some v)) (if (f n).isSome then cnt (fun k => (S.fresh k).isSome) S.blocks else cnt (fun k => (S.fresh k).isSome) S.blocks + 1)) (hon : Only mb w1 w2)
    (h1 : firstN S.blocks ≤ n) (h2 : n < S.blocks) (h3 : S.taken n = false) (h4 : S.fresh n = none) (h5 : firstN S.blocks ≤ nx) (h6 : nx < S.blocks) :
    AllocPost w pb db F G D S zs (.returned (.tuple #[.int .i64 n, .int .i64 0])) w2 := by
  have hpb := h.pg.lt
  have hs1 : w.heap.size ≤ wr.heap.size := hk.size
  have hs2 : w2.heap.size = w1.heap.size := hon.2.2.2.1
  have hs3 := hB.size
  have mr := m.keeps hk
  have hvF : ∀ k, v.ownBlock = some k → ¬ F k := fun k hk1 hk2 => by have := hv k hk1; have := h.pg.lim k hk2; omega
  have hb1 : BMap w1 (RO F pb mb fb) mb S.fresh S.blocks := mr.fresh.stay (hB.block mb mr.fresh.blt) (fun k hk _ => hB.block k hk) hs3
  have hb2 : BMap w2 (RO (fun k => F k ∨ v.ownBlock = some k) pb mb fb) mb (updN S.fresh n (some zs)) S.blocks :=
    BMap.put (G := RO (fun k => F k ∨ v.ownBlock = some k) pb mb fb) hb1 ⟨fun x u hx => by
      obtain ⟨h0, ys, hg, hry, ho⟩ := hf.1 x u hx
      exact ⟨h0, ys, hg, (hry.keeps hk (fun j hj e => (ho j hj).2.1 e)).below hB, ho⟩, hf.2⟩ hm2 hon hr
      (fun k hk1 => ⟨.inr hk1, fun e => by have := hv k hk1; omega, fun e => by have := hv k hk1; have := m.fresh.blt; omega, fun e => by have := hv k hk1; have := m.freed.blt; omega⟩) (fun k hk1 => ⟨.inl hk1.1, hk1.2⟩) (fun k hk1 => hk1.2.2.1) h2
  have hmoves : Moves F (fun k => F k ∨ v.ownBlock = some k) w w2 := by
    refine ⟨((hk.mono (fun _ _ e => by rw [e]; exact h.pg.own)).trans (Keeps.of_below hB)).trans (hon.keeps (fun _ => m.fm)), fun k hk1 => .inl hk1, fun k hk1 => hk1.imp id (fun e => Nat.le_trans hs1 (hv k e))⟩
  have hpg : PgAt w2 pb db (fun k => F k ∨ v.ownBlock = some k) { ({ S with next := nx } : PgS) with fresh := updN S.fresh n (some zs) } :=
    PgAt.turnFresh c (mr.next nx) h.pg.own (fun k hk1 => Nat.lt_of_lt_of_le (h.pg.lim k hk1) hs1) (fun k hk1 hk2 => (hon.2.2.2.2 k hk2).trans (hB.block k hk1)) (by omega) (fun k hk1 => .inl hk1)
      (fun k hk1 => by
        rcases hk1 with hk1 | hk1
        · have := h.pg.lim k hk1; omega
        · have := hr.blk k hk1; omega) hb2
  exact ⟨n, nx, _, rfl, h1, h2, h3, h4, h5, h6, ⟨(h.dk.keeps hmoves.keeps (fun k hk1 hk2 => h.dis k hk2 hk1)), hpg, h.bl, fun k hk1 hk2 => by
    rcases hk1 with hk1 | hk1
    · exact h.dis k hk1 hk2
    · have := hv k hk1; have := h.dk.lim k hk2; omega⟩, hmoves⟩

/-- What the loop's round knows of the pager. -/
structure AllocK (w : World) (pb db mb fb tb : Nat) (F G : Nat → Prop) (D : DiskS) (S : PgS) (v5 v6 : Value) (f : Int → Option Value) : Prop where
  on' : PgOn w pb db F G D S
  wf : PgWf S
  mem : PgMem w F pb S v5 v6 mb fb
  map : MapI w mb f (cnt (fun k => (S.fresh k).isSome) S.blocks)
  f1 : ∀ x v, f x = some v → 0 ≤ x ∧ ∃ zs, S.fresh x.toNat = some zs ∧ Reads w v zs ∧ ∀ k, v.ownBlock = some k → RO F pb mb fb k
  f2 : ∀ (m : Nat) zs, S.fresh m = some zs → (f m).isSome = true
  tb1 : ∀ i, i < S.blocks → w.cell? ⟨tb, i, none⟩ = some (.bool (S.taken i))
  tb2 : tb < w.heap.size
  tb3 : tb ≠ pb
theorem AllocK.none' {w : World} {pb db mb fb tb : Nat} {F G : Nat → Prop} {D : DiskS} {S : PgS} {v5 v6 : Value} {f : Int → Option Value} (h : AllocK w pb db mb fb tb F G D S v5 v6 f) (m : Nat) : f m = none ↔ S.fresh m = none := by
  constructor
  · intro e
    cases hf : S.fresh m with
    | none => rfl
    | some zs => have := h.f2 m zs hf; rw [e] at this; cases this
  · intro e
    cases hf : f m with
    | none => rfl
    | some v =>
      obtain ⟨_, zs, hz, _⟩ := h.f1 m v hf
      rw [Int.toNat_natCast, e] at hz
      cases hz

set_option maxRecDepth 100000 in
set_option maxHeartbeats 3200000 in
theorem pg_alloc_ok {w : World} {pb db : Nat} {F G : Nat → Prop} {D : DiskS} {S : PgS} (h : PgOn w pb db F G D S) (wf : PgWf S) (hd : D.dead = false) (v : Value) (zs : List UInt8) (hz : Reads w v zs) (hzl : zs.length ≤ 496) (hap : ∀ k, v.ownBlock = some k → ¬ F k) (hleft : S.left ≠ 0) :
    Calls Try.prog 12 #[.pointer (some ⟨pb, 0, none⟩), v] w (AllocPost w pb db F G D S zs) := by
  obtain ⟨v5, v6, mb, fb, c, m⟩ := h.pg.ex
  obtain ⟨f, hm0, hm1, hm2⟩ := m.fresh.ex
  obtain ⟨tb, tc, e6, htc, htl, hcell⟩ := m.taken
  have K := Lib.hid (show AllocK w pb db mb fb tb F G D S v5 v6 f from ⟨h, wf, m, hm0, hm1, hm2, hcell, htl, (m.taken' tb (by rw [e6]; rfl)).2.1⟩)
  subst e6
  have HC := Lib.hid c
  obtain ⟨av, cv, rfl⟩ := hz.len
  have HZ := Lib.hid (And.intro hz (And.intro hzl (And.intro hap hd)))
  have hzl' : (zs.length : Int) ≤ 496 := by omega
  have hleft' : (S.left == 0) = false := by simpa using hleft
  -- a page that is free
  obtain ⟨p, hp1, hp2, hp3, hp4⟩ : ∃ p, firstN S.blocks ≤ p ∧ p < S.blocks ∧ S.taken p = false ∧ S.fresh p = none := by
    have hc : cnt (fun k => S.taken k || (S.fresh k).isSome) S.blocks = cnt S.taken S.blocks + cnt (fun k => (S.fresh k).isSome) S.blocks :=
      cnt_or (r := fun k => S.taken k || (S.fresh k).isSome) (fun _ => rfl) (fun n hn => by
        cases hf : S.fresh n with
        | none => rfl
        | some ys => have := (wf.fresh n ys hf).2.2.1; rw [hn] at this; cases this) _
    have hlow : ∀ n, n < firstN S.blocks → (fun k => S.taken k || (S.fresh k).isSome) n = false := fun n hn => by
      have h1 : S.taken n = false := by cases ht : S.taken n with
        | false => rfl
        | true => have := (wf.taken n ht).1; omega
      have h2 : S.fresh n = none := by cases hf : S.fresh n with
        | none => rfl
        | some ys => have := (wf.fresh n ys hf).1; omega
      simp [h1, h2]
    have hle := cnt_low hlow S.blocks
    have hlt : cnt (fun k => S.taken k || (S.fresh k).isSome) S.blocks < S.blocks - firstN S.blocks := by
      have := hleft
      unfold PgS.left at this
      rw [wf.many] at this
      have h10 : firstN S.blocks ≤ 10 := by have := maps_le wf.hi; unfold firstN; omega
      have := wf.lo
      omega
    obtain ⟨p, h1, h2, h3⟩ := cnt_free hlow S.blocks hlt
    simp at h3
    exact ⟨p, h1, h2, h3.1, h3.2⟩
  have HPF := Lib.hid (And.intro hp1 (And.intro hp2 (And.intro hp3 hp4)))
  have c0 := c.c0
  clear c m hm0 hm1 hm2 hcell hz hzl hap hd hleft hp1 hp2 hp3 hp4 h htc htl
  have HW := Lib.hid wf
  clear wf
  go_enter Try.func12, Try.ntmps12
  go_wp2_with (first
    | (go_at_call 22; refine (dk_dead K.out.on'.dk).mono ?_; rw [HZ.out.2.2.2]; rintro e w' ⟨rfl, rfl⟩)
    | (go_at_call 18; refine (pg_left K.out.on' (by rw [HW.out.many]; exact cnt_le _ _)).mono ?_; rintro e w' ⟨rfl, n, rfl⟩))
  go_loopg [6, 7, 8] (dist (firstN S.blocks) S.blocks S.next p) (fun g s6 s7 s8 wr => ∃ m : Nat, dist (firstN S.blocks) S.blocks m p ≤ g ∧ firstN S.blocks ≤ m ∧ m < S.blocks ∧ PgCells wr pb db { S with next := m } v5 (.slice (some ⟨tb, 0, none⟩) S.blocks tc) mb fb ∧ Keeps (fun k => k = pb) w wr)
  case atStart => exact ⟨S.next, Nat.le_refl _, HW.out.next.1, HW.out.next.2, HC.out.drewN n, (Keeps.refl _ _).drewN n⟩
  case round =>
    obtain ⟨m, hg, hm1, hm2, hc, hk⟩ := hrel
    have c0r := hc.c0
    have k10 := hc.c10
    have f10 := hc.frz 10
    have k8 := hc.c8
    have k6 := hc.c6
    have hb := HW.out.hi
    have hcell : wr.cell? ⟨tb, m, none⟩ = some (.bool (S.taken m)) := (hk.cell (a := ⟨tb, m, none⟩) K.out.tb2 K.out.tb3).trans (K.out.tb1 m hm2)
    have hmw := wf_small m (by omega)
    have hm0 : (0 : Int) ≤ (m : Int) := by omega
    have hmN : (m : Int) < (S.blocks : Int) := by omega
    have hm3 : (m : Int) < 16384 := by omega
    have hbp : ¬ pb = tb := fun e => K.out.tb3 e.symm
    have hpb : pb < wr.heap.size := Nat.lt_of_lt_of_le K.out.on'.pg.lt hk.size
    have hs1 : (wr.setCell ⟨pb, 10, none⟩ (.int .i64 ((m : Int) + 1))) = (wr.setCell ⟨pb, 10, none⟩ (.int .i64 ((m + 1 : Nat) : Int))) := rfl
    have C1 : Hid (PgCells (wr.setCell ⟨pb, 10, none⟩ (.int .i64 ((m : Int) + 1))) pb db { S with next := m + 1 } v5 (.slice (some ⟨tb, 0, none⟩) S.blocks tc) mb fb ∧ Keeps (fun k => k = pb) w (wr.setCell ⟨pb, 10, none⟩ (.int .i64 ((m : Int) + 1)))) :=
      Lib.hid ⟨hc.setNext (m + 1), hk.setCell _ _ (fun _ => rfl)⟩
    have D1 : Hid (∀ W, Keeps (fun k => k = pb) w W → DkAt W db G D ∧ MapI W mb f (cnt (fun k => (S.fresh k).isSome) S.blocks)) := Lib.hid fun W hW => ⟨K.out.on'.dk.keeps hW (fun k hk1 e => K.out.on'.npb (by rw [← e]; exact hk1)), K.out.map.keeps hW (fun e => K.out.mem.ne1 e)⟩
    have hbl := K.out.on'.bl
    have HX := Lib.hid (And.intro hg (And.intro hm1 (And.intro hm2 (And.intro hc hk))))
    clear hg hm1 hm2 hc hk hs1
    have HR : Hid (cnt (fun k => (S.fresh k).isSome) S.blocks < maxLen) := Lib.hid (by have := cnt_le (fun k => (S.fresh k).isSome) S.blocks; unfold maxLen; omega)
    have HBL := Lib.hid hbl.symm
    by_cases he : m + 1 = S.blocks
    · have he' : (((m : Int) + 1) == (S.blocks : Int)) = true := by rw [beq_iff_eq]; omega
      have HSTEP : Hid (m ≠ p → dist (firstN S.blocks) S.blocks (firstN S.blocks) p < dist (firstN S.blocks) S.blocks m p) := Lib.hid fun hne => by
        have := dist_step (firstN S.blocks) S.blocks m p HX.out.2.1 HX.out.2.2.1 HPF.out.1 HPF.out.2.1 hne
        rwa [if_pos he] at this
      have HNX : Hid (firstN S.blocks ≤ firstN S.blocks ∧ firstN S.blocks < S.blocks) := Lib.hid ⟨Nat.le_refl _, by have := HX.out.2.1; have := HX.out.2.2.1; omega⟩
      rw [hbl] at he'
      clear he hbl hb
      go_wp2
      go_quiet ((go_at_call 29; exact Calls.quiet_of_same ((dk_blocks ((D1.out _ C1.out.2).1.drewN _)).mono fun e w' h => ⟨h.1, h.2.symm⟩)))
      obtain ⟨W2, hW2⟩ : ∃ W2, W2 = ((wr.setCell ⟨pb, 10, none⟩ (.int .i64 ((m : Int) + 1))).drewN nq).setCell ⟨pb, 10, none⟩ (.int .i64 ((firstN S.blocks : Nat) : Int)) := ⟨_, rfl⟩
      have C2 : Hid (Keeps (fun k => k = pb) w ((wr.setCell ⟨pb, 10, none⟩ (.int .i64 ((m : Int) + 1))).drewN nq) ∧ Keeps (fun k => k = pb) w W2 ∧ PgCells W2 pb db { S with next := firstN S.blocks } v5 (.slice (some ⟨tb, 0, none⟩) S.blocks tc) mb fb) := Lib.hid ⟨C1.out.2.drewN nq, by rw [hW2]; exact (C1.out.2.drewN nq).setCell _ _ (fun _ => rfl), by rw [hW2]; exact (C1.out.1.drewN nq).setNext (firstN S.blocks)⟩
      have HP2 : Hid (pb < W2.heap.size) := Lib.hid (Nat.lt_of_lt_of_le K.out.on'.pg.lt C2.out.2.1.size)
      subst hW2
      by_cases hf : S.fresh m = none
      · have HF := Lib.hid (And.intro hf ((K.out.none' m).2 hf))
        clear hf
        cases ht : S.taken m with
        | true =>
          rw [ht] at hcell
          have HT : Hid (m ≠ p) := Lib.hid (fun e => by have := HPF.out.2.2.1; rw [← e, ht] at this; cases this)
          clear ht
          go_wp2_with (first
            | (go_at_call 33; go_must (refine (pg_first (D1.out _ C2.out.1).1 C1.out.1.c0).mono ?_; rw [HBL.out]; rintro e w' ⟨rfl, rfl⟩))
            | (at_lookup; go_must (refine wpList_look2I _ rfl _ _ 57 rfl 3 22 Try.underlying3 Try.underlying57 (zeroBytes _) mb _ f rfl (D1.out _ C2.out.2.1).2 m rfl hmw ?_; rw [HF.out.2]))
            )
          go_roundg (dist (firstN S.blocks) S.blocks (firstN S.blocks) p)
          case measure => have := HSTEP.out HT.out; have := HX.out.1; omega
          case rel => exact ⟨firstN S.blocks, Nat.le_refl _, HNX.out.1, HNX.out.2, C2.out.2.2, C2.out.2.1⟩
        | false =>
          rw [ht] at hcell
          have HT := Lib.hid ht
          clear ht
          go_wp2_with (first
            | (go_at_call 33; go_must (refine (pg_first (D1.out _ C2.out.1).1 C1.out.1.c0).mono ?_; rw [HBL.out]; rintro e w' ⟨rfl, rfl⟩))
            | (at_lookup; go_must (refine wpList_look2I _ rfl _ _ 57 rfl 3 22 Try.underlying3 Try.underlying57 (zeroBytes _) mb _ f rfl (D1.out _ C2.out.2.1).2 m rfl hmw ?_; rw [HF.out.2]))
            )
          have RZ : Hid (Reads _ (.slice av zs.length cv) zs) := Lib.hid (HZ.out.1.keeps C2.out.2.1 (fun j hj e => HZ.out.2.2.1 j hj (by rw [e]; exact K.out.on'.pg.own)))
          go_region_with (first
            | (go_at_call 34; go_must (refine (clone_bytes _ zs _ (by exact RZ.out) (fits_of _ (by have := HZ.out.2.1; omega))).mono ?_; rintro e w1 ⟨v', rfl, hv, hnew, hB⟩; obtain ⟨a', c', rfl⟩ := hv.len; have k8b : w1.cell? ⟨pb, 8, none⟩ = some (.map (some mb)) := (hB.cell (p := ⟨pb, 8, none⟩) (by exact HP2.out)).trans C2.out.2.2.c8; have X := Lib.hid (And.intro hv (And.intro hnew hB)); clear hv hnew hB))
            | (refine upon_storeI 57 3 22 Try.underlying3 Try.underlying57 mb _ f ((D1.out _ C2.out.2.1.drew).2.below X.out.2.2) HR.out m hmw _ ?_; intro w2 hm2 hon2; have Y := Lib.hid (alloc_end K.out.on' K.out.mem C2.out.2.2.drew C2.out.2.1.drew X.out.2.2 ⟨K.out.f1, K.out.f2⟩ X.out.1 X.out.2.1 hm2 hon2 HX.out.2.1 HX.out.2.2.1 HT.out HF.out.1 HNX.out.1 HNX.out.2); clear hm2 hon2))
          all_goals
            go_wp2
            go_ret2
            exact Y.out
      · obtain ⟨ys, hys⟩ := Option.ne_none_iff_exists'.1 hf
        obtain ⟨u, hu⟩ := Option.isSome_iff_exists.1 (K.out.f2 m ys hys)
        obtain ⟨_, ys', _, hry, _⟩ := K.out.f1 m u hu
        obtain ⟨ua, uc, rfl⟩ := hry.len
        have HF := Lib.hid hu
        have HT : Hid (m ≠ p) := Lib.hid (fun e => by have := HPF.out.2.2.2; rw [← e, hys] at this; cases this)
        clear hf hys hu hry
        go_wp2_with (first
            | (go_at_call 33; go_must (refine (pg_first (D1.out _ C2.out.1).1 C1.out.1.c0).mono ?_; rw [HBL.out]; rintro e w' ⟨rfl, rfl⟩))
            | (at_lookup; go_must (refine wpList_look2I _ rfl _ _ 57 rfl 3 22 Try.underlying3 Try.underlying57 (zeroBytes _) mb _ f rfl (D1.out _ C2.out.2.1).2 m rfl hmw ?_; rw [HF.out]))
            )
        go_roundg (dist (firstN S.blocks) S.blocks (firstN S.blocks) p)
        case measure => have := HSTEP.out HT.out; have := HX.out.1; omega
        case rel => exact ⟨firstN S.blocks, Nat.le_refl _, HNX.out.1, HNX.out.2, C2.out.2.2, C2.out.2.1⟩
    · have he' : (((m : Int) + 1) == (S.blocks : Int)) = false := by rw [beq_eq_false_iff_ne]; omega
      have HSTEP : Hid (m ≠ p → dist (firstN S.blocks) S.blocks (m + 1) p < dist (firstN S.blocks) S.blocks m p) := Lib.hid fun hne => by
        have := dist_step (firstN S.blocks) S.blocks m p HX.out.2.1 HX.out.2.2.1 HPF.out.1 HPF.out.2.1 hne
        rwa [if_neg he] at this
      have HNX : Hid (firstN S.blocks ≤ m + 1 ∧ m + 1 < S.blocks) := Lib.hid (by have := HX.out.2.1; have := HX.out.2.2.1; omega)
      rw [hbl] at he'
      clear he hbl hb
      go_wp2
      go_quiet ((go_at_call 29; exact Calls.quiet_of_same ((dk_blocks ((D1.out _ C1.out.2).1.drewN _)).mono fun e w' h => ⟨h.1, h.2.symm⟩)))
      have C2 : Hid (Keeps (fun k => k = pb) w ((wr.setCell ⟨pb, 10, none⟩ (.int .i64 ((m : Int) + 1))).drewN nq) ∧ Keeps (fun k => k = pb) w ((wr.setCell ⟨pb, 10, none⟩ (.int .i64 ((m : Int) + 1))).drewN nq) ∧ PgCells ((wr.setCell ⟨pb, 10, none⟩ (.int .i64 ((m : Int) + 1))).drewN nq) pb db { S with next := m + 1 } v5 (.slice (some ⟨tb, 0, none⟩) S.blocks tc) mb fb) := Lib.hid ⟨C1.out.2.drewN nq, C1.out.2.drewN nq, C1.out.1.drewN nq⟩
      have HP2 : Hid (pb < ((wr.setCell ⟨pb, 10, none⟩ (.int .i64 ((m : Int) + 1))).drewN nq).heap.size) := Lib.hid (Nat.lt_of_lt_of_le K.out.on'.pg.lt C2.out.2.1.size)
      by_cases hf : S.fresh m = none
      · have HF := Lib.hid (And.intro hf ((K.out.none' m).2 hf))
        clear hf
        cases ht : S.taken m with
        | true =>
          rw [ht] at hcell
          have HT : Hid (m ≠ p) := Lib.hid (fun e => by have := HPF.out.2.2.1; rw [← e, ht] at this; cases this)
          clear ht
          go_wp2_with (at_lookup; go_must (refine wpList_look2I _ rfl _ _ 57 rfl 3 22 Try.underlying3 Try.underlying57 (zeroBytes _) mb _ f rfl (D1.out _ C2.out.2.1).2 m rfl hmw ?_; rw [HF.out.2]))
          go_roundg (dist (firstN S.blocks) S.blocks (m + 1) p)
          case measure => have := HSTEP.out HT.out; have := HX.out.1; omega
          case rel => exact ⟨m + 1, Nat.le_refl _, HNX.out.1, HNX.out.2, C2.out.2.2, C2.out.2.1⟩
        | false =>
          rw [ht] at hcell
          have HT := Lib.hid ht
          clear ht
          go_wp2_with (at_lookup; go_must (refine wpList_look2I _ rfl _ _ 57 rfl 3 22 Try.underlying3 Try.underlying57 (zeroBytes _) mb _ f rfl (D1.out _ C2.out.2.1).2 m rfl hmw ?_; rw [HF.out.2]))
          have RZ : Hid (Reads _ (.slice av zs.length cv) zs) := Lib.hid (HZ.out.1.keeps C2.out.2.1 (fun j hj e => HZ.out.2.2.1 j hj (by rw [e]; exact K.out.on'.pg.own)))
          go_region_with (first
            | (go_at_call 34; go_must (refine (clone_bytes _ zs _ (by exact RZ.out) (fits_of _ (by have := HZ.out.2.1; omega))).mono ?_; rintro e w1 ⟨v', rfl, hv, hnew, hB⟩; obtain ⟨a', c', rfl⟩ := hv.len; have k8b : w1.cell? ⟨pb, 8, none⟩ = some (.map (some mb)) := (hB.cell (p := ⟨pb, 8, none⟩) (by exact HP2.out)).trans C2.out.2.2.c8; have X := Lib.hid (And.intro hv (And.intro hnew hB)); clear hv hnew hB))
            | (refine upon_storeI 57 3 22 Try.underlying3 Try.underlying57 mb _ f ((D1.out _ C2.out.2.1.drew).2.below X.out.2.2) HR.out m hmw _ ?_; intro w2 hm2 hon2; have Y := Lib.hid (alloc_end K.out.on' K.out.mem C2.out.2.2.drew C2.out.2.1.drew X.out.2.2 ⟨K.out.f1, K.out.f2⟩ X.out.1 X.out.2.1 hm2 hon2 HX.out.2.1 HX.out.2.2.1 HT.out HF.out.1 HNX.out.1 HNX.out.2); clear hm2 hon2))
          all_goals
            go_wp2
            go_ret2
            exact Y.out
      · obtain ⟨ys, hys⟩ := Option.ne_none_iff_exists'.1 hf
        obtain ⟨u, hu⟩ := Option.isSome_iff_exists.1 (K.out.f2 m ys hys)
        obtain ⟨_, ys', _, hry, _⟩ := K.out.f1 m u hu
        obtain ⟨ua, uc, rfl⟩ := hry.len
        have HF := Lib.hid hu
        have HT : Hid (m ≠ p) := Lib.hid (fun e => by have := HPF.out.2.2.2; rw [← e, hys] at this; cases this)
        clear hf hys hu hry
        go_wp2_with (at_lookup; go_must (refine wpList_look2I _ rfl _ _ 57 rfl 3 22 Try.underlying3 Try.underlying57 (zeroBytes _) mb _ f rfl (D1.out _ C2.out.2.1).2 m rfl hmw ?_; rw [HF.out]))
        go_roundg (dist (firstN S.blocks) S.blocks (m + 1) p)
        case measure => have := HSTEP.out HT.out; have := HX.out.1; omega
        case rel => exact ⟨m + 1, Nat.le_refl _, HNX.out.1, HNX.out.2, C2.out.2.2, C2.out.2.1⟩

theorem PgOn.drewN {w : World} {pb db : Nat} {F G : Nat → Prop} {D : DiskS} {S : PgS} (h : PgOn w pb db F G D S) (n : Nat) : PgOn (w.drewN n) pb db F G D S :=
  ⟨h.dk.drewN n, h.pg.stay (fun _ _ _ => rfl) (Nat.le_refl _), h.bl, h.dis⟩
/-- No page was made. -/
def AllocNo (w : World) (er : Int) (e : Ending) (w' : World) : Prop := e = .returned (.tuple #[.int .i64 0, .int .i64 er]) ∧ ∃ n, w' = w.drewN n
theorem pg_alloc_dead {w : World} {pb db : Nat} {F G : Nat → Prop} {D : DiskS} {S : PgS} (h : PgOn w pb db F G D S) (hd : D.dead = true) (v : Value) :
    Calls Try.prog 12 #[.pointer (some ⟨pb, 0, none⟩), v] w (AllocNo w 12) := by
  have c0 := h.pg.c0
  have HD := Lib.hid (And.intro h.dk hd)
  clear h hd
  go_enter Try.func12, Try.ntmps12
  go_wp2_with (go_at_call 22; refine (dk_dead HD.out.1).mono ?_; rw [HD.out.2]; rintro e w' ⟨rfl, rfl⟩)
  go_ret2
  exact ⟨rfl, 0, rfl⟩
theorem pg_alloc_long {w : World} {pb db : Nat} {F G : Nat → Prop} {D : DiskS} {S : PgS} (h : PgOn w pb db F G D S) (hd : D.dead = false) (a : Option Addr) (n c : Nat) (hl : 496 < n) :
    Calls Try.prog 12 #[.pointer (some ⟨pb, 0, none⟩), .slice a n c] w (AllocNo w 5) := by
  have c0 := h.pg.c0
  have HD := Lib.hid (And.intro h.dk hd)
  have hl' : (496 : Int) < (n : Int) := by omega
  clear h hd hl
  go_enter Try.func12, Try.ntmps12
  go_wp2_with (go_at_call 22; refine (dk_dead HD.out.1).mono ?_; rw [HD.out.2]; rintro e w' ⟨rfl, rfl⟩)
  go_ret2
  exact ⟨rfl, 0, rfl⟩
theorem pg_alloc_full {w : World} {pb db : Nat} {F G : Nat → Prop} {D : DiskS} {S : PgS} (h : PgOn w pb db F G D S) (hm : S.many ≤ S.blocks) (hd : D.dead = false) (a : Option Addr) (n c : Nat) (hl : n ≤ 496) (hf : S.left = 0) :
    Calls Try.prog 12 #[.pointer (some ⟨pb, 0, none⟩), .slice a n c] w (AllocNo w 13) := by
  have c0 := h.pg.c0
  have HD := Lib.hid (And.intro h.dk (And.intro hd (And.intro h (And.intro hm hf))))
  have hl' : ¬ (496 : Int) < (n : Int) := by omega
  clear h hd hl hm hf
  go_enter Try.func12, Try.ntmps12
  go_wp2_with (first
    | (go_at_call 22; refine (dk_dead HD.out.1).mono ?_; rw [HD.out.2.1]; rintro e w' ⟨rfl, rfl⟩)
    | (go_at_call 18; refine (pg_left HD.out.2.2.1 HD.out.2.2.2.1).mono ?_; rw [HD.out.2.2.2.2]; rintro e w' ⟨rfl, m, rfl⟩))
  go_ret2
  exact ⟨rfl, m, rfl⟩
end Go.Proofs.Ytjbomdhlfjcgmaa
