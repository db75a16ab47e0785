/-
  A pager in memory.
-/
import Derived.Test.YtjbomdhlfjcgmaaDsk
import Derived.Test.YtjbomdhlfjcgmaaApZ
namespace Go.Proofs.Ytjbomdhlfjcgmaa
set_option linter.unusedSimpArgs false
set_option linter.unusedVariables false
open Go.RowKit

/-- What a pager holds. -/
structure PgS where
  blocks : Nat
  seq : Nat
  root : List UInt8
  taken : Nat → Bool
  many : Nat
  fresh : Nat → Option (List UInt8)
  freed : Nat → Bool
  next : Nat

/-- A slice of bools. -/
def Bools (w : World) (v : Value) (p : Nat → Bool) (N : Nat) : Prop :=
  ∃ tb c, v = .slice (some ⟨tb, 0, none⟩) N c ∧ N ≤ c ∧ tb < w.heap.size ∧ ∀ i, i < N → w.cell? ⟨tb, i, none⟩ = some (.bool (p i))
theorem Bools.stay {w w' : World} {v : Value} {p : Nat → Bool} {N : Nat} (h : Bools w v p N) (hb : ∀ k, k < w.heap.size → v.ownBlock = some k → w'.heap[k]? = w.heap[k]?) (hs : w.heap.size ≤ w'.heap.size) : Bools w' v p N := by
  obtain ⟨tb, c, hv, hc, hlt, hx⟩ := h
  exact ⟨tb, c, hv, hc, Nat.lt_of_lt_of_le hlt hs, fun i hi => (World.cell?_of_block (hb tb hlt (by rw [hv]; rfl))).trans (hx i hi)⟩

/-- A set of numbers below N as a map. -/
structure NMap (w : World) (fb : Nat) (q : Nat → Bool) (N : Nat) : Prop where
  ex : ∃ f, MapI w fb f (cnt q N) ∧ (∀ x v, f x = some v → 0 ≤ x ∧ q x.toNat = true) ∧ ∀ n : Nat, q n = true → (f n).isSome = true
  lt : ∀ n, q n = true → n < N
theorem NMap.stay {w w' : World} {fb N : Nat} {q : Nat → Bool} (h : NMap w fb q N) (hb : w'.heap[fb]? = w.heap[fb]?) : NMap w' fb q N := by
  obtain ⟨f, hm, h1, h2⟩ := h.ex
  exact ⟨⟨f, hm.on hb, h1, h2⟩, h.lt⟩
theorem NMap.blt {w : World} {fb N : Nat} {q : Nat → Bool} (h : NMap w fb q N) : fb < w.heap.size := by
  obtain ⟨f, hm, _⟩ := h.ex
  exact hm.lt
theorem NMap.made (w : World) (N : Nat) : NMap (w.alloc (.map #[] 0)) w.heap.size (fun _ => false) N :=
  ⟨⟨fun _ => none, by rw [cnt_none N (fun _ _ => rfl)]; exact MapI.made w, (fun x v h => (by cases h)), (fun n h => (by cases h))⟩, (fun n h => (by cases h))⟩

/-- The cells of a pager's block. -/
structure PgCells (w : World) (pb db : Nat) (S : PgS) (v5 v6 : Value) (mb fb : Nat) : Prop where
  c0 : w.cell? ⟨pb, 0, none⟩ = some (.pointer (some ⟨db, 0, none⟩))
  c4 : w.cell? ⟨pb, 4, none⟩ = some (.int .i64 S.seq)
  c5 : w.cell? ⟨pb, 5, none⟩ = some v5
  c6 : w.cell? ⟨pb, 6, none⟩ = some v6
  c7 : w.cell? ⟨pb, 7, none⟩ = some (.int .i64 S.many)
  c8 : w.cell? ⟨pb, 8, none⟩ = some (.map (some mb))
  c9 : w.cell? ⟨pb, 9, none⟩ = some (.map (some fb))
  c10 : w.cell? ⟨pb, 10, none⟩ = some (.int .i64 S.next)
  c11 : ∃ x, w.cell? ⟨pb, 11, none⟩ = some (.int .i64 x)
  c12 : ∃ x, w.cell? ⟨pb, 12, none⟩ = some (.int .i64 x)
  frz : ∀ o, w.frozen? ⟨pb, o, none⟩ = false
theorem PgCells.stay {w w' : World} {pb db mb fb : Nat} {S : PgS} {v5 v6 : Value} (h : PgCells w pb db S v5 v6 mb fb) (hb : w'.heap[pb]? = w.heap[pb]?) : PgCells w' pb db S v5 v6 mb fb :=
  ⟨(World.cell?_of_block hb).trans h.c0, (World.cell?_of_block hb).trans h.c4, (World.cell?_of_block hb).trans h.c5, (World.cell?_of_block hb).trans h.c6, (World.cell?_of_block hb).trans h.c7, (World.cell?_of_block hb).trans h.c8, (World.cell?_of_block hb).trans h.c9,
    (World.cell?_of_block hb).trans h.c10, h.c11.imp fun _ k => (World.cell?_of_block hb).trans k, h.c12.imp fun _ k => (World.cell?_of_block hb).trans k, fun o => (World.frozen?_of_block hb).trans (h.frz o)⟩

/-- What of a pager's blocks nobody writes. -/
def RO (F : Nat → Prop) (pb mb fb : Nat) (k : Nat) : Prop := F k ∧ k ≠ pb ∧ k ≠ mb ∧ k ≠ fb
/-- What a pager's cells lead to. -/
structure PgMem (w : World) (F : Nat → Prop) (pb : Nat) (S : PgS) (v5 v6 : Value) (mb fb : Nat) : Prop where
  ne1 : mb ≠ pb
  ne2 : fb ≠ pb
  ne3 : mb ≠ fb
  fm : F mb
  ff : F fb
  root : Reads w v5 S.root
  root' : ∀ k, v5.ownBlock = some k → RO F pb mb fb k
  taken : Bools w v6 S.taken S.blocks
  taken' : ∀ k, v6.ownBlock = some k → RO F pb mb fb k
  fresh : BMap w (RO F pb mb fb) mb S.fresh S.blocks
  freed : NMap w fb S.freed S.blocks
theorem PgMem.stay {w w' : World} {F : Nat → Prop} {pb mb fb : Nat} {S : PgS} {v5 v6 : Value} (h : PgMem w F pb S v5 v6 mb fb) (hF : ∀ k, k < w.heap.size → F k → k ≠ pb → w'.heap[k]? = w.heap[k]?) (hs : w.heap.size ≤ w'.heap.size) : PgMem w' F pb S v5 v6 mb fb :=
  ⟨h.ne1, h.ne2, h.ne3, h.fm, h.ff, h.root.stay (fun k hk => hF k (h.root.blk k hk) (h.root' k hk).1 (h.root' k hk).2.1) hs, h.root', h.taken.stay (fun k hk hv => hF k hk (h.taken' k hv).1 (h.taken' k hv).2.1) hs, h.taken',
    h.fresh.stay (hF mb h.fresh.blt h.fm h.ne1) (fun k hk hf => hF k hk hf.1 hf.2.1) hs, h.freed.stay (hF fb h.freed.blt h.ff h.ne2)⟩

/-- The pager at block pb lies in the blocks of F. -/
structure PgAt (w : World) (pb db : Nat) (F : Nat → Prop) (S : PgS) : Prop where
  ex : ∃ v5 v6 mb fb, PgCells w pb db S v5 v6 mb fb ∧ PgMem w F pb S v5 v6 mb fb
  own : F pb
  lim : ∀ k, F k → k < w.heap.size
theorem PgAt.lt {w : World} {pb db : Nat} {F : Nat → Prop} {S : PgS} (h : PgAt w pb db F S) : pb < w.heap.size := h.lim pb h.own
theorem PgAt.c0 {w : World} {pb db : Nat} {F : Nat → Prop} {S : PgS} (h : PgAt w pb db F S) : w.cell? ⟨pb, 0, none⟩ = some (.pointer (some ⟨db, 0, none⟩)) := by obtain ⟨v5, v6, mb, fb, hc, _⟩ := h.ex; exact hc.c0
theorem PgAt.stay {w w' : World} {pb db : Nat} {F : Nat → Prop} {S : PgS} (h : PgAt w pb db F S) (hF : ∀ k, k < w.heap.size → F k → w'.heap[k]? = w.heap[k]?) (hs : w.heap.size ≤ w'.heap.size) : PgAt w' pb db F S := by
  obtain ⟨v5, v6, mb, fb, hc, hm⟩ := h.ex
  exact ⟨⟨v5, v6, mb, fb, hc.stay (hF pb h.lt h.own), hm.stay (fun k hk hf _ => hF k hk hf) hs⟩, h.own, fun k hk => Nat.lt_of_lt_of_le (h.lim k hk) hs⟩
theorem PgAt.keeps {w w' : World} {pb db : Nat} {F G : Nat → Prop} {S : PgS} (h : PgAt w pb db F S) (k : Keeps G w w') (hd : ∀ k, F k → ¬ G k) : PgAt w' pb db F S := h.stay (fun j hj hf => k.block j hj (hd j hf)) k.size
theorem PgAt.below {w w' : World} {pb db : Nat} {F : Nat → Prop} {S : PgS} (h : PgAt w pb db F S) (k : Below w.heap.size w w') : PgAt w' pb db F S := h.stay (fun j hj _ => k.block j hj) k.size

/-- A counter of the pager's block went on; new blocks. -/
structure Ticks (pb o : Nat) (w w' : World) : Prop where
  keeps : Keeps (fun k => k = pb) w w'
  row : ∀ o', o' ≠ o → w'.cell? ⟨pb, o', none⟩ = w.cell? ⟨pb, o', none⟩
  tick : ∃ x, w'.cell? ⟨pb, o, none⟩ = some (.int .i64 x)
  frz : ∀ o', w'.frozen? ⟨pb, o', none⟩ = w.frozen? ⟨pb, o', none⟩
theorem Ticks.then_below {pb o : Nat} {w w1 w2 : World} (h : Ticks pb o w w1) (hb : pb < w.heap.size) (k : Below w1.heap.size w1 w2) : Ticks pb o w w2 := by
  have hp := k.block pb (Nat.lt_of_lt_of_le hb h.keeps.size)
  exact ⟨h.keeps.trans (Keeps.of_below k), fun o' ho => (World.cell?_of_block hp).trans (h.row o' ho), h.tick.imp fun _ e => (World.cell?_of_block hp).trans e, fun o' => (World.frozen?_of_block hp).trans (h.frz o')⟩
theorem Ticks.drew {pb o : Nat} {w w1 : World} (h : Ticks pb o w w1) : Ticks pb o w w1.drew := ⟨h.keeps.drew, h.row, h.tick, h.frz⟩
theorem Ticks.set (pb o : Nat) (w : World) {u : Value} (h : w.cell? ⟨pb, o, none⟩ = some u) (x : Int) : Ticks pb o w (w.setCell ⟨pb, o, none⟩ (.int .i64 x)) :=
  ⟨(Keeps.refl _ w).setCell _ _ (fun _ => rfl), fun o' ho => cell_set_ne (fun e => ho (by cases e; rfl)), ⟨x, cell_set_same h⟩, fun o' => by simp⟩
theorem PgAt.ticks {w w' : World} {pb db o : Nat} {F : Nat → Prop} {S : PgS} (h : PgAt w pb db F S) (k : Ticks pb o w w') (ho : o = 11 ∨ o = 12) : PgAt w' pb db F S := by
  obtain ⟨v5, v6, mb, fb, c, hm⟩ := h.ex
  have hr : ∀ o', o' ≠ 11 → o' ≠ 12 → w'.cell? ⟨pb, o', none⟩ = w.cell? ⟨pb, o', none⟩ := fun o' h1 h2 => k.row o' (by omega)
  refine ⟨⟨v5, v6, mb, fb, ⟨(hr 0 (by omega) (by omega)).trans c.c0, (hr 4 (by omega) (by omega)).trans c.c4, (hr 5 (by omega) (by omega)).trans c.c5, (hr 6 (by omega) (by omega)).trans c.c6, (hr 7 (by omega) (by omega)).trans c.c7, (hr 8 (by omega) (by omega)).trans c.c8,
    (hr 9 (by omega) (by omega)).trans c.c9, (hr 10 (by omega) (by omega)).trans c.c10, ?_, ?_, fun o' => (k.frz o').trans (c.frz o')⟩, hm.stay (fun j hj _ hne => k.keeps.block j hj hne) k.keeps.size⟩, h.own, fun j hj => Nat.lt_of_lt_of_le (h.lim j hj) k.keeps.size⟩
  · rcases ho with rfl | rfl
    · exact k.tick
    · exact c.c11.imp fun _ e => (k.row 11 (by omega)).trans e
  · rcases ho with rfl | rfl
    · exact c.c12.imp fun _ e => (k.row 12 (by omega)).trans e
    · exact k.tick

/-! Small functions. -/

theorem pg_maps {w : World} {pb db : Nat} {G : Nat → Prop} {D : DiskS} (h : DkAt w db G D) (c0 : w.cell? ⟨pb, 0, none⟩ = some (.pointer (some ⟨db, 0, none⟩))) :
    Calls Try.prog 44 #[.pointer (some ⟨pb, 0, none⟩)] w fun e w' => e = .returned (.int .i64 (mapsN D.blocks)) ∧ w = w' := by
  have h1 := h.wf.hi
  have e : ((mapsN D.blocks : Nat) : Int) = ((D.blocks : Int) + 4096 - 1) / 4096 := by unfold mapsN; omega
  have h2 : (0 : Int) ≤ (D.blocks : Int) + 4096 - 1 := by omega
  have h3 : (D.blocks : Int) ≤ 16384 := by omega
  have E := Lib.hid e
  clear e
  go_enter Try.func44, Try.ntmps44
  go_wp2_with (go_at_call 29; refine (dk_blocks h).mono ?_; rintro e w' ⟨rfl, rfl⟩)
  go_ret
  exact ⟨ret_int E.out.symm, rfl⟩
theorem pg_first {w : World} {pb db : Nat} {G : Nat → Prop} {D : DiskS} (h : DkAt w db G D) (c0 : w.cell? ⟨pb, 0, none⟩ = some (.pointer (some ⟨db, 0, none⟩))) :
    Calls Try.prog 33 #[.pointer (some ⟨pb, 0, none⟩)] w fun e w' => e = .returned (.int .i64 (firstN D.blocks)) ∧ w = w' := by
  have h1 := maps_le h.wf.hi
  have h3 : ((mapsN D.blocks : Nat) : Int) ≤ 4 := by omega
  have E : Hid (((firstN D.blocks : Nat) : Int) = 2 + 2 * ((mapsN D.blocks : Nat) : Int)) := Lib.hid (by unfold firstN; omega)
  go_enter Try.func33, Try.ntmps33
  go_wp2_with (go_at_call 44; refine (pg_maps h c0).mono ?_; rintro e w' ⟨rfl, rfl⟩)
  go_ret
  exact ⟨ret_int E.out.symm, rfl⟩

/-- Bytes of its own are answered, an error beside; the counter o went on. -/
def RdPgPost (w : World) (pb : Nat) (zs : List UInt8) (er : Int) (e : Ending) (w' : World) : Prop :=
  ∃ (a : Option Addr) (c : Nat), e = .returned (.tuple #[.slice a zs.length c, .int .i64 er]) ∧ Reads w' (.slice a zs.length c) zs ∧ (∀ k, (Value.slice a zs.length c).ownBlock = some k → w.heap.size ≤ k) ∧ Ticks pb 11 w w'
theorem pg_read {w : World} {pb db : Nat} {F G : Nat → Prop} {D : DiskS} {x : Int} (h : DkAt w db G D) (hpb : pb < w.heap.size) (hG : ¬ G pb) (c0 : w.cell? ⟨pb, 0, none⟩ = some (.pointer (some ⟨db, 0, none⟩))) (c11 : w.cell? ⟨pb, 11, none⟩ = some (.int .i64 x)) (f11 : w.frozen? ⟨pb, 11, none⟩ = false)
    (n : Nat) (hn : n < D.blocks) : Calls Try.prog 38 #[.pointer (some ⟨pb, 0, none⟩), .int .i64 n] w (RdPgPost w pb (if D.dead = true then [] else D.block n) (if D.dead = true then 12 else 0)) := by
  have T := Ticks.set pb 11 w c11 (wrap64 (x + 1))
  have H1 := Lib.hid (h.keeps T.keeps (fun k hk e => hG (by rw [← e]; exact hk)))
  have HT := Lib.hid T
  clear T h
  cases hd : D.dead with
  | true =>
    simp only [if_true]
    have HD := Lib.hid hd
    clear hd
    go_enter Try.func38, Try.ntmps38
    go_wp2_with (first
      | (go_at_call 40; refine (at_add c11 f11).mono ?_; rintro e w3 ⟨rfl, rfl⟩)
      | (go_at_call 48; refine (dk_read_dead H1.out HD.out n).mono ?_; rintro e w3 ⟨a, c, rfl, hr, hnew, hB⟩; have X := Lib.hid (And.intro hr (And.intro hnew hB)); clear hr hnew hB))
    go_ret2
    exact ⟨a, c, rfl, X.out.1, fun k hk => by have := X.out.2.1 k hk; simpa [World.setCell] using this, HT.out.then_below hpb X.out.2.2⟩
  | false =>
    simp only [Bool.false_eq_true, if_false]
    have HD := Lib.hid hd
    clear hd
    go_enter Try.func38, Try.ntmps38
    go_wp2_with (first
      | (go_at_call 40; refine (at_add c11 f11).mono ?_; rintro e w3 ⟨rfl, rfl⟩)
      | (go_at_call 48; refine (dk_read H1.out HD.out n hn).mono ?_; rintro e w3 ⟨a, c, rfl, hr, hnew, hB⟩; have X := Lib.hid (And.intro hr (And.intro hnew hB)); clear hr hnew hB))
    go_ret2
    exact ⟨a, c, rfl, X.out.1, fun k hk => by have := X.out.2.1 k hk; simpa [World.setCell] using this, HT.out.then_below hpb X.out.2.2⟩
end Go.Proofs.Ytjbomdhlfjcgmaa
