/-
  package pager: Free, Read.
-/
import Derived.Test.YtjbomdhlfjcgmaaPgF
namespace Go.Proofs.Ytjbomdhlfjcgmaa
set_option linter.unusedSimpArgs false
set_option linter.unusedVariables false
open Go.RowKit

/-- What pagers are. -/
structure PgWf (S : PgS) : Prop where
  lo : 64 ≤ S.blocks
  hi : S.blocks ≤ 16384
  taken : ∀ n, S.taken n = true → firstN S.blocks ≤ n ∧ n < S.blocks
  fresh : ∀ n zs, S.fresh n = some zs → firstN S.blocks ≤ n ∧ n < S.blocks ∧ S.taken n = false ∧ zs.length ≤ 496
  freed : ∀ n, S.freed n = true → S.taken n = true
  many : S.many = cnt S.taken S.blocks
  next : firstN S.blocks ≤ S.next ∧ S.next < S.blocks
  root : S.root.length ≤ 64
  seq : S.seq < 1000000000000000000

/-- Is a committed page there still? -/
def PgS.there (S : PgS) (x : Int) : Bool := decide (0 < x) && decide (x < S.blocks) && S.taken x.toNat && !S.freed x.toNat
theorem zeroInt (w : World) : (zeroValue 3).run Try.prog w = .ok (.int .i64 0) w := by kernel_rfl

theorem NMap.raw {w : World} {fb N : Nat} {q : Nat → Bool} (h : NMap w fb q N) (x : Int) (hw : (Lit.int .i64 x).wf = true) :
    ∃ v, (Instr.lookup 76 (.map (some fb)) (.int .i64 x) true).run Try.prog w = .ok (.tuple #[v, .bool (decide (0 ≤ x) && q x.toNat)]) w := by
  obtain ⟨f, hm, h1, h2⟩ := h.ex
  have hr := hm.look (P := Try.prog) (k := 3) (t := 76) (e := 3) Try.underlying3 Try.underlying76 (zeroInt w) x hw true
  refine ⟨(f x).getD (.int .i64 0), hr.trans ?_⟩
  have e : (f x).isSome = (decide (0 ≤ x) && q x.toNat) := by
    cases hf : f x with
    | none =>
      by_cases h0 : 0 ≤ x
      · cases hq : q x.toNat with
        | false => simp
        | true =>
          have := h2 x.toNat hq
          rw [Int.toNat_of_nonneg h0, hf] at this
          cases this
      · simp [h0]
    | some v =>
      obtain ⟨h0, hq⟩ := h1 x v hf
      simp [h0, hq]
  rw [e]
  rfl

set_option maxRecDepth 100000 in
set_option maxHeartbeats 800000 in
theorem pg_there {w : World} {pb db : Nat} {F : Nat → Prop} {S : PgS} (h : PgAt w pb db F S) (hN : S.blocks ≤ 16384) (x : Int) (hw : (Lit.int .i64 x).wf = true) :
    Calls Try.prog 37 #[.pointer (some ⟨pb, 0, none⟩), .int .i64 x] w fun e w' => e = .returned (.bool (S.there x)) ∧ w = w' := by
  obtain ⟨v5, v6, mb, fb, c, m⟩ := h.ex
  obtain ⟨u, hrun⟩ := m.freed.raw x hw
  have c6 := c.c6
  have c9 := c.c9
  obtain ⟨tb, tc, rfl, htc, htl, hcell⟩ := m.taken
  by_cases h0 : 0 < x
  · have h0' : (0 : Int) ≤ x := by omega
    have hg : (decide (0 ≤ x) && S.freed x.toNat) = S.freed x.toNat := by simp [h0']
    rw [hg] at hrun
    by_cases h1 : x < S.blocks
    · have hc : w.cell? ⟨tb, x.toNat, none⟩ = some (.bool (S.taken x.toNat)) := hcell x.toNat (by omega)
      have E : Hid (S.there x = (S.taken x.toNat && !S.freed x.toNat)) := Lib.hid (by simp [PgS.there, h0, h1])
      have hN' : (S.blocks : Int) ≤ 16384 := by omega
      clear hcell m c h hg
      cases ht : S.taken x.toNat with
      | false =>
        rw [ht] at hc E
        have E2 : Hid (S.there x = false) := Lib.hid (by rw [E.out]; rfl)
        clear ht E
        go_enter Try.func37, Try.ntmps37
        go_wp2
        go_ret
        exact ⟨ret_bool E2.out.symm, rfl⟩
      | true =>
        rw [ht] at hc E
        have E2 : Hid (S.there x = !S.freed x.toNat) := Lib.hid (by rw [E.out]; rfl)
        clear ht E
        generalize S.freed x.toNat = g at *
        go_enter Try.func37, Try.ntmps37
        go_wp2
        go_ret
        exact ⟨ret_bool E2.out.symm, rfl⟩
    · have E : Hid (S.there x = false) := Lib.hid (by simp [PgS.there, h1])
      clear hcell m c h hg
      go_enter Try.func37, Try.ntmps37
      go_wp2
      go_ret
      exact ⟨ret_bool E.out.symm, rfl⟩
  · have E : Hid (S.there x = false) := Lib.hid (by simp [PgS.there, h0])
    clear hcell m c h
    go_enter Try.func37, Try.ntmps37
    go_wp2
    go_ret
    exact ⟨ret_bool E.out.symm, rfl⟩

/-- The map of what was allocated turned. -/
theorem PgAt.turnFresh {w w' : World} {pb db mb fb : Nat} {F F' : Nat → Prop} {S : PgS} {v5 v6 : Value} {g : Nat → Option (List UInt8)} (c : PgCells w pb db S v5 v6 mb fb) (m : PgMem w F pb S v5 v6 mb fb) (own : F pb) (lim : ∀ k, F k → k < w.heap.size)
    (hold : ∀ k, k < w.heap.size → k ≠ mb → w'.heap[k]? = w.heap[k]?) (hs : w.heap.size ≤ w'.heap.size) (hF : ∀ k, F k → F' k) (lim' : ∀ k, F' k → k < w'.heap.size) (hb : BMap w' (RO F' pb mb fb) mb g S.blocks) : PgAt w' pb db F' { S with fresh := g } :=
  have hpb := hold pb (lim pb own) (Ne.symm m.ne1)
  have c' := c.stay hpb
  ⟨⟨v5, v6, mb, fb, ⟨c'.c0, c'.c4, c'.c5, c'.c6, c'.c7, c'.c8, c'.c9, c'.c10, c'.c11, c'.c12, c'.frz⟩,
    ⟨m.ne1, m.ne2, m.ne3, hF _ m.fm, hF _ m.ff, m.root.stay (fun k hk => hold k (m.root.blk k hk) (m.root' k hk).2.2.1) hs, fun k hk => ⟨hF k (m.root' k hk).1, (m.root' k hk).2⟩, m.taken.stay (fun k hk hv => hold k hk (m.taken' k hv).2.2.1) hs, fun k hk => ⟨hF k (m.taken' k hk).1, (m.taken' k hk).2⟩,
      hb, m.freed.stay (hold fb m.freed.blt (Ne.symm m.ne3))⟩⟩, hF _ own, lim'⟩
/-- The map of what was freed turned. -/
theorem PgAt.turnFreed {w w' : World} {pb db mb fb : Nat} {F : Nat → Prop} {S : PgS} {v5 v6 : Value} {q : Nat → Bool} (c : PgCells w pb db S v5 v6 mb fb) (m : PgMem w F pb S v5 v6 mb fb) (own : F pb) (lim : ∀ k, F k → k < w.heap.size)
    (hon : Only fb w w') (hb : NMap w' fb q S.blocks) : PgAt w' pb db F { S with freed := q } :=
  have hold : ∀ k, k ≠ fb → w'.heap[k]? = w.heap[k]? := hon.2.2.2.2
  have hs : w.heap.size ≤ w'.heap.size := Nat.le_of_eq hon.2.2.2.1.symm
  have c' := c.stay (hold pb (Ne.symm m.ne2))
  ⟨⟨v5, v6, mb, fb, ⟨c'.c0, c'.c4, c'.c5, c'.c6, c'.c7, c'.c8, c'.c9, c'.c10, c'.c11, c'.c12, c'.frz⟩,
    ⟨m.ne1, m.ne2, m.ne3, m.fm, m.ff, m.root.stay (fun k hk => hold k (m.root' k hk).2.2.2) hs, m.root', m.taken.stay (fun k _ hv => hold k (m.taken' k hv).2.2.2) hs, m.taken',
      m.fresh.stay (hold mb m.ne3) (fun k _ hf => hold k hf.2.2.2) hs, hb⟩⟩, own, fun k hk => by rw [hon.2.2.2.1]; exact lim k hk⟩

theorem NMap.put {w w' : World} {fb N m : Nat} {q : Nat → Bool} {f : Int → Option Value} {v : Value}
    (hf : (∀ x v, f x = some v → 0 ≤ x ∧ q x.toNat = true) ∧ ∀ n : Nat, q n = true → (f n).isSome = true) (hlt : ∀ n, q n = true → n < N) (hq : q m = false) (hm : m < N)
    (h2 : MapI w' fb (upd f m (some v)) (if (f m).isSome then cnt q N else cnt q N + 1)) : NMap w' fb (fun k => decide (k = m) || q k) N := by
  have hfm : (f m).isSome = false := by
    cases hfm : f m with
    | none => rfl
    | some u =>
      have := (hf.1 m u hfm).2
      rw [Int.toNat_natCast, hq] at this
      cases this
  rw [hfm] at h2
  have hc := cnt_set (p := q) (q := fun k => decide (k = m) || q k) (m := m) hq (by simp) (fun n hn => by simp [hn]) N
  rw [if_pos hm] at hc
  refine ⟨⟨upd f m (some v), by rw [hc]; exact h2, fun x u hx => ?_, fun n hn => ?_⟩, fun n hn => ?_⟩
  · by_cases e : x = m
    · subst e; exact ⟨by omega, by simp⟩
    · rw [upd_other _ _ _ e] at hx
      obtain ⟨h0, h1⟩ := hf.1 x u hx
      exact ⟨h0, by simp [h1]⟩
  · by_cases e : n = m
    · subst e; rw [upd_same]; rfl
    · rw [upd_other _ _ _ (by omega)]
      exact hf.2 n (by simpa [e] using hn)
  · by_cases e : n = m
    · omega
    · exact hlt n (by simpa [e] using hn)

/-- Free: the pager behind it, the error (the power is there). -/
def PgS.free (S : PgS) (x : Int) : PgS × Int :=
  if decide (0 ≤ x) && (S.fresh x.toNat).isSome then ({ S with fresh := updN S.fresh x.toNat none }, 0)
  else if S.there x then ({ S with freed := fun k => decide (k = x.toNat) || S.freed k }, 0) else (S, 2)

/-- The pager turned, in its own blocks. -/
def FreePost (w : World) (pb db : Nat) (F G : Nat → Prop) (D : DiskS) (R : PgS × Int) (e : Ending) (w' : World) : Prop := e = .returned (.int .i64 R.2) ∧ PgOn w' pb db F G D R.1 ∧ Keeps F w w'

theorem BMap.raw2 {w : World} {F : Nat → Prop} {mb N : Nat} {g : Nat → Option (List UInt8)} (h : BMap w F mb g N) (x : Int) (hw : (Lit.int .i64 x).wf = true) :
    ∃ a n c, (Instr.lookup 57 (.map (some mb)) (.int .i64 x) true).run Try.prog w = .ok (.tuple #[.slice a n c, .bool (decide (0 ≤ x) && (g x.toNat).isSome)]) w := by
  rcases h.raw x hw (k := 3) (t := 57) Try.underlying3 Try.underlying57 (zeroBytes w) with ⟨hg, hrun⟩ | ⟨a, c, zs, h0, hg, hr, ho, hrun⟩
  · refine ⟨none, 0, 0, hrun.trans ?_⟩
    by_cases h0 : 0 ≤ x
    · rw [hg h0]; simp
    · simp [h0]
  · refine ⟨a, zs.length, c, hrun.trans ?_⟩
    rw [hg]; simp [h0]

set_option maxRecDepth 100000 in
set_option maxHeartbeats 1600000 in
theorem pg_free {w : World} {pb db : Nat} {F G : Nat → Prop} {D : DiskS} {S : PgS} (h : PgOn w pb db F G D S) (wf : PgWf S) (hd : D.dead = false) (x : Int) (hw : (Lit.int .i64 x).wf = true) :
    Calls Try.prog 21 #[.pointer (some ⟨pb, 0, none⟩), .int .i64 x] w (FreePost w pb db F G D (S.free x)) := by
  obtain ⟨v5, v6, mb, fb, c, m⟩ := h.pg.ex
  obtain ⟨a, n, cc, hrun⟩ := m.fresh.raw2 x hw
  have c0 := c.c0
  have c8 := c.c8
  have c9 := c.c9
  have HD := Lib.hid (And.intro h.dk (And.intro hd (And.intro h.pg wf.hi)))
  have hpb := h.pg.own
  cases hf : decide (0 ≤ x) && (S.fresh x.toNat).isSome with
  | true =>
    have E : S.free x = ({ S with fresh := updN S.fresh x.toNat none }, 0) := by unfold PgS.free; rw [if_pos hf]
    rw [hf] at hrun
    obtain ⟨f, hm0, hm1, hm2⟩ := m.fresh.ex
    have hx0 : 0 ≤ x := by by_cases h0 : 0 ≤ x <;> simp [h0] at hf ⊢
    obtain ⟨zs, hzs⟩ : ∃ zs, S.fresh x.toNat = some zs := by
      simp [hx0] at hf
      exact Option.isSome_iff_exists.1 hf
    have hlt := m.fresh.lt _ _ hzs
    have FN : Hid (∀ w2, MapI w2 mb (upd f x none) (if (f x).isSome then cnt (fun k => (S.fresh k).isSome) S.blocks - 1 else cnt (fun k => (S.fresh k).isSome) S.blocks) → Only mb w w2 → FreePost w pb db F G D (S.free x) (.returned (.int .i64 0)) w2) := Lib.hid (fun w2 hm3 hon => by
      rw [E]
      have hx : x = ((x.toNat : Nat) : Int) := (Int.toNat_of_nonneg hx0).symm
      rw [hx] at hm3
      have hb := m.fresh.drop (w' := w2) (m := x.toNat) ⟨hm1, hm2⟩ hm3 hon hlt
      have hk : Keeps F w w2 := hon.keeps (fun _ => m.fm)
      have hs := hon.2.2.2.1
      exact ⟨rfl, ⟨h.dk.keeps hk (fun k hk1 hk2 => h.dis k hk2 hk1), PgAt.turnFresh c m h.pg.own h.pg.lim (fun k _ hk => hon.2.2.2.2 k hk) (Nat.le_of_eq hs.symm) (fun _ h => h) (fun k hk => by rw [hs]; exact h.pg.lim k hk) hb, h.bl, h.dis⟩, hk⟩)
    have HM := Lib.hid hm0
    clear hm0 hm1 hm2 m c h wf E hf hzs hlt hd
    go_enter Try.func21, Try.ntmps21
    go_wp2_with (first
      | (go_at_call 22; refine (dk_dead HD.out.1).mono ?_; rw [HD.out.2.1]; rintro e w' ⟨rfl, rfl⟩)
      | (at_delete; refine wpList_delI _ rfl _ _ 57 3 rfl 22 Try.underlying3 Try.underlying57 mb _ f rfl HM.out x rfl hw ?_; intro w2 hm2 hon2; have X := Lib.hid (FN.out w2 hm2 hon2); clear hm2 hon2))
    go_ret
    exact X.out
  | false =>
    rw [hf] at hrun
    cases ht : S.there x with
    | true =>
      have E : S.free x = ({ S with freed := fun k => decide (k = x.toNat) || S.freed k }, 0) := by unfold PgS.free; rw [if_neg (by simp [hf]), if_pos ht]
      obtain ⟨f, hm0, hm1, hm2⟩ := m.freed.ex
      have hx : 0 < x ∧ x < S.blocks ∧ S.taken x.toNat = true ∧ S.freed x.toNat = false := by
        unfold PgS.there at ht
        simp at ht
        exact ⟨ht.1.1.1, ht.1.1.2, ht.1.2, ht.2⟩
      have FN : Hid (∀ w2 v, MapI w2 fb (upd f x (some v)) (if (f x).isSome then cnt S.freed S.blocks else cnt S.freed S.blocks + 1) → Only fb w w2 → FreePost w pb db F G D (S.free x) (.returned (.int .i64 0)) w2) := Lib.hid (fun w2 v hm3 hon => by
        rw [E]
        have hxe : x = ((x.toNat : Nat) : Int) := (Int.toNat_of_nonneg (by omega)).symm
        rw [hxe] at hm3
        have hb := NMap.put (w := w) (w' := w2) (m := x.toNat) ⟨hm1, hm2⟩ m.freed.lt hx.2.2.2 (by omega) hm3
        have hk : Keeps F w w2 := hon.keeps (fun _ => m.ff)
        exact ⟨rfl, ⟨h.dk.keeps hk (fun k hk1 hk2 => h.dis k hk2 hk1), PgAt.turnFreed c m h.pg.own h.pg.lim hon hb, h.bl, h.dis⟩, hk⟩)
      have HM := Lib.hid (And.intro hm0 (And.intro ht (Nat.lt_of_le_of_lt (cnt_le S.freed S.blocks) (show S.blocks < maxLen by have := wf.hi; unfold maxLen; omega))))
      clear hm0 hm1 hm2 m c h wf E hf hd hx ht
      go_enter Try.func21, Try.ntmps21
      go_wp2_with (first
        | (go_at_call 22; refine (dk_dead HD.out.1).mono ?_; rw [HD.out.2.1]; rintro e w' ⟨rfl, rfl⟩)
        | (go_at_call 37; refine (pg_there HD.out.2.2.1 HD.out.2.2.2 x hw).mono ?_; rw [HM.out.2.1]; rintro e w' ⟨rfl, rfl⟩)
        | (at_mapUpdate; refine wpList_storeI _ rfl _ _ _ 76 rfl 3 3 Try.underlying3 Try.underlying76 fb _ f rfl HM.out.1 HM.out.2.2 x rfl hw _ rfl ?_; intro w2 hm2 hon2; have X := Lib.hid (FN.out w2 _ hm2 hon2); clear hm2 hon2))
      go_ret
      exact X.out
    | false =>
      have E : S.free x = (S, 2) := by unfold PgS.free; rw [if_neg (by simp [hf]), if_neg (by simp [ht])]
      rw [E]
      have HM := Lib.hid (And.intro ht h)
      clear m c h wf E hf hd ht
      go_enter Try.func21, Try.ntmps21
      go_wp2_with (first
        | (go_at_call 22; refine (dk_dead HD.out.1).mono ?_; rw [HD.out.2.1]; rintro e w' ⟨rfl, rfl⟩)
        | (go_at_call 37; refine (pg_there HD.out.2.2.1 HD.out.2.2.2 x hw).mono ?_; rw [HM.out.1]; rintro e w' ⟨rfl, rfl⟩))
      go_ret
      exact ⟨rfl, HM.out.2, Keeps.refl _ _⟩
theorem pg_free_dead {w : World} {pb db : Nat} {F G : Nat → Prop} {D : DiskS} {S : PgS} (h : PgOn w pb db F G D S) (hd : D.dead = true) (x : Int) (hw : (Lit.int .i64 x).wf = true) :
    Calls Try.prog 21 #[.pointer (some ⟨pb, 0, none⟩), .int .i64 x] w (FreePost w pb db F G D (S, 12)) := by
  obtain ⟨v5, v6, mb, fb, c, m⟩ := h.pg.ex
  obtain ⟨a, n, cc, hrun⟩ := m.fresh.raw2 x hw
  have c0 := c.c0
  have c8 := c.c8
  have HD := Lib.hid (And.intro h.dk (And.intro hd h))
  clear m c h hd
  generalize (decide (0 ≤ x) && (S.fresh x.toNat).isSome) = g at *
  go_enter Try.func21, Try.ntmps21
  go_wp2_with (go_at_call 22; refine (dk_dead HD.out.1).mono ?_; rw [HD.out.2.1]; rintro e w' ⟨rfl, rfl⟩)
  go_ret
  exact ⟨rfl, HD.out.2.2, Keeps.refl _ _⟩

/-! Read. -/

/-- Bytes of its own are answered, an error beside; the pager is as it was. -/
def PgRdPost (w : World) (pb db : Nat) (F G : Nat → Prop) (D : DiskS) (S : PgS) (zs : List UInt8) (er : Int) (e : Ending) (w' : World) : Prop :=
  ∃ (a : Option Addr) (c : Nat), e = .returned (.tuple #[.slice a zs.length c, .int .i64 er]) ∧ Reads w' (.slice a zs.length c) zs ∧ (∀ k, (Value.slice a zs.length c).ownBlock = some k → w.heap.size ≤ k) ∧ PgOn w' pb db F G D S ∧ Keeps (fun k => k = pb) w w'
theorem Reads.sub {w : World} {a : Option Addr} {n c i m : Nat} {zs : List UInt8} (h : Reads w (.slice a n c) zs) (hn : n = zs.length) (hi : i + m ≤ n) (h0 : 0 < n) : ∃ b off, a = some ⟨b, off, none⟩ ∧ n ≤ c ∧ Reads w (.slice (some ⟨b, off + i, none⟩) m (c - i)) ((zs.drop i).take m) := by
  subst hn
  rcases h with ⟨h1, h2⟩ | ⟨b, off, cap, h1, h2, h3, h4⟩
  · rw [h2] at h0; simp at h0
  · cases h1
    have hl : ((zs.drop i).take m).length = m := by rw [List.length_take, List.length_drop]; omega
    refine ⟨b, off, rfl, h2, .inr ⟨b, off + i, c - i, by rw [hl], by rw [hl]; omega, h3, fun j x hj => ?_⟩⟩
    rw [Nat.add_assoc]
    apply h4
    rw [List.getElem?_take] at hj
    split at hj
    · rw [List.getElem?_drop] at hj; exact hj
    · cases hj

theorem Reads.front {w : World} {b off n c m : Nat} {zs : List UInt8} (h : Reads w (.slice (some ⟨b, off, none⟩) n c) zs) (hn : n = zs.length) (hm : m ≤ n) : Reads w (.slice (some ⟨b, off, none⟩) m c) (zs.take m) := by
  subst hn
  rcases h with ⟨h1, h2⟩ | ⟨b', off', cap, h1, h2, h3, h4⟩
  · cases h1
  · cases h1
    have hl : (zs.take m).length = m := by rw [List.length_take]; omega
    refine .inr ⟨b, off, c, by rw [hl], by rw [hl]; omega, h3, fun j x hj => h4 j x ?_⟩
    rw [List.getElem?_take] at hj
    split at hj
    · exact hj
    · cases hj
theorem Reads.mid {w : World} {b off n c i m : Nat} {zs : List UInt8} (h : Reads w (.slice (some ⟨b, off, none⟩) n c) zs) (hn : n = zs.length) (hi : i + m ≤ n) (h0 : 0 < n) : Reads w (.slice (some ⟨b, off + i, none⟩) m (c - i)) ((zs.drop i).take m) := by
  obtain ⟨b', off', e, _, hr⟩ := h.sub hn hi h0
  cases e
  exact hr
def BlkPost (w : World) (pb : Nat) (zs : List UInt8) (e : Ending) (w' : World) : Prop :=
  ∃ b off c, e = .returned (.tuple #[.slice (some ⟨b, off, none⟩) 512 c, .int .i64 0]) ∧ 512 ≤ c ∧ Reads w' (.slice (some ⟨b, off, none⟩) 512 c) zs ∧ w.heap.size ≤ b ∧ Ticks pb 11 w w'
theorem pg_blk {w : World} {pb db : Nat} {F G : Nat → Prop} {D : DiskS} {S : PgS} (h : PgOn w pb db F G D S) (hd : D.dead = false) (n : Nat) (hn : n < D.blocks) :
    Calls Try.prog 38 #[.pointer (some ⟨pb, 0, none⟩), .int .i64 n] w (BlkPost w pb (D.block n)) := by
  obtain ⟨v5, v6, mb, fb, c, m⟩ := h.pg.ex
  obtain ⟨x, c11⟩ := c.c11
  refine (pg_read (F := F) h.dk h.pg.lt h.npb c.c0 c11 (c.frz 11) n hn).mono ?_
  rintro e w' ⟨a, cc, he, hr, hnew, hT⟩
  simp only [hd, Bool.false_eq_true, if_false] at he hr hnew
  have hl := DiskS.block_length h.dk.wf n
  obtain ⟨b, off, rfl, h2, _⟩ := hr.sub (i := 0) (m := 0) rfl (by omega) (by omega)
  rw [hl] at he hr h2
  exact ⟨b, off, cc, he, h2, hr, hnew b (by rw [hl]; rfl), hT⟩

set_option maxRecDepth 100000 in
set_option maxHeartbeats 1600000 in
theorem pg_rd_page {w : World} {pb db : Nat} {F G : Nat → Prop} {D : DiskS} {S : PgS} (h : PgOn w pb db F G D S) (wf : PgWf S) (hd : D.dead = false) (x : Int) (hw : (Lit.int .i64 x).wf = true) (ht : S.there x = true) (zs : List UInt8)
    (hp : D.block x.toNat = pageB zs) (hz : zs.length ≤ 496) : Calls Try.prog 14 #[.pointer (some ⟨pb, 0, none⟩), .int .i64 x] w (PgRdPost w pb db F G D S zs 0) := by
  obtain ⟨v5, v6, mb, fb, c, m⟩ := h.pg.ex
  obtain ⟨a, n, cc, hrun⟩ := m.fresh.raw2 x hw
  have hx : 0 < x ∧ x < S.blocks ∧ S.taken x.toNat = true := by
    unfold PgS.there at ht
    simp at ht
    exact ⟨ht.1.1.1, ht.1.1.2, ht.1.2⟩
  have hf : (decide (0 ≤ x) && (S.fresh x.toNat).isSome) = false := by
    cases hs : S.fresh x.toNat with
    | none => simp
    | some ys => have := (wf.fresh _ _ hs).2.2.1; rw [hx.2.2] at this; cases this
  rw [hf] at hrun
  have c0 := c.c0
  have c8 := c.c8
  have HD := Lib.hid (And.intro h.dk (And.intro hd (And.intro h.pg (And.intro wf.hi (And.intro ht h)))))
  obtain ⟨k, rfl⟩ : ∃ k : Nat, x = k := ⟨x.toNat, (Int.toNat_of_nonneg (by omega)).symm⟩
  rw [Int.toNat_natCast] at hp
  have hkb : k < D.blocks := by have := h.bl; omega
  have HP := Lib.hid (And.intro hp (And.intro hz hkb))
  have hz' : (zs.length : Int) ≤ 496 := by omega
  have hz2 : ((2 : Int) + (zs.length : Int)).toNat = 2 + zs.length := by omega
  clear hp hz hkb m c h wf hf hd hx ht hw
  go_enter Try.func14, Try.ntmps14
  go_wp2_with (first
    | (go_at_call 22; refine (dk_dead HD.out.1).mono ?_; rw [HD.out.2.1]; rintro e w' ⟨rfl, rfl⟩)
    | (go_at_call 37; refine (pg_there HD.out.2.2.1 HD.out.2.2.2.1 (k : Int) (wf_small k (by have := HP.out.2.2; have := HD.out.1.wf.hi; omega))).mono ?_; rw [HD.out.2.2.2.2.1]; rintro e w' ⟨rfl, rfl⟩)
    | (go_at_call 38; refine (pg_blk HD.out.2.2.2.2.2 HD.out.2.1 k HP.out.2.2).mono ?_; rintro e w1 ⟨b, off, c1, rfl, hc1, hr, hnew, hT⟩; rw [HP.out.1] at hr; have X1 := Lib.hid (And.intro hr (And.intro hnew hT)); clear hr hnew hT)
    | (go_at_call 39; go_must (refine (pg_get _ ((pageB zs).take 2) w1 (X1.out.1.front (m := 2) (pageB_length HP.out.2.1).symm (by omega)) (by rw [List.length_take]; omega) (by rw [pageB_len zs HP.out.2.1]; omega)).mono ?_; rw [pageB_len zs HP.out.2.1]; rintro e w' ⟨rfl, rfl⟩))
    | (go_at_call 34; go_must (have RB := X1.out.1.mid (i := 2) (m := zs.length) (pageB_length HP.out.2.1).symm (by have := HP.out.2.1; omega) (by omega); rw [pageB_body] at RB; refine (clone_bytes _ zs w1 RB (fits_of _ (by have := HP.out.2.1; omega))).mono ?_; rintro e w2 ⟨v', rfl, hv, hnew, hB⟩; obtain ⟨a', c', rfl⟩ := hv.len); have X2 := Lib.hid (And.intro hv (And.intro hnew hB)); clear hv hnew hB RB))
  go_ret2
  exact ⟨a', c', rfl, X2.out.1, fun j hj => Nat.le_trans X1.out.2.2.keeps.size (X2.out.2.1 j hj), (HD.out.2.2.2.2.2.ticks X1.out.2.2 (.inl rfl)).below X2.out.2.2, X1.out.2.2.keeps.trans (Keeps.of_below X2.out.2.2)⟩
set_option maxRecDepth 100000 in
set_option maxHeartbeats 800000 in
theorem pg_rd_fresh {w : World} {pb db : Nat} {F G : Nat → Prop} {D : DiskS} {S : PgS} (h : PgOn w pb db F G D S) (wf : PgWf S) (hd : D.dead = false) (k : Nat) (zs : List UInt8) (hf : S.fresh k = some zs) :
    Calls Try.prog 14 #[.pointer (some ⟨pb, 0, none⟩), .int .i64 k] w (PgRdPost w pb db F G D S zs 0) := by
  obtain ⟨v5, v6, mb, fb, c, m⟩ := h.pg.ex
  have hk := wf.fresh _ _ hf
  have hb := wf.hi
  have hw := wf_small k (by omega)
  rcases m.fresh.raw k hw (k := 3) (t := 57) Try.underlying3 Try.underlying57 (zeroBytes w) with ⟨hg, hrun⟩ | ⟨a, cc, ys, h0, hg, hr, ho, hrun⟩
  · have := hg (by omega)
    rw [Int.toNat_natCast, hf] at this
    cases this
  rw [Int.toNat_natCast, hf] at hg
  cases hg
  have c0 := c.c0
  have c8 := c.c8
  have HD := Lib.hid (And.intro h.dk (And.intro hd (And.intro h (And.intro hr hk.2.2.2))))
  clear m c h wf hd hf ho hr hk hb hw
  go_enter Try.func14, Try.ntmps14
  go_wp2_with (first
    | (go_at_call 22; refine (dk_dead HD.out.1).mono ?_; rw [HD.out.2.1]; rintro e w' ⟨rfl, rfl⟩)
    | (go_at_call 34; go_must (refine (clone_bytes _ zs w HD.out.2.2.2.1 (fits_of _ (by have := HD.out.2.2.2.2; omega))).mono ?_; rintro e w2 ⟨v', rfl, hv, hnew, hB⟩; obtain ⟨a', c', rfl⟩ := hv.len); have X2 := Lib.hid (And.intro hv (And.intro hnew hB)); clear hv hnew hB))
  go_ret2
  exact ⟨a', c', rfl, X2.out.1, X2.out.2.1, HD.out.2.2.1.below X2.out.2.2, Keeps.of_below X2.out.2.2⟩
set_option maxRecDepth 100000 in
set_option maxHeartbeats 800000 in
theorem pg_rd_none {w : World} {pb db : Nat} {F G : Nat → Prop} {D : DiskS} {S : PgS} (h : PgOn w pb db F G D S) (hN : S.blocks ≤ 16384) (hd : D.dead = false) (x : Int) (hw : (Lit.int .i64 x).wf = true) (hf : (decide (0 ≤ x) && (S.fresh x.toNat).isSome) = false) (ht : S.there x = false) :
    Calls Try.prog 14 #[.pointer (some ⟨pb, 0, none⟩), .int .i64 x] w (PgRdPost w pb db F G D S [] 2) := by
  obtain ⟨v5, v6, mb, fb, c, m⟩ := h.pg.ex
  obtain ⟨a, n, cc, hrun⟩ := m.fresh.raw2 x hw
  rw [hf] at hrun
  have c0 := c.c0
  have c8 := c.c8
  have HD := Lib.hid (And.intro h.dk (And.intro hd (And.intro h (And.intro hN (And.intro ht hw)))))
  clear m c h hN hd hf ht hw
  go_enter Try.func14, Try.ntmps14
  go_wp2_with (first
    | (go_at_call 22; refine (dk_dead HD.out.1).mono ?_; rw [HD.out.2.1]; rintro e w' ⟨rfl, rfl⟩)
    | (go_at_call 37; refine (pg_there HD.out.2.2.1.pg HD.out.2.2.2.1 x HD.out.2.2.2.2.2).mono ?_; rw [HD.out.2.2.2.2.1]; rintro e w' ⟨rfl, rfl⟩))
  go_ret2
  exact ⟨none, 0, rfl, Reads.nil _, (fun k hk => (by cases hk)), HD.out.2.2.1, Keeps.refl _ _⟩
set_option maxRecDepth 100000 in
set_option maxHeartbeats 800000 in
theorem pg_rd_dead {w : World} {pb db : Nat} {F G : Nat → Prop} {D : DiskS} {S : PgS} (h : PgOn w pb db F G D S) (hd : D.dead = true) (x : Int) (hw : (Lit.int .i64 x).wf = true) :
    Calls Try.prog 14 #[.pointer (some ⟨pb, 0, none⟩), .int .i64 x] w (PgRdPost w pb db F G D S [] 12) := by
  obtain ⟨v5, v6, mb, fb, c, m⟩ := h.pg.ex
  obtain ⟨a, n, cc, hrun⟩ := m.fresh.raw2 x hw
  have c0 := c.c0
  have c8 := c.c8
  have HD := Lib.hid (And.intro h.dk (And.intro hd h))
  clear m c h hd hw
  generalize (decide (0 ≤ x) && (S.fresh x.toNat).isSome) = g at *
  go_enter Try.func14, Try.ntmps14
  go_wp2_with (go_at_call 22; refine (dk_dead HD.out.1).mono ?_; rw [HD.out.2.1]; rintro e w' ⟨rfl, rfl⟩)
  go_ret2
  exact ⟨none, 0, rfl, Reads.nil _, (fun k hk => (by cases hk)), HD.out.2.2, Keeps.refl _ _⟩
end Go.Proofs.Ytjbomdhlfjcgmaa
