/-
  package pager: Free, Abort, Left, Read of what is not there, over what is committed.
-/
import Derived.Test.YtjbomdhlfjcgmaaPgT
namespace Go.Proofs.Ytjbomdhlfjcgmaa
set_option linter.unusedSimpArgs false
set_option linter.unusedVariables false
open Go.RowKit

/-- What is there at a number. -/
theorem now_has {D : DiskS} {S : PgS} {C : Comm} (h : PgInv D S C) {n : Nat} {zs : List UInt8} (hn : nowP S C n = some zs) :
    (S.fresh n = some zs ∧ S.taken n = false ∧ S.freed n = false ∧ C.pages n = none) ∨ (S.fresh n = none ∧ S.freed n = false ∧ S.taken n = true ∧ C.pages n = some zs) := by
  unfold nowP at hn
  cases hf : S.fresh n with
  | some ys =>
    rw [hf] at hn
    cases hn
    have ht := (h.wf.fresh n zs hf).2.2.1
    refine .inl ⟨rfl, ht, ?_, ?_⟩
    · cases hq : S.freed n with
      | false => rfl
      | true => rw [h.wf.freed n hq] at ht; cases ht
    · rw [h.has] at ht
      unfold Comm.has at ht
      cases hp : C.pages n with
      | none => rfl
      | some b => rw [hp] at ht; cases ht
  | none =>
    rw [hf] at hn
    have hq : S.freed n = false := by
      cases hq : S.freed n with
      | false => rfl
      | true => simp [hq] at hn
    have hp : C.pages n = some zs := by simpa [hq] using hn
    exact .inr ⟨rfl, hq, by rw [h.has]; unfold Comm.has; rw [hp]; rfl, hp⟩
theorem now_range {D : DiskS} {S : PgS} {C : Comm} (h : PgInv D S C) {n : Nat} {zs : List UInt8} (hn : nowP S C n = some zs) : firstN D.blocks ≤ n ∧ n < D.blocks ∧ zs.length ≤ 496 := by
  rcases now_has h hn with ⟨h1, _⟩ | ⟨_, _, _, h4⟩
  · have := h.wf.fresh n zs h1
    rw [← h.bl]
    exact ⟨this.1, this.2.1, this.2.2.2⟩
  · have := h.ok.pages n zs h4
    exact ⟨this.1, this.2.1, this.2.2.1⟩
theorem there_has {D : DiskS} {S : PgS} {C : Comm} (h : PgInv D S C) {x : Int} (hx : S.there x = true) (hf : S.fresh x.toNat = none) : 0 ≤ x ∧ nowP S C x.toNat ≠ none := by
  unfold PgS.there at hx
  simp only [Bool.and_eq_true, decide_eq_true_eq, Bool.not_eq_true'] at hx
  obtain ⟨⟨⟨h1, h2⟩, h3⟩, h4⟩ := hx
  refine ⟨by omega, ?_⟩
  rw [h.has] at h3
  obtain ⟨b, hb⟩ := Option.isSome_iff_exists.1 h3
  unfold nowP
  rw [hf, h4, hb]
  simp
/-- Where nothing is. -/
theorem now_no {D : DiskS} {S : PgS} {C : Comm} (h : PgInv D S C) {x : Int} (hx : 0 ≤ x → nowP S C x.toNat = none) : (decide (0 ≤ x) && (S.fresh x.toNat).isSome) = false ∧ S.there x = false := by
  have hf : 0 ≤ x → S.fresh x.toNat = none := fun h0 => by
    have := hx h0
    unfold nowP at this
    cases hf : S.fresh x.toNat with
    | none => rfl
    | some ys => rw [hf] at this; cases this
  constructor
  · by_cases h0 : 0 ≤ x
    · rw [hf h0]; simp
    · simp [h0]
  · cases ht : S.there x with
    | false => rfl
    | true =>
      have h0 : 0 ≤ x := by
        unfold PgS.there at ht
        simp only [Bool.and_eq_true, decide_eq_true_eq] at ht
        omega
      exact absurd (hx h0) (there_has h ht (hf h0)).2
theorem free_no {D : DiskS} {S : PgS} {C : Comm} (h : PgInv D S C) {x : Int} (hx : 0 ≤ x → nowP S C x.toNat = none) : S.free x = (S, 2) := by
  obtain ⟨h1, h2⟩ := now_no h hx
  unfold PgS.free
  rw [h1, h2]
  rfl
/-- A page is freed. -/
theorem free_yes {D : DiskS} {S : PgS} {C : Comm} (h : PgInv D S C) {n : Nat} {zs : List UInt8} (hn : nowP S C n = some zs) :
    (S.free n).2 = 0 ∧ PgInv D (S.free n).1 C ∧ (∀ k, nowP (S.free n).1 C k = if k = n then none else nowP S C k) ∧ S.left ≤ (S.free n).1.left ∧
    cnt (fun k => ((S.free n).1.fresh k).isSome) (S.free n).1.blocks ≤ cnt (fun k => (S.fresh k).isSome) S.blocks := by
  have hb := h.bl
  rcases now_has h hn with ⟨h1, h2, h3, h4⟩ | ⟨h1, h2, h3, h4⟩
  · have e : S.free n = ({ S with fresh := updN S.fresh n none }, 0) := by
      unfold PgS.free
      rw [show ((n : Int)).toNat = n from rfl, h1]
      simp
    have hlt := (h.wf.fresh n zs h1).2.1
    have hc : cnt (fun k => (S.fresh k).isSome) S.blocks = cnt (fun k => (updN S.fresh n none k).isSome) S.blocks + 1 := by
      rw [cnt_set (p := fun k => (updN S.fresh n none k).isSome) (q := fun k => (S.fresh k).isSome) (m := n) (by rw [updN_same]; rfl) (by rw [h1]; rfl) (fun k hk => by rw [updN_other _ _ _ hk]), if_pos hlt]
    rw [e]
    refine ⟨rfl, ⟨h.ok, ⟨h.wf.lo, h.wf.hi, h.wf.taken, fun k ys hk => ?_, h.wf.freed, h.wf.many, h.wf.next, h.wf.root, h.wf.seq⟩, hb, h.seq, h.root, h.has⟩, fun k => ?_, ?_, ?_⟩
    · have hk' : updN S.fresh n none k = some ys := hk
      by_cases e : k = n
      · subst e; rw [updN_same] at hk'; cases hk'
      · rw [updN_other _ _ _ e] at hk'; exact h.wf.fresh k ys hk'
    · show (match updN S.fresh n none k with | some zs => some zs | none => if S.freed k = true then none else C.pages k) = _
      by_cases e : k = n
      · subst e; rw [updN_same, if_pos rfl, h3, h4]; rfl
      · rw [updN_other _ _ _ e, if_neg e]; rfl
    · show S.left ≤ (S.blocks : Int) - firstN S.blocks - S.many - (cnt (fun k => (updN S.fresh n none k).isSome) S.blocks : Nat)
      unfold PgS.left
      rw [hc]
      omega
    · show cnt (fun k => (updN S.fresh n none k).isSome) S.blocks ≤ _
      omega
  · have hr := h.ok.pages n zs h4
    have hfe : firstN D.blocks = 2 + 2 * mapsN D.blocks := rfl
    have ht : S.there n = true := by
      unfold PgS.there
      have e1 : (0 : Int) < (n : Int) := by omega
      have e2 : (n : Int) < (S.blocks : Int) := by omega
      rw [show ((n : Int)).toNat = n from rfl, h3, h2]
      have e3 : 0 < n := by omega
      simp [e1, e2, e3]
    have e : S.free n = ({ S with freed := fun k => decide (k = n) || S.freed k }, 0) := by
      unfold PgS.free
      rw [show ((n : Int)).toNat = n from rfl, h1, ht]
      simp
    rw [e]
    refine ⟨rfl, ⟨h.ok, ⟨h.wf.lo, h.wf.hi, h.wf.taken, h.wf.fresh, fun k hk => ?_, h.wf.many, h.wf.next, h.wf.root, h.wf.seq⟩, hb, h.seq, h.root, h.has⟩, fun k => ?_, Int.le_refl _, Nat.le_refl _⟩
    · have hk' : (decide (k = n) || S.freed k) = true := hk
      by_cases e : k = n
      · rw [e]; exact h3
      · simp [e] at hk'; exact h.wf.freed k hk'
    · show (match S.fresh k with | some zs => some zs | none => if (decide (k = n) || S.freed k) = true then none else C.pages k) = _
      by_cases e : k = n
      · subst e; rw [h1]; simp
      · rw [if_neg e, show (decide (k = n) || S.freed k) = S.freed k by simp [e]]
        rfl
theorem clean_inv {D : DiskS} {S : PgS} {C : Comm} (h : PgInv D S C) : PgInv D S.clean C := by
  have hfe : firstN S.blocks = 2 + 2 * mapsN S.blocks := rfl
  have := maps_le h.wf.hi
  have := h.wf.lo
  exact ⟨h.ok, ⟨h.wf.lo, h.wf.hi, h.wf.taken, fun k ys hk => (by cases hk), fun k hk => (by cases hk), h.wf.many, ⟨Nat.le_refl _, by show firstN S.blocks < S.blocks; omega⟩, h.wf.root, h.wf.seq⟩, h.bl, h.seq, h.root, h.has⟩
theorem clean_now (S : PgS) (C : Comm) (n : Nat) : nowP S.clean C n = C.pages n := nowP_clean C (fun _ => rfl) (fun _ => rfl) n
theorem done_now (S : PgS) (C : Comm) (root : List UInt8) (n : Nat) : nowP (S.done root) (commC S C root) n = nowP S C n := by
  rw [nowP_clean _ (fun _ => rfl) (fun _ => rfl), commC_pages]

/-! The calls. -/
theorem ub_free {w0 w : World} {pb db : Nat} {F G : Nat → Prop} {D : DiskS} {S : PgS} {C : Comm} (h : UpB w0 w pb db F G D S C) (n : Nat) (zs : List UInt8) (hn : nowP S C n = some zs) :
    Calls Try.prog 21 #[.pointer (some ⟨pb, 0, none⟩), .int .i64 n] w (fun e w' => e = .returned (.int .i64 0) ∧ UpB w0 w' pb db F G D (S.free n).1 C ∧ Keeps F w w') := by
  have hr := now_range h.up.inv hn
  have hi := h.up.inv.ok.wf.hi
  obtain ⟨f1, f2, _⟩ := free_yes h.up.inv hn
  refine (pg_free h.up.on h.up.inv.wf h.alive n (wf_small n (by omega))).mono ?_
  rintro e w' ⟨he, hon, hk⟩
  rw [f1] at he
  exact ⟨he, ⟨⟨hon, f2⟩, Keeps.below_new h.bel hk (fun j hj => h.own j (.inl hj)), h.own, h.alive, h.free⟩, hk⟩
theorem ub_free_no {w0 w : World} {pb db : Nat} {F G : Nat → Prop} {D : DiskS} {S : PgS} {C : Comm} (h : UpB w0 w pb db F G D S C) (x : Int) (hw : (Lit.int .i64 x).wf = true) (hx : 0 ≤ x → nowP S C x.toNat = none) :
    Calls Try.prog 21 #[.pointer (some ⟨pb, 0, none⟩), .int .i64 x] w (fun e w' => e = .returned (.int .i64 2) ∧ UpB w0 w' pb db F G D S C ∧ Keeps F w w') := by
  refine (pg_free h.up.on h.up.inv.wf h.alive x hw).mono ?_
  rw [free_no h.up.inv hx]
  rintro e w' ⟨he, hon, hk⟩
  exact ⟨he, ⟨⟨hon, h.up.inv⟩, Keeps.below_new h.bel hk (fun j hj => h.own j (.inl hj)), h.own, h.alive, h.free⟩, hk⟩
theorem ub_read_no {w0 w : World} {pb db : Nat} {F G : Nat → Prop} {D : DiskS} {S : PgS} {C : Comm} (h : UpB w0 w pb db F G D S C) (x : Int) (hw : (Lit.int .i64 x).wf = true) (hx : 0 ≤ x → nowP S C x.toNat = none) :
    Calls Try.prog 14 #[.pointer (some ⟨pb, 0, none⟩), .int .i64 x] w (UbRead w0 w pb db F G D S C [] 2) := by
  obtain ⟨h1, h2⟩ := now_no h.up.inv hx
  refine (pg_rd_none h.up.on h.up.inv.wf.hi h.alive x hw h1 h2).mono ?_
  rintro e w' ⟨a, c, he, hr, hnew, hon, hk⟩
  exact ⟨a, c, he, hr, hnew, ⟨⟨hon, h.up.inv⟩, Keeps.below_new h.bel hk (fun j hj => by rw [hj]; exact h.own pb (.inl h.up.on.pg.own)), h.own, h.alive, h.free⟩, hk⟩
theorem ub_left {w0 w : World} {pb db : Nat} {F G : Nat → Prop} {D : DiskS} {S : PgS} {C : Comm} (h : UpB w0 w pb db F G D S C) : Calls Try.prog 18 #[.pointer (some ⟨pb, 0, none⟩)] w (fun e w' => e = .returned (.int .i64 S.left) ∧ UpB w0 w' pb db F G D S C ∧ ∃ n, w' = w.drewN n) := by
  refine (pg_left h.up.on h.up.inv.left_le).mono ?_
  rintro e w' ⟨he, n, rfl⟩
  exact ⟨he, h.drewN n, n, rfl⟩
def UbAbort (w0 w : World) (pb db : Nat) (F G : Nat → Prop) (D : DiskS) (S : PgS) (C : Comm) (e : Ending) (w' : World) : Prop := e = .returned (.tuple #[]) ∧ ∃ F', UpB w0 w' pb db F' G D S.clean C ∧ Moves F F' w w'
theorem ub_abort {w0 w : World} {pb db : Nat} {F G : Nat → Prop} {D : DiskS} {S : PgS} {C : Comm} (h : UpB w0 w pb db F G D S C) : Calls Try.prog 24 #[.pointer (some ⟨pb, 0, none⟩)] w (UbAbort w0 w pb db F G D S C) := by
  obtain ⟨v5, v6, hpre⟩ := h.up.on.pg.pre
  refine (pg_abort h.up.on.dk hpre h.up.on.bl).mono ?_
  rintro e w' ⟨he, hat, hk⟩
  have hm := Two.moves h.up.on.pg.own hk
  refine ⟨he, _, ⟨⟨⟨h.up.on.dk.keeps hk (fun k hg e => h.up.on.npb (by rw [← e]; exact hg)), hat, h.up.on.bl, fun k hf hg => ?_⟩, clean_inv h.up.inv⟩, Keeps.below_new h.bel hm.keeps (fun j hj => h.own j (.inl hj)), fun k hk => ?_, h.alive, h.free⟩, hm⟩
  · rcases hm.new k hf with hf | hf
    · exact h.up.on.dis k hf hg
    · have := h.up.on.dk.lim k hg; omega
  · rcases hk with hk | hk
    · rcases hm.new k hk with hk | hk
      · exact h.own k (.inl hk)
      · exact Nat.le_trans h.bel.size hk
    · exact h.own k (.inr hk)
end Go.Proofs.Ytjbomdhlfjcgmaa
