/-
  package pager: Open.
-/
import Derived.Test.YtjbomdhlfjcgmaaPgN
namespace Go.Proofs.Ytjbomdhlfjcgmaa
set_option linter.unusedSimpArgs false
set_option linter.unusedVariables false
open Go.RowKit

set_option maxHeartbeats 1600000 in
set_option maxRecDepth 100000 in
theorem pg_open_small {w : World} {db : Nat} {G : Nat → Prop} {D : DiskS} (hd : DkAt w db G D) (hlo : D.blocks < 64) :
    Calls Try.prog 11 #[.pointer (some ⟨db, 0, none⟩)] w (fun e w' => e = .returned (.tuple #[.pointer none, .int .i64 1]) ∧ w = w') := by
  have hl : (D.blocks : Int) < 64 := by omega
  have HD := Lib.hid hd
  clear hd hlo
  go_enter Try.func11, Try.ntmps11
  go_wp2_with (go_at_call 29; refine (dk_blocks HD.out).mono ?_; rintro e w' ⟨rfl, rfl⟩)
  go_ret2
  exact ⟨rfl, rfl⟩

/-- A pager that was opened. -/
def loadS (D : DiskS) : PgS := { blocks := D.blocks, seq := (slotSt D 2).1, root := (slotSt D 2).2, taken := loadTk D (slotSt D 2).1, many := cnt (loadTk D (slotSt D 2).1) D.blocks, fresh := fun _ => none, freed := fun _ => false, next := firstN D.blocks }
/-- Open's three new blocks. -/
def opW (w : World) (db : Nat) : World := ((w.alloc (.cells #[.pointer (some ⟨db, 0, none⟩), .int .u32 0, .int .i32 0, .int .u32 0, .int .i64 0, .slice none 0 0, .slice none 0 0, .int .i64 0, .map none, .map none, .int .i64 0, .int .i64 0, .int .i64 0] 78)).alloc
  (.cells #[.pointer (some ⟨w.heap.size, 0, none⟩)] 28)).alloc (.cells #[.int .i64 0] 25)
theorem opW_size (w : World) (db : Nat) : (opW w db).heap.size = w.heap.size + 3 := by unfold opW; simp
theorem opW_below (w : World) (db : Nat) : Below w.heap.size w (opW w db) := (((Below.refl _ w).alloc (Nat.le_refl _) _).alloc (by simp) _).alloc (by simp; omega) _
theorem opW_cell (w : World) (db i : Nat) : (opW w db).cell? ⟨w.heap.size, i, none⟩ = (#[Value.pointer (some ⟨db, 0, none⟩), .int .u32 0, .int .i32 0, .int .u32 0, .int .i64 0, .slice none 0 0, .slice none 0 0, .int .i64 0, .map none, .map none, .int .i64 0, .int .i64 0, .int .i64 0] : Array Value)[i]? := by
  unfold opW
  rw [World.cell?_alloc_past _ _ _ (by simp; omega), World.cell?_alloc_past _ _ _ (by simp), World.cell?_alloc_at _ _ _ _ rfl]
theorem opW_frozen (w : World) (db i : Nat) : (opW w db).frozen? ⟨w.heap.size, i, none⟩ = false := by
  unfold opW
  rw [World.frozen?_alloc_past _ _ _ (by simp; omega), World.frozen?_alloc_past _ _ _ (by simp), World.frozen?_alloc_at _ _ _ _ rfl]
theorem opW_p (w : World) (db : Nat) : (opW w db).cell? ⟨w.heap.size + 1, 0, none⟩ = some (.pointer (some ⟨w.heap.size, 0, none⟩)) := by
  unfold opW
  rw [World.cell?_alloc_past _ _ _ (by simp), World.cell?_alloc_at _ _ _ _ (by simp)]
  rfl
theorem opW_e (w : World) (db : Nat) : (opW w db).cell? ⟨w.heap.size + 1 + 1, 0, none⟩ = some (.int .i64 0) := by
  unfold opW
  rw [World.cell?_alloc_at _ _ _ _ (by simp)]
  rfl
theorem opW_ez (w : World) (db : Nat) : (opW w db).frozen? ⟨w.heap.size + 1 + 1, 0, none⟩ = false := by
  unfold opW
  rw [World.frozen?_alloc_at _ _ _ _ (by simp)]
/-- With the lock. -/
def opV (w : World) (db : Nat) : World := (opW w db).setCell ⟨w.heap.size, 2, none⟩ (.int .i32 1)
theorem opV_size (w : World) (db : Nat) : (opV w db).heap.size = w.heap.size + 3 := by unfold opV; simp [World.setCell, opW_size]
theorem opV_keeps (w : World) (db : Nat) : Keeps (fun k => k = w.heap.size) (opW w db) (opV w db) := (Keeps.refl (fun k => k = w.heap.size) (opW w db)).setCell ⟨w.heap.size, 2, none⟩ (.int .i32 1) (fun _ => rfl)
theorem opV_below (w : World) (db : Nat) : Below w.heap.size w (opV w db) := Keeps.below_new (opW_below w db) (opV_keeps w db) (fun j hj => by omega)
theorem opV_cell (w : World) (db i : Nat) (hi : i ≠ 2) : (opV w db).cell? ⟨w.heap.size, i, none⟩ = (#[Value.pointer (some ⟨db, 0, none⟩), .int .u32 0, .int .i32 0, .int .u32 0, .int .i64 0, .slice none 0 0, .slice none 0 0, .int .i64 0, .map none, .map none, .int .i64 0, .int .i64 0, .int .i64 0] : Array Value)[i]? := by
  unfold opV
  rw [cell_set_ne (fun e => hi (by cases e; rfl)), opW_cell]
theorem opV_frozen (w : World) (db : Nat) (a : Addr) : (opV w db).frozen? a = (opW w db).frozen? a := by unfold opV; rw [World.frozen?_setCell]
theorem opV_two (w : World) (db : Nat) : (opV w db).cell? ⟨w.heap.size, 2, none⟩ = some (.int .i32 1) := by
  unfold opV
  have h : (opW w db).cell? ⟨w.heap.size, 2, none⟩ = some (.int .i32 0) := by rw [opW_cell]; rfl
  exact cell_set_same h
theorem opV_far (w : World) (db b : Nat) (hb : b ≠ w.heap.size) : (opV w db).cell? ⟨b, 0, none⟩ = (opW w db).cell? ⟨b, 0, none⟩ := by
  unfold opV
  rw [cell_set_ne (fun e => by cases e)]
theorem opV_ld (w : World) (db : Nat) : LdAt (opV w db) (opV w db) w.heap.size db 0 (.slice none 0 0) (.slice none 0 0) [] 0 :=
  ⟨by rw [opV_cell _ _ _ (by omega)]; rfl, by rw [opV_cell _ _ _ (by omega)]; rfl, by rw [opV_cell _ _ _ (by omega)]; rfl, by rw [opV_cell _ _ _ (by omega)]; rfl, by rw [opV_cell _ _ _ (by omega)]; rfl, ⟨0, by rw [opV_cell _ _ _ (by omega)]; rfl⟩, fun _ _ _ _ _ _ => rfl,
    fun o => by rw [opV_frozen, opW_frozen], Reads.nil _, fun k e => (by cases e), Keeps.refl _ _⟩

/-- What Do leaves in Open. -/
def OpEnd (w : World) (db : Nat) (D : DiskS) (w' : World) : Prop :=
  Below w.heap.size w w' ∧ w'.cell? ⟨w.heap.size + 1, 0, none⟩ = some (.pointer (some ⟨w.heap.size, 0, none⟩)) ∧
  if D.dead = true then w'.cell? ⟨w.heap.size + 1 + 1, 0, none⟩ = some (.int .i64 12)
  else w'.cell? ⟨w.heap.size + 1 + 1, 0, none⟩ = some (.int .i64 0) ∧ ∃ v5 v6, PgPre w' w.heap.size db (fun k => w.heap.size ≤ k ∧ k < w'.heap.size) (loadS D) v5 v6
theorem onceEnd_keeps (b e : Nat) (x : Value) (w1 : World) : Keeps (fun k => k = b ∨ k = e) w1 (onceEnd b 1 (w1.setCell ⟨e, 0, none⟩ x)) :=
  ((((Keeps.refl (fun k => k = b ∨ k = e) w1).setCell ⟨e, 0, none⟩ x (fun _ => .inr rfl)).drew).setCell ⟨b, 1, none⟩ (.int .u32 1) (fun _ => .inl rfl)).setCell ⟨b, 1 + 1, none⟩ (.int .i32 0) (fun _ => .inl rfl)
theorem onceEnd_cell (b e o : Nat) (x : Value) (w1 : World) (h1 : o ≠ 1) (h2 : o ≠ 2) (he : e ≠ b) : (onceEnd b 1 (w1.setCell ⟨e, 0, none⟩ x)).cell? ⟨b, o, none⟩ = w1.cell? ⟨b, o, none⟩ := by
  unfold onceEnd
  rw [cell_set_ne (fun k => h2 (by cases k; rfl)), cell_set_ne (fun k => h1 (by cases k; rfl))]
  show (w1.setCell ⟨e, 0, none⟩ x).cell? _ = _
  rw [cell_set_ne (fun k => he (by cases k; rfl))]
theorem onceEnd_e (b e : Nat) (x : Value) (w1 : World) {u : Value} (h : w1.cell? ⟨e, 0, none⟩ = some u) (he : e ≠ b) : (onceEnd b 1 (w1.setCell ⟨e, 0, none⟩ x)).cell? ⟨e, 0, none⟩ = some x := by
  unfold onceEnd
  rw [cell_set_ne (fun k => he (by cases k)), cell_set_ne (fun k => he (by cases k))]
  exact cell_set_same (w := w1) h
theorem onceEnd_frozen (b e : Nat) (x : Value) (w1 : World) (a : Addr) : (onceEnd b 1 (w1.setCell ⟨e, 0, none⟩ x)).frozen? a = w1.frozen? a := by
  unfold onceEnd
  rw [World.frozen?_setCell, World.frozen?_setCell]
  exact World.frozen?_setCell _ _ _ _

theorem op_end {w : World} {db : Nat} {D : DiskS} {w2 : World} (h : OpQ (opV w db) w.heap.size db (w.heap.size + 1 + 1) D w2) : OpEnd w db D (onceEnd w.heap.size 1 w2) := by
  have hsz := opV_size w db
  have hV1 : (opV w db).cell? ⟨w.heap.size + 1, 0, none⟩ = some (.pointer (some ⟨w.heap.size, 0, none⟩)) := by rw [opV_far _ _ _ (by omega), opW_p]
  have hV2 : (opV w db).cell? ⟨w.heap.size + 1 + 1, 0, none⟩ = some (.int .i64 0) := by rw [opV_far _ _ _ (by omega), opW_e]
  have main : ∀ (x : Value) (w1 : World), Keeps (fun k => k = w.heap.size) (opV w db) w1 → w2 = w1.setCell ⟨w.heap.size + 1 + 1, 0, none⟩ x →
      Below w.heap.size w (onceEnd w.heap.size 1 w2) ∧ (onceEnd w.heap.size 1 w2).cell? ⟨w.heap.size + 1, 0, none⟩ = some (.pointer (some ⟨w.heap.size, 0, none⟩)) ∧ (onceEnd w.heap.size 1 w2).cell? ⟨w.heap.size + 1 + 1, 0, none⟩ = some x := by
    intro x w1 hk e
    have ho := onceEnd_keeps w.heap.size (w.heap.size + 1 + 1) x w1
    have hall := (hk.mono (G := fun k => k = w.heap.size ∨ k = w.heap.size + 1 + 1) (fun _ _ h => .inl h)).trans ho
    have h2 : w1.cell? ⟨w.heap.size + 1 + 1, 0, none⟩ = some (.int .i64 0) := (hk.cell (a := ⟨w.heap.size + 1 + 1, 0, none⟩) (by rw [hsz]; show w.heap.size + 1 + 1 < _; omega) (by show ¬ w.heap.size + 1 + 1 = w.heap.size; omega)).trans hV2
    subst e
    exact ⟨Keeps.below_new (opV_below w db) hall (fun j hj => by omega), (hall.cell (a := ⟨w.heap.size + 1, 0, none⟩) (by rw [hsz]; show w.heap.size + 1 < _; omega) (by show ¬ (w.heap.size + 1 = w.heap.size ∨ w.heap.size + 1 = w.heap.size + 1 + 1); omega)).trans hV1, onceEnd_e _ _ _ _ h2 (by omega)⟩
  unfold OpQ at h
  unfold OpEnd
  by_cases hd : D.dead = true
  · rw [if_pos hd] at h ⊢
    obtain ⟨w1, hT, e⟩ := h
    obtain ⟨m1, m2, m3⟩ := main _ w1 hT.keeps e
    exact ⟨m1, m2, m3⟩
  · rw [if_neg hd] at h ⊢
    obtain ⟨w1, hL, e⟩ := h
    obtain ⟨_, v5, g, gc, base, hat, hb, hg, hg5⟩ := hL
    obtain ⟨m1, m2, m3⟩ := main _ w1 hat.keeps e
    refine ⟨m1, m2, m3, v5, .slice (some ⟨g, 0, none⟩) D.blocks gc, ?_⟩
    subst e
    have ho := onceEnd_keeps w.heap.size (w.heap.size + 1 + 1) (.int .i64 0) w1
    have hc : ∀ o, o ≠ 1 → o ≠ 2 → (onceEnd w.heap.size 1 (w1.setCell ⟨w.heap.size + 1 + 1, 0, none⟩ (.int .i64 0))).cell? ⟨w.heap.size, o, none⟩ = w1.cell? ⟨w.heap.size, o, none⟩ := fun o h1 h2 => onceEnd_cell _ _ o _ _ h1 h2 (by omega)
    have hr : ∀ o u, o ≠ 1 → o ≠ 2 → o ≠ 4 → o ≠ 5 → o ≠ 6 → o ≠ 7 → o ≠ 11 → (opV w db).cell? ⟨w.heap.size, o, none⟩ = some u → (onceEnd w.heap.size 1 (w1.setCell ⟨w.heap.size + 1 + 1, 0, none⟩ (.int .i64 0))).cell? ⟨w.heap.size, o, none⟩ = some u := fun o u h1 h2 h4 h5 h6 h7 h8 hu => (hc o h1 h2).trans ((hat.row o h4 h5 h6 h7 h8).trans hu)
    have hroot : ∀ k, v5.ownBlock = some k → w.heap.size + 3 ≤ k := fun k hk => by have := hat.root' k hk; omega
    have hw1 : w1.heap.size ≤ (onceEnd w.heap.size 1 (w1.setCell ⟨w.heap.size + 1 + 1, 0, none⟩ (.int .i64 0))).heap.size := ho.size
    have hbn := hb.2.1
    have hk1 := hat.keeps.size
    refine ⟨(hc 0 (by omega) (by omega)).trans hat.c0, (hc 4 (by omega) (by omega)).trans hat.c4, (hc 5 (by omega) (by omega)).trans hat.c5, (hc 6 (by omega) (by omega)).trans hat.c6, (hc 7 (by omega) (by omega)).trans hat.c7,
      ⟨.map none, hr 8 _ (by omega) (by omega) (by omega) (by omega) (by omega) (by omega) (by omega) (by rw [opV_cell _ _ _ (by omega)]; rfl)⟩, ⟨.map none, hr 9 _ (by omega) (by omega) (by omega) (by omega) (by omega) (by omega) (by omega) (by rw [opV_cell _ _ _ (by omega)]; rfl)⟩, ⟨.int .i64 0, hr 10 _ (by omega) (by omega) (by omega) (by omega) (by omega) (by omega) (by omega) (by rw [opV_cell _ _ _ (by omega)]; rfl)⟩,
      hat.c11.imp (fun _ e => (hc 11 (by omega) (by omega)).trans e), ⟨0, hr 12 _ (by omega) (by omega) (by omega) (by omega) (by omega) (by omega) (by omega) (by rw [opV_cell _ _ _ (by omega)]; rfl)⟩, fun o => (onceEnd_frozen _ _ _ _ _).trans (hat.frz o), ?_, ?_, ?_, ?_, ⟨Nat.le_refl _, by omega⟩, fun k hk => hk.2⟩
    · exact hat.root.keeps ho (fun j hj e => by have := hroot j hj; omega)
    · intro k hk
      have h1 := hroot k hk
      have h2 := hat.root.blk k
      refine ⟨⟨by omega, ?_⟩, by omega⟩
      rcases hat.root with ⟨rfl, _⟩ | ⟨b, o, c, rfl, _, hb, _⟩
      · cases hk
      · have e' : b = k := by simpa [Value.ownBlock] using hk
        omega
    · exact hb.bools.stay (fun k hk e => ho.block k hk (by
        have e' : g = k := by simpa [Value.ownBlock] using e
        omega)) hw1
    · intro k hk
      have e' : g = k := by simpa [Value.ownBlock] using hk
      exact ⟨⟨by omega, by omega⟩, by omega⟩

def OpenPost (w : World) (db : Nat) (G : Nat → Prop) (D : DiskS) (e : Ending) (w' : World) : Prop :=
  Below w.heap.size w w' ∧ if D.dead = true then e = .returned (.tuple #[.pointer none, .int .i64 12])
  else ∃ pb F, e = .returned (.tuple #[.pointer (some ⟨pb, 0, none⟩), .int .i64 0]) ∧ PgOn w' pb db F G D (loadS D) ∧ ∀ k, F k → w.heap.size ≤ k

set_option maxHeartbeats 1600000 in
set_option maxRecDepth 100000 in
theorem pg_open {w : World} {db : Nat} {G : Nat → Prop} {D : DiskS} (hd : DkAt w db G D) (hlo : 64 ≤ D.blocks) (hs : ∀ s, s < 2 → slotSeq (D.block s) < 9223372036854775808) :
    Calls Try.prog 11 #[.pointer (some ⟨db, 0, none⟩)] w (OpenPost w db G D) := by
  have hl : ¬ (D.blocks : Int) < 64 := by omega
  have HD := Lib.hid (And.intro hd (And.intro hlo hs))
  clear hd hlo hs
  go_enter Try.func11, Try.ntmps11
  have HV : Hid (DkAt (opV w db) db G D ∧ ¬ G w.heap.size) := Lib.hid ⟨HD.out.1.below (opV_below w db), fun h => Nat.lt_irrefl _ (HD.out.1.lim _ h)⟩
  have HC : Hid (Calls Try.prog 31 #[.pointer (some ⟨w.heap.size + 1, 0, none⟩), .pointer (some ⟨w.heap.size + 1 + 1, 0, none⟩)] (opV w db) (OnceFn w.heap.size 1 (OpQ (opV w db) w.heap.size db (w.heap.size + 1 + 1) D))) := Lib.hid
    (op_fn HV.out.1 HV.out.2 (by rw [opV_size]; omega) HD.out.2.1 (opV_ld w db) HD.out.2.2 (by rw [opV_far _ _ _ (by omega), opW_p]) (by rw [opV_far _ _ _ (by omega), opW_e]) (by rw [opV_frozen, opW_ez]) (by omega) (by omega) (by rw [opV_cell _ _ _ (by omega)]; rfl) (opV_two w db))
  have HO : Hid (Calls Try.prog 30 #[.pointer (some ⟨w.heap.size, 1, none⟩), .func (.func 31) #[] #[.pointer (some ⟨w.heap.size + 1, 0, none⟩), .pointer (some ⟨w.heap.size + 1 + 1, 0, none⟩)]] (opW w db) (OncePost1 w.heap.size 1 (OpQ (opV w db) w.heap.size db (w.heap.size + 1 + 1) D))) := Lib.hid
    (once_any w.heap.size 1 31 #[] #[.pointer (some ⟨w.heap.size + 1, 0, none⟩), .pointer (some ⟨w.heap.size + 1 + 1, 0, none⟩)] (opW w db) _ (by rw [opW_cell]; rfl) (by rw [opW_cell]; rfl) (opW_frozen w db 1) (opW_frozen w db 2) (fun _ _ => by rfl) HC.out)
  have HO2 : Hid (Calls Try.prog 30 #[.pointer (some ⟨w.heap.size, 1, none⟩), .func (.func 31) #[] #[.pointer (some ⟨w.heap.size + 1, 0, none⟩), .pointer (some ⟨w.heap.size + 1 + 1, 0, none⟩)]] (opW w db) (fun e w' => e = .returned (.tuple #[]) ∧ OpEnd w db D w')) := Lib.hid (HO.out.mono (by rintro e w' ⟨rfl, w2, hQ, _, _, rfl⟩; exact ⟨rfl, op_end hQ⟩))
  clear HO HC
  cases hdd : D.dead with
  | true =>
    have HDD := Lib.hid hdd
    clear hdd
    go_wp2_with (first
      | (go_at_call 29; go_must (refine (dk_blocks HD.out.1).mono ?_; rintro e w' ⟨rfl, rfl⟩))
      | (go_at_call 30; go_must (refine HO2.out.mono ?_; rintro e w1 ⟨rfl, hE⟩; unfold OpEnd at hE; rw [if_pos HDD.out] at hE; have k1 := hE.2.1; have k2 := hE.2.2; have X := Lib.hid hE.1; clear hE)))
    go_quiet (fail)
    go_wp2
    go_ret2
    refine ⟨Keeps.below_new X.out ((Keeps.refl (fun _ => False) w1).drewN _) (fun j h => h.elim), ?_⟩
    rw [if_pos HDD.out]
    rfl
  | false =>
    have HDD : Hid (¬ D.dead = true) := Lib.hid (by rw [hdd]; decide)
    clear hdd
    go_wp2_with (first
      | (go_at_call 29; go_must (refine (dk_blocks HD.out.1).mono ?_; rintro e w' ⟨rfl, rfl⟩))
      | (go_at_call 30; go_must (refine HO2.out.mono ?_; rintro e w1 ⟨rfl, hE⟩; unfold OpEnd at hE; rw [if_neg HDD.out] at hE; have k1 := hE.2.1; have k2 := hE.2.2.1; have X := Lib.hid (And.intro hE.1 hE.2.2.2); clear hE))
      | (go_at_call 24; go_must (obtain ⟨v5, v6, hpre⟩ := X.out.2; refine (pg_abort (HD.out.1.below X.out.1) hpre rfl).mono ?_; rintro e w3 ⟨rfl, hat, hk⟩; have k3 : w3.cell? ⟨w.heap.size + 1, 0, none⟩ = some (.pointer (some ⟨w.heap.size, 0, none⟩)) := (hk.cell (a := ⟨w.heap.size + 1, 0, none⟩) (World.block_lt_of_cell? w1 _ k1) (by show ¬ w.heap.size + 1 = w.heap.size; omega)).trans k1; have Y := Lib.hid (And.intro hat hk); clear hat hk hpre)))
    go_ret2
    have hB := Keeps.below_new X.out.1 Y.out.2 (fun j hj => by omega)
    refine ⟨hB, ?_⟩
    rw [if_neg HDD.out]
    refine ⟨_, _, rfl, ⟨HD.out.1.below hB, Y.out.1, rfl, fun k hk hg => ?_⟩, fun k hk => ?_⟩
    · have h1 := HD.out.1.lim k hg
      have h2 := X.out.1.size
      rcases hk with hk | hk | hk <;> omega
    · have h2 := X.out.1.size
      rcases hk with hk | hk | hk <;> omega
end Go.Proofs.Ytjbomdhlfjcgmaa
