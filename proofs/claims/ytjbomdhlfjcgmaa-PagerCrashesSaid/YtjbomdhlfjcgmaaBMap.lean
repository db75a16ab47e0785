/-
  Maps from numbers to bytes that nobody writes; footprints that grow. No program in sight.
-/
import Derived.Test.YtjbomdhlfjcgmaaKeeps
import Derived.Test.YtjbomdhlfjcgmaaClo
import Derived.Test.YtjbomdhlfjcgmaaPgD
namespace Go.Proofs.Ytjbomdhlfjcgmaa
set_option linter.unusedSimpArgs false
set_option linter.unusedVariables false
open Go.RowKit

/-- From a world in which something lies in the blocks of F to one in which it lies in those of G. -/
structure Moves (F G : Nat → Prop) (w w' : World) : Prop where
  keeps : Keeps F w w'
  up : ∀ k, F k → G k
  new : ∀ k, G k → F k ∨ w.heap.size ≤ k
theorem Moves.refl (F : Nat → Prop) (w : World) : Moves F F w w := ⟨Keeps.refl _ _, fun _ h => h, fun _ h => .inl h⟩
theorem Moves.trans {F G H : Nat → Prop} {w w1 w2 : World} (h : Moves F G w w1) (k : Moves G H w1 w2) : Moves F H w w2 :=
  ⟨h.keeps.trans' k.keeps (fun j hj hg => (h.new j hg).resolve_right (by omega)), fun j hj => k.up j (h.up j hj), fun j hj => by
    rcases k.new j hj with h1 | h1
    · exact h.new j h1
    · exact .inr (Nat.le_trans h.keeps.size h1)⟩
theorem Moves.size {F G : Nat → Prop} {w w' : World} (h : Moves F G w w') : w.heap.size ≤ w'.heap.size := h.keeps.size
theorem Moves.of_below {F : Nat → Prop} {w w' : World} (h : Below w.heap.size w w') : Moves F F w w' := ⟨Keeps.of_below h, fun _ h => h, fun _ h => .inl h⟩
theorem Moves.of_keeps {F : Nat → Prop} {w w' : World} (h : Keeps F w w') : Moves F F w w' := ⟨h, fun _ h => h, fun _ h => .inl h⟩
theorem Moves.undrew {F G : Nat → Prop} {w w' : World} (h : Moves F G w.drew w') : Moves F G w w' := ⟨h.keeps.undrew, h.up, h.new⟩
theorem Moves.drew {F G : Nat → Prop} {w w' : World} (h : Moves F G w w') : Moves F G w w'.drew := ⟨h.keeps.drew, h.up, h.new⟩
theorem Moves.set {F G : Nat → Prop} {w w' : World} {b o : Nat} (h : Moves F G w w') (hb : F b) (v : Value) : Moves F G w (w'.setCell ⟨b, o, none⟩ v) := ⟨h.keeps.setCell _ v (fun _ => hb), h.up, h.new⟩
/-- What lies elsewhere lies elsewhere still. -/
theorem Moves.apart {F G H : Nat → Prop} {w w' : World} (h : Moves F G w w') (hd : ∀ k, H k → ¬ F k) (hl : ∀ k, H k → k < w.heap.size) : ∀ k, H k → ¬ G k := fun k hk hg => by
  rcases h.new k hg with h1 | h1
  · exact hd k hk h1
  · have := hl k hk; omega
theorem Moves.below_new {F G : Nat → Prop} {w w1 w2 : World} (hB : Below w.heap.size w w1) (k : Moves F G w1 w2) (hF : ∀ j, F j → w.heap.size ≤ j) : Below w.heap.size w w2 ∧ ∀ j, G j → w.heap.size ≤ j :=
  ⟨Keeps.below_new hB k.keeps hF, fun j hj => (k.new j hj).elim (hF j) (fun h => Nat.le_trans hB.size h)⟩

theorem Reads.stay {w w' : World} {v : Value} {zs : List UInt8} (h : Reads w v zs) (hb : ∀ k, v.ownBlock = some k → w'.heap[k]? = w.heap[k]?) (hs : w.heap.size ≤ w'.heap.size) : Reads w' v zs := by
  rcases h with h | ⟨b, off, cap, hv, hc, hlt, hx⟩
  · exact .inl h
  · exact .inr ⟨b, off, cap, hv, hc, Nat.lt_of_lt_of_le hlt hs, fun i x hi => (World.cell?_of_block (hb b (by rw [hv]; rfl))).trans (hx i x hi)⟩
theorem Reads.blk {w : World} {v : Value} {zs : List UInt8} (h : Reads w v zs) : ∀ k, v.ownBlock = some k → k < w.heap.size := by
  intro k hk
  rcases h with ⟨rfl, _⟩ | ⟨b, off, cap, rfl, hc, hlt, hx⟩
  · cases hk
  · cases hk; exact hlt
theorem Reads.keeps {w w' : World} {v : Value} {zs : List UInt8} {F : Nat → Prop} (h : Reads w v zs) (k : Keeps F w w') (hF : ∀ j, v.ownBlock = some j → ¬ F j) : Reads w' v zs :=
  h.stay (fun j hj => k.block j (h.blk j hj) (hF j hj)) k.size

/-- Block mb is a map from numbers (below N) to bytes that lie in blocks of F. -/
structure BMap (w : World) (F : Nat → Prop) (mb : Nat) (g : Nat → Option (List UInt8)) (N : Nat) : Prop where
  ex : ∃ f, MapI w mb f (cnt (fun k => (g k).isSome) N) ∧ (∀ x v, f x = some v → 0 ≤ x ∧ ∃ zs, g x.toNat = some zs ∧ Reads w v zs ∧ ∀ k, v.ownBlock = some k → F k) ∧ ∀ (m : Nat) zs, g m = some zs → (f m).isSome = true
  lt : ∀ m zs, g m = some zs → m < N
  ne : ∀ k, F k → k ≠ mb

theorem BMap.blt {w : World} {F : Nat → Prop} {mb N : Nat} {g : Nat → Option (List UInt8)} (h : BMap w F mb g N) : mb < w.heap.size := by
  obtain ⟨f, hm, _⟩ := h.ex
  exact hm.lt
theorem BMap.stay {w w' : World} {F : Nat → Prop} {mb N : Nat} {g : Nat → Option (List UInt8)} (h : BMap w F mb g N) (hb : w'.heap[mb]? = w.heap[mb]?) (hF : ∀ k, k < w.heap.size → F k → w'.heap[k]? = w.heap[k]?) (hs : w.heap.size ≤ w'.heap.size) : BMap w' F mb g N := by
  obtain ⟨f, hm, h1, h2⟩ := h.ex
  refine ⟨⟨f, hm.on hb, fun x v hx => ?_, h2⟩, h.lt, h.ne⟩
  obtain ⟨h0, zs, hg, hr, ho⟩ := h1 x v hx
  exact ⟨h0, zs, hg, hr.stay (fun k hk => hF k (hr.blk k hk) (ho k hk)) hs, ho⟩
theorem BMap.keeps {w w' : World} {F G : Nat → Prop} {mb N : Nat} {g : Nat → Option (List UInt8)} (h : BMap w F mb g N) (k : Keeps G w w') (hb : ¬ G mb) (hF : ∀ k, F k → ¬ G k) : BMap w' F mb g N :=
  h.stay (k.block mb h.blt hb) (fun j hj hf => k.block j hj (hF j hf)) k.size
theorem BMap.mono {w : World} {F G : Nat → Prop} {mb N : Nat} {g : Nat → Option (List UInt8)} (h : BMap w F mb g N) (hF : ∀ k, F k → G k) (hne : ∀ k, G k → k ≠ mb) : BMap w G mb g N := by
  obtain ⟨f, hm, h1, h2⟩ := h.ex
  refine ⟨⟨f, hm, fun x v hx => ?_, h2⟩, h.lt, hne⟩
  obtain ⟨h0, zs, hg, hr, ho⟩ := h1 x v hx
  exact ⟨h0, zs, hg, hr, fun k hk => hF k (ho k hk)⟩
theorem BMap.made (w : World) (F : Nat → Prop) (N : Nat) (hF : ∀ k, F k → k ≠ w.heap.size) : BMap (w.alloc (.map #[] 0)) F w.heap.size (fun _ => none) N :=
  ⟨⟨fun _ => none, by rw [show cnt (fun k => ((fun _ => none : Nat → Option (List UInt8)) k).isSome) N = 0 from cnt_none N (fun _ _ => rfl)]; exact MapI.made w, (fun x v h => (by cases h)), (fun m zs h => (by cases h))⟩, (fun m zs h => (by cases h)), hF⟩

/-- What a look-up finds. -/
theorem BMap.at' {w : World} {F : Nat → Prop} {mb N : Nat} {g : Nat → Option (List UInt8)} (h : BMap w F mb g N) : ∃ f, MapI w mb f (cnt (fun k => (g k).isSome) N) ∧
    ∀ x : Int, (f x = none ∧ (0 ≤ x → g x.toNat = none)) ∨ ∃ (a : Option Addr) (c : Nat) (zs : List UInt8), f x = some (.slice a zs.length c) ∧ 0 ≤ x ∧ g x.toNat = some zs ∧ Reads w (.slice a zs.length c) zs ∧ ∀ k, (Value.slice a zs.length c).ownBlock = some k → F k := by
  obtain ⟨f, hm, h1, h2⟩ := h.ex
  refine ⟨f, hm, fun x => ?_⟩
  cases hx : f x with
  | none =>
    refine .inl ⟨rfl, fun h0 => ?_⟩
    cases hg : g x.toNat with
    | none => rfl
    | some zs =>
      have := h2 x.toNat zs hg
      rw [Int.toNat_of_nonneg h0, hx] at this
      cases this
  | some v =>
    obtain ⟨h0, zs, hg, hr, ho⟩ := h1 x v hx
    obtain ⟨a, c, rfl⟩ := hr.len
    exact .inr ⟨a, c, zs, rfl, h0, hg, hr, ho⟩

theorem cnt_updN {α : Type} (g : Nat → Option α) (m N : Nat) (z : α) (hm : m < N) : cnt (fun k => (updN g m (some z) k).isSome) N = if (g m).isSome then cnt (fun k => (g k).isSome) N else cnt (fun k => (g k).isSome) N + 1 := by
  cases hg : g m with
  | some y =>
    simp only [Option.isSome_some, if_true]
    refine cnt_congr N (fun k _ => ?_)
    by_cases e : k = m
    · subst e; rw [updN_same, hg]; rfl
    · rw [updN_other _ _ _ e]
  | none =>
    rw [cnt_set (p := fun k => (g k).isSome) (q := fun k => (updN g m (some z) k).isSome) (m := m) (by simp [hg]) (by simp [updN_same]) (fun k hk => by simp [updN_other _ _ _ hk]) N, if_pos hm]
    simp
theorem cnt_updN_none {α : Type} (g : Nat → Option α) (m N : Nat) (hm : m < N) : cnt (fun k => (updN g m none k).isSome) N = if (g m).isSome then cnt (fun k => (g k).isSome) N - 1 else cnt (fun k => (g k).isSome) N := by
  cases hg : g m with
  | none =>
    simp only [Option.isSome_none, Bool.false_eq_true, if_false]
    refine cnt_congr N (fun k _ => ?_)
    by_cases e : k = m
    · subst e; rw [updN_same, hg]
    · rw [updN_other _ _ _ e]
  | some y =>
    have := cnt_set (p := fun k => (updN g m none k).isSome) (q := fun k => (g k).isSome) (m := m) (by simp [updN_same]) (by simp [hg]) (fun k hk => by simp [updN_other _ _ _ hk]) N
    rw [if_pos hm] at this
    simp only [Option.isSome_some, if_true]
    omega

/-- Behind a store at one number. -/
theorem BMap.put {w w' : World} {F G : Nat → Prop} {mb N m : Nat} {g : Nat → Option (List UInt8)} {f : Int → Option Value} (h : BMap w F mb g N)
    (hf : (∀ x v, f x = some v → 0 ≤ x ∧ ∃ zs, g x.toNat = some zs ∧ Reads w v zs ∧ ∀ k, v.ownBlock = some k → F k) ∧ ∀ (m : Nat) zs, g m = some zs → (f m).isSome = true)
    {v : Value} {zs : List UInt8} (hm' : MapI w' mb (upd f m (some v)) (if (f m).isSome then cnt (fun k => (g k).isSome) N else cnt (fun k => (g k).isSome) N + 1))
    (hon : Only mb w w') (hr : Reads w v zs) (hv : ∀ k, v.ownBlock = some k → G k) (hFG : ∀ k, F k → G k) (hG : ∀ k, G k → k ≠ mb) (hmN : m < N) : BMap w' G mb (updN g m (some zs)) N := by
  obtain ⟨h1, h2⟩ := hf
  have hfm : (f m).isSome = (g m).isSome := by
    cases hg : g m with
    | some y => rw [h2 m y hg]; rfl
    | none =>
      cases hfm : f m with
      | none => rfl
      | some u =>
        obtain ⟨_, zs', hg', _⟩ := h1 m u hfm
        rw [Int.toNat_natCast, hg] at hg'
        cases hg'
  have hrd : ∀ {u : Value} {ys : List UInt8}, Reads w u ys → (∀ k, u.ownBlock = some k → G k) → Reads w' u ys := fun hr ho => hr.stay (fun k hk => hon.2.2.2.2 k (hG k (ho k hk))) (Nat.le_of_eq hon.2.2.2.1.symm)
  refine ⟨⟨upd f m (some v), ?_, fun x u hx => ?_, fun k ys hk => ?_⟩, fun k ys hk => ?_, hG⟩
  · rw [cnt_updN g m N zs hmN, ← hfm]; exact hm'
  · by_cases e : x = m
    · subst e
      rw [upd_same] at hx
      cases hx
      exact ⟨by omega, zs, by rw [Int.toNat_natCast, updN_same], hrd hr hv, hv⟩
    · rw [upd_other _ _ _ e] at hx
      obtain ⟨h0, ys, hg, hry, ho⟩ := h1 x u hx
      exact ⟨h0, ys, by rw [updN_other _ _ _ (by omega)]; exact hg, hrd hry (fun k hk => hFG k (ho k hk)), fun k hk => hFG k (ho k hk)⟩
  · by_cases e : k = m
    · subst e; rw [upd_same]; rfl
    · rw [updN_other _ _ _ e] at hk
      rw [upd_other _ _ _ (by omega)]
      exact h2 k ys hk
  · by_cases e : k = m
    · omega
    · rw [updN_other _ _ _ e] at hk
      exact h.lt k ys hk
/-- .. behind a delete. -/
theorem BMap.drop {w w' : World} {F : Nat → Prop} {mb N m : Nat} {g : Nat → Option (List UInt8)} {f : Int → Option Value} (h : BMap w F mb g N)
    (hf : (∀ x v, f x = some v → 0 ≤ x ∧ ∃ zs, g x.toNat = some zs ∧ Reads w v zs ∧ ∀ k, v.ownBlock = some k → F k) ∧ ∀ (m : Nat) zs, g m = some zs → (f m).isSome = true)
    (hm' : MapI w' mb (upd f m none) (if (f m).isSome then cnt (fun k => (g k).isSome) N - 1 else cnt (fun k => (g k).isSome) N))
    (hon : Only mb w w') (hmN : m < N) : BMap w' F mb (updN g m none) N := by
  obtain ⟨h1, h2⟩ := hf
  have hfm : (f m).isSome = (g m).isSome := by
    cases hg : g m with
    | some y => rw [h2 m y hg]; rfl
    | none =>
      cases hfm : f m with
      | none => rfl
      | some u =>
        obtain ⟨_, zs', hg', _⟩ := h1 m u hfm
        rw [Int.toNat_natCast, hg] at hg'
        cases hg'
  refine ⟨⟨upd f m none, ?_, fun x u hx => ?_, fun k ys hk => ?_⟩, fun k ys hk => ?_, h.ne⟩
  · rw [cnt_updN_none g m N hmN, ← hfm]; exact hm'
  · have e : x ≠ m := by rintro rfl; rw [upd_same] at hx; cases hx
    rw [upd_other _ _ _ e] at hx
    obtain ⟨h0, ys, hg, hry, ho⟩ := h1 x u hx
    exact ⟨h0, ys, by rw [updN_other _ _ _ (by omega)]; exact hg, hry.stay (fun k hk => hon.2.2.2.2 k (h.ne k (ho k hk))) (Nat.le_of_eq hon.2.2.2.1.symm), ho⟩
  · have e : k ≠ m := by rintro rfl; rw [updN_same] at hk; cases hk
    rw [updN_other _ _ _ e] at hk
    rw [upd_other _ _ _ (by omega)]
    exact h2 k ys hk
  · have e : k ≠ m := by rintro rfl; rw [updN_same] at hk; cases hk
    rw [updN_other _ _ _ e] at hk
    exact h.lt k ys hk
end Go.Proofs.Ytjbomdhlfjcgmaa
