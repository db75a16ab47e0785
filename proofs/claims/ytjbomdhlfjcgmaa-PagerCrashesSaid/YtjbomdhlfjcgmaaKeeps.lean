/-
  Worlds of which all but some blocks stay as they were; maps whose keys are ints: what stands at each key. No program in sight.
-/
import Derived.WalkKit
import Derived.Maps.RangeWalk
import Derived.Lib.Hide
namespace Go.Proofs.Ytjbomdhlfjcgmaa
set_option linter.unusedSimpArgs false
set_option linter.unusedVariables false
open Go.RowKit
open Go.ChangeMaps (setBlock heap_setBlock_same heap_setBlock_other modify_eq_set)
open Go.MapKept
open Go.Maps (Keyed int_keyed keyOf_int_mk)

/-- w' is w, but for the blocks of F, and new ones. -/
structure Keeps (F : Nat → Prop) (w w' : World) : Prop where
  os : w'.os = w.os
  tape : w'.tape = w.tape
  output : w'.output = w.output
  size : w.heap.size ≤ w'.heap.size
  block : ∀ k, k < w.heap.size → ¬ F k → w'.heap[k]? = w.heap[k]?

theorem Keeps.refl (F : Nat → Prop) (w : World) : Keeps F w w := ⟨rfl, rfl, rfl, Nat.le_refl _, fun _ _ _ => rfl⟩
theorem Keeps.trans' {F G : Nat → Prop} {w w1 w2 : World} (h : Keeps F w w1) (k : Keeps G w1 w2) (hG : ∀ j, j < w.heap.size → G j → F j) : Keeps F w w2 :=
  ⟨k.os.trans h.os, k.tape.trans h.tape, k.output.trans h.output, Nat.le_trans h.size k.size, fun j hj hF =>
    (k.block j (Nat.lt_of_lt_of_le hj h.size) (fun e => hF (hG j hj e))).trans (h.block j hj hF)⟩
theorem Keeps.trans {F : Nat → Prop} {w w1 w2 : World} (h : Keeps F w w1) (k : Keeps F w1 w2) : Keeps F w w2 := h.trans' k (fun _ _ h => h)
theorem Keeps.mono {F G : Nat → Prop} {w w' : World} (h : Keeps F w w') (hG : ∀ j, j < w.heap.size → F j → G j) : Keeps G w w' :=
  ⟨h.os, h.tape, h.output, h.size, fun j hj hF => h.block j hj (fun e => hF (hG j hj e))⟩
theorem Keeps.of_below {F : Nat → Prop} {w w' : World} (h : Below w.heap.size w w') : Keeps F w w' := ⟨h.os, h.tape, h.output, h.size, fun j hj _ => h.block j hj⟩
theorem Keeps.below {F : Nat → Prop} {w w' : World} {B : Nat} (h : Keeps F w w') (hB : B ≤ w.heap.size) (hF : ∀ j, j < B → ¬ F j) : Below B w w' :=
  ⟨h.os, h.tape, h.output, h.size, fun j hj => h.block j (by omega) (hF j hj)⟩
theorem Keeps.below_new {F : Nat → Prop} {w w1 w2 : World} (h : Below w.heap.size w w1) (k : Keeps F w1 w2) (hF : ∀ j, F j → w.heap.size ≤ j) : Below w.heap.size w w2 :=
  h.trans (k.below h.size (fun j hj e => by have := hF j e; omega))
theorem Keeps.cell {F : Nat → Prop} {w w' : World} (h : Keeps F w w') {a : Addr} (hk : a.block < w.heap.size) (hF : ¬ F a.block) : w'.cell? a = w.cell? a := World.cell?_of_block (h.block _ hk hF)
theorem Keeps.frozen {F : Nat → Prop} {w w' : World} (h : Keeps F w w') {a : Addr} (hk : a.block < w.heap.size) (hF : ¬ F a.block) : w'.frozen? a = w.frozen? a := World.frozen?_of_block (h.block _ hk hF)
theorem Keeps.drew {F : Nat → Prop} {w w' : World} (h : Keeps F w w') : Keeps F w w'.drew := ⟨h.os, h.tape, h.output, h.size, h.block⟩
theorem Keeps.undrew {F : Nat → Prop} {w w' : World} (h : Keeps F w.drew w') : Keeps F w w' := ⟨h.os, h.tape, h.output, h.size, h.block⟩
theorem Keeps.alloc {F : Nat → Prop} {w w' : World} (h : Keeps F w w') (o : Obj) : Keeps F w (w'.alloc o) :=
  ⟨h.os, h.tape, h.output, by simpa using Nat.le_succ_of_le h.size, fun j hj hF => by
    rw [(MapKept.heap_alloc w' o).2 j (Nat.lt_of_lt_of_le hj h.size)]; exact h.block j hj hF⟩
theorem Keeps.setCell {F : Nat → Prop} {w w' : World} (h : Keeps F w w') (a : Addr) (v : Value) (ha : a.block < w.heap.size → F a.block) : Keeps F w (w'.setCell a v) :=
  ⟨h.os, h.tape, h.output, by simpa [World.setCell] using h.size, fun j hj hF => by
    rw [Below.heap_setCell _ _ _ _ (fun e => hF (by subst e; exact ha hj))]; exact h.block j hj hF⟩

/-- Nothing but block b has turned. -/
def Only (b : Nat) (w w' : World) : Prop := w'.os = w.os ∧ w'.tape = w.tape ∧ w'.output = w.output ∧ w'.heap.size = w.heap.size ∧ ∀ k, k ≠ b → w'.heap[k]? = w.heap[k]?
theorem Only.keeps {b : Nat} {w w' : World} (h : Only b w w') {F : Nat → Prop} (hF : b < w.heap.size → F b) : Keeps F w w' :=
  ⟨h.1, h.2.1, h.2.2.1, Nat.le_of_eq h.2.2.2.1.symm, fun k hk hn => h.2.2.2.2 k (fun e => hn (by subst e; exact hF hk))⟩
theorem Only.cell {b : Nat} {w w' : World} (h : Only b w w') {a : Addr} (hk : a.block ≠ b) : w'.cell? a = w.cell? a := World.cell?_of_block (h.2.2.2.2 _ hk)
theorem Only.frozen {b : Nat} {w w' : World} (h : Only b w w') {a : Addr} (hk : a.block ≠ b) : w'.frozen? a = w.frozen? a := World.frozen?_of_block (h.2.2.2.2 _ hk)

/-- The entries of a map keyed by ints: v stands at x just if f x is v; there are n. -/
structure Ent (es : Array MapEntry) (clock : Nat) (f : Int → Option Value) (n : Nat) : Prop where
  stamped : Stamped es clock
  size : es.size = n
  max : n ≤ maxLen
  keys : ∀ e ∈ es.toList, ∃ x, e.key = .int .i64 x ∧ (Lit.int .i64 x).wf = true ∧ f x = some e.val
  has : ∀ x v, f x = some v → ∃ e ∈ es.toList, e.key = .int .i64 x ∧ e.val = v

/-- Block b is a map keyed by ints: v stands at x just if f x is v; there are n entries. -/
def MapI (w : World) (b : Nat) (f : Int → Option Value) (n : Nat) : Prop := ∃ es clock, w.heap[b]? = some (.map es clock) ∧ Ent es clock f n

/-- One key's value turned. -/
def upd {α : Type} (f : Int → Option α) (x : Int) (v : Option α) : Int → Option α := fun y => if y = x then v else f y
theorem upd_same {α : Type} (f : Int → Option α) (x : Int) (v : Option α) : upd f x v x = v := if_pos rfl
theorem upd_other {α : Type} (f : Int → Option α) (x : Int) (v : Option α) {y : Int} (h : y ≠ x) : upd f x v y = f y := if_neg h

theorem MapI.lt {w : World} {b n : Nat} {f : Int → Option Value} (h : MapI w b f n) : b < w.heap.size := by
  obtain ⟨es, clock, hb, _⟩ := h
  exact (Array.getElem?_eq_some_iff.1 hb).1
theorem MapI.max {w : World} {b n : Nat} {f : Int → Option Value} (h : MapI w b f n) : n ≤ maxLen := by
  obtain ⟨es, clock, hb, F⟩ := h
  exact F.max
theorem MapI.on {w w' : World} {b n : Nat} {f : Int → Option Value} (h : MapI w b f n) (hb : w'.heap[b]? = w.heap[b]?) : MapI w' b f n := by
  obtain ⟨es, clock, hb0, F⟩ := h
  exact ⟨es, clock, hb.trans hb0, F⟩
theorem MapI.keeps {w w' : World} {b n : Nat} {f : Int → Option Value} {F : Nat → Prop} (h : MapI w b f n) (k : Keeps F w w') (hF : ¬ F b) : MapI w' b f n := h.on (k.block b h.lt hF)
theorem MapI.below {w w' : World} {b n : Nat} {f : Int → Option Value} (h : MapI w b f n) (k : Below w.heap.size w w') : MapI w' b f n := h.on (k.block b h.lt)
theorem MapI.drew {w : World} {b n : Nat} {f : Int → Option Value} (h : MapI w b f n) : MapI w.drew b f n := h
theorem MapI.alloc {w : World} {b n : Nat} {f : Int → Option Value} (h : MapI w b f n) (o : Obj) : MapI (w.alloc o) b f n := h.on ((MapKept.heap_alloc w o).2 b h.lt)
theorem MapI.made (w : World) : MapI (w.alloc (.map #[] 0)) w.heap.size (fun _ => none) 0 :=
  ⟨#[], 0, (MapKept.heap_alloc w _).1, ⟨stamped_empty 0, rfl, Nat.zero_le _, by simp, fun x v h => by cases h⟩⟩
theorem MapI.wf {w : World} {b n : Nat} {f : Int → Option Value} (h : MapI w b f n) {x : Int} {v : Value} (hx : f x = some v) : (Lit.int .i64 x).wf = true := by
  obtain ⟨es, clock, hb, F⟩ := h
  obtain ⟨e, he, hk, _⟩ := F.has x v hx
  obtain ⟨x', hk', hw, _⟩ := F.keys e he
  rw [hk] at hk'
  cases hk'
  exact hw

section
variable {P : Program} {k : TypeId} {w : World} {b n : Nat} {f : Int → Option Value} {t e : TypeId}

theorem Ent.isKey {es : Array MapEntry} {clock : Nat} (F : Ent es clock f n) (hk : P.underlying k = some (.int .i64)) : ∀ x ∈ es.toList, ∃ l, keyOf P k x.key = some l := fun x hx => by
  obtain ⟨y, hy, hw, _⟩ := F.keys x hx
  exact ⟨_, by rw [hy]; exact keyOf_int_mk hk hw⟩

/-- 'm[x]', 'v, ok := m[x]'. -/
theorem MapI.look (h : MapI w b f n) (hk : P.underlying k = some (.int .i64)) (ht : P.underlying t = some (.map k e)) {z : Value} (hz : (zeroValue e).run P w = .ok z w) (x : Int) (hw : (Lit.int .i64 x).wf = true) (c : Bool) :
    (Instr.lookup t (.map (some b)) (.int .i64 x) c).run P w = .ok (if c then .tuple #[(f x).getD z, .bool (f x).isSome] else (f x).getD z) w := by
  obtain ⟨es, clock, hb, F⟩ := h
  have K := int_keyed (P := P) hk
  have hkey := keyOf_int_mk (P := P) hk hw
  rcases K.find w hkey es.toList (F.isKey hk) with ⟨h1, h2⟩ | ⟨j, e0, h1, h2, h3⟩
  · have hf : f x = none := by
      cases hf : f x with
      | none => rfl
      | some v =>
        obtain ⟨e1, he1, hk1, _⟩ := F.has x v hf
        exact absurd hk1 (h2 e1 he1)
    rw [hf]
    simp [Instr.lookup, run_underlying ht, MapKept.run_getObj_map hb, K.check w _ hkey, h1, hz, Result.andThen]
  · have hm0 : e0 ∈ es.toList := List.mem_of_getElem? h2
    obtain ⟨x', hx', _, hf⟩ := F.keys e0 hm0
    rw [h3] at hx'
    cases hx'
    rw [hf]
    simp [Instr.lookup, run_underlying ht, MapKept.run_getObj_map hb, K.check w _ hkey, h1, Result.andThen]

theorem only_setBlock (w : World) (b : Nat) (o : Obj) : Only b w (setBlock w b o) :=
  ⟨rfl, rfl, rfl, by simp [setBlock], fun j hj => by simp [setBlock, Array.getElem?_setIfInBounds, Ne.symm hj]⟩

/-- Two entries of one key are one. -/
theorem Ent.one {es : Array MapEntry} {clock : Nat} (F : Ent es clock f n) {x y : MapEntry} (hx : x ∈ es.toList) (hy : y ∈ es.toList) (h : x.key = y.key) : x = y :=
  entry_eq_of_key ((stamped_iff es clock).1 F.stamped).2.2 hx hy h

/-- 'm[x] = v'. -/
theorem MapI.store (h : MapI w b f n) (hk : P.underlying k = some (.int .i64)) (ht : P.underlying t = some (.map k e)) (x : Int) (hw : (Lit.int .i64 x).wf = true) (v : Value) (hn : n < maxLen) :
    ∃ w', (Instr.mapUpdate t (.map (some b)) (.int .i64 x) v).run P w = .ok () w' ∧ MapI w' b (upd f x (some v)) (if (f x).isSome then n else n + 1) ∧ Only b w w' := by
  obtain ⟨es, clock, hb, F⟩ := h
  have K := int_keyed (P := P) hk
  have hkey := keyOf_int_mk (P := P) hk hw
  rcases K.find w hkey es.toList (F.isKey hk) with ⟨h1, h2⟩ | ⟨j, e0, h1, h2, h3⟩
  · have hf : f x = none := by
      cases hf : f x with
      | none => rfl
      | some v =>
        obtain ⟨e1, he1, hk1, _⟩ := F.has x v hf
        exact absurd hk1 (h2 e1 he1)
    refine ⟨setBlock w b (.map (es.push ⟨.int .i64 x, v, clock⟩) (clock + 1)), ?_, ⟨_, _, heap_setBlock_same hb _, ⟨stamped_push F.stamped h2, ?_, ?_, ?_, ?_⟩⟩, only_setBlock _ _ _⟩
    · simp [Instr.mapUpdate, run_underlying ht, MapKept.run_getObj_map hb, K.check w false hkey, h1, MapKept.run_setObj_map _ hb, Result.andThen, setBlock]
    · simp [hf, F.size]
    · simp [hf]; omega
    · intro e' he'
      simp only [Array.toList_push, List.mem_append, List.mem_singleton] at he'
      rcases he' with he' | rfl
      · obtain ⟨x', hx', hw', hf'⟩ := F.keys e' he'
        refine ⟨x', hx', hw', ?_⟩
        rw [upd_other]
        · exact hf'
        · rintro rfl
          exact h2 e' he' hx'
      · exact ⟨x, rfl, hw, upd_same _ _ _⟩
    · intro y u hy
      by_cases hyx : y = x
      · subst hyx
        rw [upd_same] at hy
        cases hy
        exact ⟨⟨.int .i64 y, v, clock⟩, by simp, rfl, rfl⟩
      · rw [upd_other _ _ _ hyx] at hy
        obtain ⟨e1, he1, hk1, hv1⟩ := F.has y u hy
        exact ⟨e1, by simp [he1], hk1, hv1⟩
  · have hj : es[j]? = some e0 := by simpa using h2
    have hjl : j < es.toList.length := (List.getElem?_eq_some_iff.1 h2).1
    have hm0 : e0 ∈ es.toList := List.mem_of_getElem? h2
    obtain ⟨x', hx', _, hf⟩ := F.keys e0 hm0
    rw [h3] at hx'
    cases hx'
    have hkeyf : ∀ e', es[j]? = some e' → ({ e' with key := .int .i64 x, val := v } : MapEntry).key = e'.key := fun e' he' => by rw [hj] at he'; cases he'; exact h3.symm
    have hlist : (es.modify j (fun e' => { e' with key := .int .i64 x, val := v })).toList = es.toList.set j { e0 with key := .int .i64 x, val := v } := by rw [Array.toList_modify, modify_eq_set _ _ _ _ h2]
    have who : ∀ y ∈ es.toList.set j { e0 with key := .int .i64 x, val := v }, y = { e0 with key := .int .i64 x, val := v } ∨ (y ∈ es.toList ∧ y.key ≠ .int .i64 x) := by
      intro y hy
      obtain ⟨i, hi, ex⟩ := List.getElem_of_mem hy
      rw [List.getElem_set] at ex
      split at ex
      · exact Or.inl ex.symm
      · rename_i hne
        have hi' : i < es.toList.length := by simpa using hi
        refine Or.inr ⟨ex ▸ List.getElem_mem hi', fun hk' => hne ?_⟩
        have h5 := ((stamped_iff es clock).1 F.stamped).2.2
        rw [List.pairwise_iff_getElem] at h5
        have e1 : es.toList[j] = e0 := (List.getElem?_eq_some_iff.1 h2).2
        rcases Nat.lt_trichotomy i j with hlt | heq | hgt
        · exact absurd (by rw [ex, hk', e1, h3]) (h5 i j hi' hjl hlt)
        · exact heq.symm
        · exact absurd (by rw [ex, hk', e1, h3]) (h5 j i hjl hi' hgt)
    refine ⟨setBlock w b (.map (es.modify j (fun e' => { e' with key := .int .i64 x, val := v })) clock), ?_, ⟨_, _, heap_setBlock_same hb _, ⟨stamped_modify F.stamped _ _ (fun _ _ => rfl) (fun e' _ he' => hkeyf e' he'), ?_, ?_, ?_, ?_⟩⟩, only_setBlock _ _ _⟩
    · simp [Instr.mapUpdate, run_underlying ht, MapKept.run_getObj_map hb, K.check w false hkey, h1, hj, h3, K.stays w hkey, MapKept.run_setObj_map _ hb, Result.andThen, setBlock]
    · simp [hf, F.size]
    · simp [hf]; exact F.max
    · intro e' he'
      rw [hlist] at he'
      rcases who e' he' with rfl | ⟨he', hne⟩
      · exact ⟨x, rfl, hw, upd_same _ _ _⟩
      · obtain ⟨x', hx', hw', hf'⟩ := F.keys e' he'
        refine ⟨x', hx', hw', ?_⟩
        rw [upd_other]
        · exact hf'
        · rintro rfl
          exact hne hx'
    · intro y u hy
      rw [hlist]
      by_cases hyx : y = x
      · subst hyx
        rw [upd_same] at hy
        cases hy
        exact ⟨{ e0 with key := .int .i64 y, val := v }, List.mem_iff_getElem.2 ⟨j, by simpa using hjl, by simp⟩, rfl, rfl⟩
      · rw [upd_other _ _ _ hyx] at hy
        obtain ⟨e1, he1, hk1, hv1⟩ := F.has y u hy
        refine ⟨e1, ?_, hk1, hv1⟩
        obtain ⟨i, hi, ei⟩ := List.getElem_of_mem he1
        have hij : j ≠ i := by
          rintro rfl
          rw [(List.getElem?_eq_some_iff.1 h2).2] at ei
          subst ei
          rw [h3] at hk1
          cases hk1
          exact hyx rfl
        exact List.mem_iff_getElem.2 ⟨i, by simpa using hi, by rw [List.getElem_set_ne hij]; exact ei⟩

/-- 'delete(m, x)'. -/
theorem MapI.del (h : MapI w b f n) (hk : P.underlying k = some (.int .i64)) (ht : P.underlying t = some (.map k e)) (x : Int) (hw : (Lit.int .i64 x).wf = true) (ty : TypeId) :
    ∃ w', (Builtin.delete_ #[t, k] ty #[.map (some b), .int .i64 x]).run P w = .ok (.tuple #[]) w' ∧ MapI w' b (upd f x none) (if (f x).isSome then n - 1 else n) ∧ Only b w w' := by
  obtain ⟨es, clock, hb, F⟩ := h
  have K := int_keyed (P := P) hk
  have hkey := keyOf_int_mk (P := P) hk hw
  rcases K.find w hkey es.toList (F.isKey hk) with ⟨h1, h2⟩ | ⟨j, e0, h1, h2, h3⟩
  · have hf : f x = none := by
      cases hf : f x with
      | none => rfl
      | some v =>
        obtain ⟨e1, he1, hk1, _⟩ := F.has x v hf
        exact absurd hk1 (h2 e1 he1)
    have hu : upd f x none = f := by
      funext y
      unfold upd
      split
      · rename_i h; subst h; exact hf.symm
      · rfl
    refine ⟨setBlock w b (.map es clock), ?_, ⟨_, _, heap_setBlock_same hb _, ?_⟩, only_setBlock _ _ _⟩
    · simp [Builtin.delete_, run_underlying ht, MapKept.run_getObj_map hb, K.check w _ hkey, h1, MapKept.run_setObj_map _ hb, Result.andThen, setBlock]
    · rw [hu, hf]; exact F
  · have hjl : j < es.toList.length := (List.getElem?_eq_some_iff.1 h2).1
    have hjs : j < es.size := by simpa using hjl
    have hm0 : e0 ∈ es.toList := List.mem_of_getElem? h2
    obtain ⟨x', hx', _, hf⟩ := F.keys e0 hm0
    rw [h3] at hx'
    cases hx'
    have hsub : (es.eraseIdxIfInBounds j).toList = es.toList.eraseIdx j := by
      unfold Array.eraseIdxIfInBounds
      rw [dif_pos hjs]
      simp
    have hone : ∀ y ∈ es.toList.eraseIdx j, y ∈ es.toList ∧ y.key ≠ .int .i64 x := by
      intro y hy
      obtain ⟨i, hne, hi⟩ := List.mem_eraseIdx_iff_getElem?.1 hy
      refine ⟨List.mem_of_getElem? hi, fun hk' => ?_⟩
      have h5 := ((stamped_iff es clock).1 F.stamped).2.2
      rw [List.pairwise_iff_getElem] at h5
      obtain ⟨hi', ei⟩ := List.getElem?_eq_some_iff.1 hi
      have e1 : es.toList[j] = e0 := (List.getElem?_eq_some_iff.1 h2).2
      rcases Nat.lt_trichotomy i j with hlt | heq | hgt
      · exact absurd (by rw [ei, hk', e1, h3]) (h5 i j hi' hjl hlt)
      · exact hne heq
      · exact absurd (by rw [ei, hk', e1, h3]) (h5 j i hjl hi' hgt)
    refine ⟨setBlock w b (.map (es.eraseIdxIfInBounds j) clock), ?_, ⟨_, _, heap_setBlock_same hb _, ⟨stamped_erase F.stamped j, ?_, ?_, ?_, ?_⟩⟩, only_setBlock _ _ _⟩
    · simp [Builtin.delete_, run_underlying ht, MapKept.run_getObj_map hb, K.check w _ hkey, h1, MapKept.run_setObj_map _ hb, Result.andThen, setBlock]
    · have := congrArg List.length hsub
      rw [List.length_eraseIdx_of_lt hjl, Array.length_toList, Array.length_toList] at this
      rw [hf, ← F.size]
      exact this
    · simp [hf]; have := F.max; omega
    · intro e' he'
      rw [hsub] at he'
      obtain ⟨he', hne⟩ := hone e' he'
      obtain ⟨x', hx', hw', hf'⟩ := F.keys e' he'
      refine ⟨x', hx', hw', ?_⟩
      rw [upd_other]
      · exact hf'
      · rintro rfl
        exact hne hx'
    · intro y u hy
      rw [hsub]
      have hyx : y ≠ x := by rintro rfl; rw [upd_same] at hy; cases hy
      rw [upd_other _ _ _ hyx] at hy
      obtain ⟨e1, he1, hk1, hv1⟩ := F.has y u hy
      refine ⟨e1, ?_, hk1, hv1⟩
      obtain ⟨i, hi, ei⟩ := List.getElem_of_mem he1
      refine List.mem_eraseIdx_iff_getElem?.2 ⟨i, ?_, by rw [List.getElem?_eq_getElem hi, ei]⟩
      rintro rfl
      rw [(List.getElem?_eq_some_iff.1 h2).2] at ei
      subst ei
      rw [h3] at hk1
      cases hk1
      exact hyx rfl

/-- 'len(m)'. -/
theorem MapI.len (h : MapI w b f n) (ht : P.underlying t = some (.map k e)) (ty : TypeId) : (Builtin.len_ #[t] ty #[.map (some b)]).run P w = .ok (.int .i64 n) w := by
  obtain ⟨es, clock, hb, F⟩ := h
  simp [Builtin.len_, run_underlying ht, MapKept.run_getObj_map hb, goInt, Result.andThen, F.size]

/-- A range over a map, under way: the entries at ks have come, cnt are to come. -/
def IterI (w : World) (b r : Nat) (f : Int → Option Value) (n : Nat) (ks : List Int) (cnt : Nat) : Prop :=
  ∃ es clock since seen c0, w.heap[b]? = some (.map es clock) ∧ Ent es clock f n ∧ w.heap[r]? = some (.mapIter (some b) since seen c0) ∧ (∀ x ∈ es.toList, x.born < since) ∧ since ≤ c0 ∧ since ≤ clock ∧
    (leftOf es seen).size = cnt ∧ ks.Nodup ∧ (∀ e ∈ es.toList, seen.contains e.born = true ↔ ∃ x ∈ ks, e.key = .int .i64 x) ∧ ∀ x ∈ ks, (f x).isSome = true

theorem IterI.map {w : World} {r : Nat} {ks : List Int} {cnt : Nat} (h : IterI w b r f n ks cnt) : MapI w b f n := by
  obtain ⟨es, clock, since, seen, c0, hb, F, _⟩ := h
  exact ⟨es, clock, hb, F⟩
theorem IterI.lt {w : World} {r : Nat} {ks : List Int} {cnt : Nat} (h : IterI w b r f n ks cnt) : r < w.heap.size := by
  obtain ⟨es, clock, since, seen, c0, hb, F, hr, _⟩ := h
  exact (Array.getElem?_eq_some_iff.1 hr).1
theorem IterI.ne {w : World} {r : Nat} {ks : List Int} {cnt : Nat} (h : IterI w b r f n ks cnt) : r ≠ b := by
  obtain ⟨es, clock, since, seen, c0, hb, F, hr, _⟩ := h
  intro e
  rw [e, hb] at hr
  cases hr
theorem IterI.nodup {w : World} {r : Nat} {ks : List Int} {cnt : Nat} (h : IterI w b r f n ks cnt) : ks.Nodup := by
  obtain ⟨es, clock, since, seen, c0, hb, F, hr, h1, h2, h3, h4, h5, _⟩ := h
  exact h5
theorem IterI.mem {w : World} {r : Nat} {ks : List Int} {cnt : Nat} (h : IterI w b r f n ks cnt) {x : Int} (hx : x ∈ ks) : (f x).isSome = true := by
  obtain ⟨es, clock, since, seen, c0, hb, F, hr, h1, h2, h3, h4, h5, h6, h7⟩ := h
  exact h7 x hx
theorem IterI.on {w w' : World} {r : Nat} {ks : List Int} {cnt : Nat} (h : IterI w b r f n ks cnt) (hb : w'.heap[b]? = w.heap[b]?) (hr : w'.heap[r]? = w.heap[r]?) : IterI w' b r f n ks cnt := by
  obtain ⟨es, clock, since, seen, c0, hb0, F, hr0, rest⟩ := h
  exact ⟨es, clock, since, seen, c0, hb.trans hb0, F, hr.trans hr0, rest⟩

/-- 'range m'. -/
theorem MapI.range (h : MapI w b f n) (ht : P.underlying t = some (.map k e)) :
    (Instr.range t (.map (some b))).run P w = .ok (.pointer (some ⟨w.heap.size, 0, none⟩)) (w.alloc (.mapIter (some b) (match w.heap[b]? with | some (.map _ c) => c | _ => 0) #[] (match w.heap[b]? with | some (.map _ c) => c | _ => 0))) ∧
    IterI (w.alloc (.mapIter (some b) (match w.heap[b]? with | some (.map _ c) => c | _ => 0) #[] (match w.heap[b]? with | some (.map _ c) => c | _ => 0))) b w.heap.size f n [] n := by
  have hlt := h.lt
  obtain ⟨es, clock, hb, F⟩ := h
  refine ⟨by rw [hb]; exact run_range_map w t k e b es clock ht hb, ⟨es, clock, clock, #[], clock, ((MapKept.heap_alloc w _).2 b hlt).trans hb, F, ?_, F.stamped.1, Nat.le_refl _, Nat.le_refl _, ?_, List.nodup_nil, ?_, by simp⟩⟩
  · rw [hb]; exact (MapKept.heap_alloc w _).1
  · have h0 : (leftOf es #[]).size = es.size := by simp [leftOf]
    exact h0.trans F.size
  · simp

/-- The step. -/
theorem IterI.next {r : Nat} {ks : List Int} {cnt : Nat} (h : IterI w b r f n ks cnt) (ty : TypeId) :
    ((∀ x, (f x).isSome = true → x ∈ ks) ∧ (Instr.next (.pointer (some ⟨r, 0, none⟩)) false ty).run P w = .ok (.tuple #[.bool false]) w) ∨
    ∃ x v w' cnt', x ∉ ks ∧ f x = some v ∧ (Lit.int .i64 x).wf = true ∧ (Instr.next (.pointer (some ⟨r, 0, none⟩)) false ty).run P w = .ok (.tuple #[.bool true, .int .i64 x, v]) w' ∧ IterI w' b r f n (ks ++ [x]) cnt' ∧ cnt' < cnt ∧ Only r w w' ∧
      (Instr.entry (.pointer (some ⟨r, 0, none⟩))).run P w' = .ok (.tuple #[.int .i64 x, v]) w' := by
  have hne := h.ne
  obtain ⟨es, clock, since, seen, c0, hb, F, hr, hold, hsc, hsk, rfl, hnd, hseen, hks⟩ := h
  rcases run_next_at (P := P) w ty r b since c0 seen es clock hr hb hold hsc with ⟨h0, hrun⟩ | ⟨e, he, w1, hal, hrun⟩
  · refine Or.inl ⟨fun x hx => ?_, hrun⟩
    obtain ⟨v, hv⟩ := Option.isSome_iff_exists.1 hx
    obtain ⟨e1, he1, hk1, _⟩ := F.has x v hv
    obtain ⟨y, hy, hky⟩ := (hseen e1 he1).1 (all_seen es seen h0 e1 he1)
    rw [hk1] at hky
    cases hky
    exact hy
  · obtain ⟨hem, hes⟩ := mem_left he
    obtain ⟨x, hx, hw, hf⟩ := F.keys e hem
    have hr1 : w1.heap[r]? = some (.mapIter (some b) since seen c0) := by rcases hal with rfl | rfl <;> exact hr
    have hb1 : w1.heap[b]? = some (.map es clock) := by rcases hal with rfl | rfl <;> exact hb
    have hset := heap_set (o' := .mapIter (some b) since (seen.push e.born) clock) hr1
    have hb' : (setBlock w1 r (.mapIter (some b) since (seen.push e.born) clock)).heap[b]? = some (.map es clock) := (hset.2 b (fun e1 => hne e1.symm)).trans hb1
    have hent := run_entry_at (P := P) _ r b since seen es clock e hset.1 hb' hem ((stamped_iff es clock).1 F.stamped).2.1
    have hx' : x ∉ ks := fun hm => by
      have := (hseen e hem).2 ⟨x, hm, hx⟩
      rw [hes] at this
      cases this
    rw [hx] at hrun hent
    refine Or.inr ⟨x, e.val, _, _, hx', hf, hw, hrun, ⟨es, clock, since, seen.push e.born, clock, hb', F, hset.1, hold, hsk, hsk, rfl, ?_, ?_, ?_⟩, left_shrinks es seen e he, ?_, hent⟩
    · rw [List.nodup_append]
      refine ⟨hnd, by simp, ?_⟩
      intro a ha c hc
      simp only [List.mem_singleton] at hc
      subst hc
      exact fun e1 => hx' (e1 ▸ ha)
    · intro y hy
      rw [contains_push, Bool.or_eq_true, hseen y hy]
      constructor
      · rintro (⟨z, hz, hkz⟩ | hbn)
        · exact ⟨z, by simp [hz], hkz⟩
        · obtain rfl := born_inj ((stamped_iff es clock).1 F.stamped).2.1 hy hem (by simpa using hbn)
          exact ⟨x, by simp, hx⟩
      · rintro ⟨z, hz, hkz⟩
        simp only [List.mem_append, List.mem_singleton] at hz
        rcases hz with hz | rfl
        · exact Or.inl ⟨z, hz, hkz⟩
        · right
          obtain rfl := F.one hy hem (hkz.trans hx.symm)
          simp
    · intro z hz
      simp only [List.mem_append, List.mem_singleton] at hz
      rcases hz with hz | rfl
      · exact hks z hz
      · rw [hf]; rfl
    · rcases hal with rfl | rfl
      · exact only_setBlock _ _ _
      · exact ⟨rfl, rfl, rfl, by simp [setBlock], fun j hj => hset.2 j hj⟩
end

/-! At the operations. -/
section
variable {P : Program} (w : World) {ops : Array Oper} {rest : List Oper} {o : Oper} {a : Act} {Q : Exit → Act → World → Prop}

theorem wpList_rangeI (hg : o.guard = none) (m : Operand) (t : TypeId) (hop : o.op = Op.range t m) (k e : TypeId) (ht : P.underlying t = some (.map k e)) (b n : Nat) (f : Int → Option Value)
    (hm : a.eval m = .map (some b)) (h : MapI w b f n)
    (hK : ∀ w', IterI w' b w.heap.size f n [] n → Below w.heap.size w w' → w'.heap.size = w.heap.size + 1 → wpList P ops Q rest (a.put o.dst (.pointer (some ⟨w.heap.size, 0, none⟩))) w') :
    wpList P ops Q (o :: rest) a w := by
  refine wpList_plain hg fun K' hK' => ?_
  obtain ⟨hrun, r1⟩ := h.range (P := P) ht
  unfold Oper.wp
  simp [execOp, hop, hm, hrun, Result.andThen]
  exact hK' _ _ (hK _ r1 ((Below.refl _ _).alloc (Nat.le_refl _) _) (by simp))

theorem wpList_nextI (hg : o.guard = none) (it : Operand) (hop : o.op = Op.next it false) (b r n : Nat) (f : Int → Option Value) (ks : List Int) (cnt : Nat)
    (hit : a.eval it = .pointer (some ⟨r, 0, none⟩)) (h : IterI w b r f n ks cnt)
    (hDone : (∀ x, (f x).isSome = true → x ∈ ks) → wpList P ops Q rest (a.put o.dst (.tuple #[.bool false])) w)
    (hMore : ∀ (x : Int) (v : Value) (w' : World) (cnt' : Nat), x ∉ ks → f x = some v → (Lit.int .i64 x).wf = true → IterI w' b r f n (ks ++ [x]) cnt' → cnt' < cnt → Only r w w' →
      (Instr.entry (.pointer (some ⟨r, 0, none⟩))).run P w' = .ok (.tuple #[.int .i64 x, v]) w' → wpList P ops Q rest (a.put o.dst (.tuple #[.bool true, .int .i64 x, v])) w') :
    wpList P ops Q (o :: rest) a w := by
  refine wpList_plain hg fun K' hK' => ?_
  unfold Oper.wp
  rcases h.next (P := P) o.type with ⟨hl, hrun⟩ | ⟨x, v, w', cnt', hx, hf, hw, hrun, hi, hlt, hon, hen⟩
  · simp [execOp, hop, hit, hrun, Result.andThen]
    exact hK' _ _ (hDone hl)
  · simp [execOp, hop, hit, hrun, Result.andThen]
    exact hK' _ _ (hMore x v w' cnt' hx hf hw hi hlt hon hen)

theorem wpList_lookI (hg : o.guard = none) (m x : Operand) (t : TypeId) (hop : o.op = Op.lookup t m x false) (k e : TypeId) (hk : P.underlying k = some (.int .i64)) (ht : P.underlying t = some (.map k e)) {z : Value} (hz : (zeroValue e).run P w = .ok z w)
    (b n : Nat) (f : Int → Option Value) (hm : a.eval m = .map (some b)) (h : MapI w b f n) (y : Int) (hx : a.eval x = .int .i64 y) (hw : (Lit.int .i64 y).wf = true)
    (hK : wpList P ops Q rest (a.put o.dst ((f y).getD z)) w) : wpList P ops Q (o :: rest) a w := by
  refine wpList_plain hg fun K' hK' => ?_
  unfold Oper.wp
  simp [execOp, hop, hm, hx, h.look hk ht hz y hw false, Result.andThen]
  exact hK' _ _ hK

theorem wpList_look2I (hg : o.guard = none) (m x : Operand) (t : TypeId) (hop : o.op = Op.lookup t m x true) (k e : TypeId) (hk : P.underlying k = some (.int .i64)) (ht : P.underlying t = some (.map k e)) {z : Value} (hz : (zeroValue e).run P w = .ok z w)
    (b n : Nat) (f : Int → Option Value) (hm : a.eval m = .map (some b)) (h : MapI w b f n) (y : Int) (hx : a.eval x = .int .i64 y) (hw : (Lit.int .i64 y).wf = true)
    (hK : wpList P ops Q rest (a.put o.dst (.tuple #[(f y).getD z, .bool (f y).isSome])) w) : wpList P ops Q (o :: rest) a w := by
  refine wpList_plain hg fun K' hK' => ?_
  unfold Oper.wp
  simp [execOp, hop, hm, hx, h.look hk ht hz y hw true, Result.andThen]
  exact hK' _ _ hK

theorem wpList_storeI (hg : o.guard = none) (m x v : Operand) (t : TypeId) (hop : o.op = Op.mapUpdate t m x v) (k e : TypeId) (hk : P.underlying k = some (.int .i64)) (ht : P.underlying t = some (.map k e))
    (b n : Nat) (f : Int → Option Value) (hm : a.eval m = .map (some b)) (h : MapI w b f n) (hn : n < maxLen) (y : Int) (hx : a.eval x = .int .i64 y) (hw : (Lit.int .i64 y).wf = true) (u : Value) (hv : a.eval v = u)
    (hK : ∀ w', MapI w' b (upd f y (some u)) (if (f y).isSome then n else n + 1) → Only b w w' → wpList P ops Q rest (a.put o.dst undef) w') : wpList P ops Q (o :: rest) a w := by
  refine wpList_plain hg fun K' hK' => ?_
  obtain ⟨w', hrun, r1, r2⟩ := h.store hk ht y hw u hn
  unfold Oper.wp
  simp [execOp, hop, hm, hx, hv, hrun, Result.andThen]
  exact hK' _ _ (hK w' r1 r2)

theorem wp_storeI {K : Act → World → Prop} (m x v : Operand) (t : TypeId) (hop : o.op = Op.mapUpdate t m x v) (k e : TypeId) (hk : P.underlying k = some (.int .i64)) (ht : P.underlying t = some (.map k e))
    (b n : Nat) (f : Int → Option Value) (hm : a.eval m = .map (some b)) (h : MapI w b f n) (hn : n < maxLen) (y : Int) (hx : a.eval x = .int .i64 y) (hw : (Lit.int .i64 y).wf = true) (u : Value) (hv : a.eval v = u)
    (hK : ∀ w', MapI w' b (upd f y (some u)) (if (f y).isSome then n else n + 1) → Only b w w' → K (a.put o.dst undef) w') : o.wp P a w K Q := by
  obtain ⟨w', hrun, r1, r2⟩ := h.store hk ht y hw u hn
  unfold Oper.wp
  simp [execOp, hop, hm, hx, hv, hrun, Result.andThen]
  exact hK w' r1 r2
/-- The store as a drawn region leaves it (go_region_with). -/
theorem upon_storeI {w : World} {o : Oper} {a : Act} {K : Act → World → Prop} {Q : Exit → Act → World → Prop} (t k e : TypeId) (hk : P.underlying k = some (.int .i64)) (ht : P.underlying t = some (.map k e))
    (b n : Nat) (f : Int → Option Value) (h : MapI w b f n) (hn : n < maxLen) (y : Int) (hw : (Lit.int .i64 y).wf = true) (u : Value)
    (hK : ∀ w', MapI w' b (upd f y (some u)) (if (f y).isSome then n else n + 1) → Only b w w' → K (a.put o.dst undef) w') :
    Oper.upon P o a K Q ((Sem.run P (Instr.mapUpdate t (.map (some b)) (.int .i64 y) u) w).andThen fun _ w' => .ok .skip w') := by
  obtain ⟨w', hrun, r1, r2⟩ := h.store hk ht y hw u hn
  rw [hrun]
  exact hK w' r1 r2

theorem wpList_delI (hg : o.guard = none) (m x : Operand) (t k : TypeId) (hop : o.op = Op.call { callee := Callee.builtin Builtin.delete, args := #[m, x], argTypes := #[t, k] })
    (e : TypeId) (hk : P.underlying k = some (.int .i64)) (ht : P.underlying t = some (.map k e)) (b n : Nat) (f : Int → Option Value) (hm : a.eval m = .map (some b)) (h : MapI w b f n) (y : Int) (hx : a.eval x = .int .i64 y) (hw : (Lit.int .i64 y).wf = true)
    (hK : ∀ w', MapI w' b (upd f y none) (if (f y).isSome then n - 1 else n) → Only b w w' → wpList P ops Q rest (a.put o.dst (.tuple #[])) w') : wpList P ops Q (o :: rest) a w := by
  refine wpList_plain hg fun K' hK' => ?_
  obtain ⟨w', hrun, r1, r2⟩ := h.del hk ht y hw o.type
  unfold Oper.wp
  simp [execOp, hop, resolve, invoke, builtin, hm, hx, hrun, Result.andThen]
  exact hK' _ _ (hK w' r1 r2)

theorem wpList_lenI (hg : o.guard = none) (m : Operand) (t : TypeId) (hop : o.op = Op.call { callee := Callee.builtin Builtin.len, args := #[m], argTypes := #[t] })
    (k e : TypeId) (ht : P.underlying t = some (.map k e)) (b n : Nat) (f : Int → Option Value) (hm : a.eval m = .map (some b)) (h : MapI w b f n)
    (hK : wpList P ops Q rest (a.put o.dst (.int .i64 n)) w) : wpList P ops Q (o :: rest) a w := by
  refine wpList_plain hg fun K' hK' => ?_
  unfold Oper.wp
  simp [execOp, hop, resolve, invoke, builtin, hm, h.len ht o.type, Result.andThen]
  exact hK' _ _ hK
end
end Go.Proofs.Ytjbomdhlfjcgmaa
