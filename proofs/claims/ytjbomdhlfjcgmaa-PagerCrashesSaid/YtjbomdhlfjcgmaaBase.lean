/-
  Plain words about bytes and about a row (a struct whose first field is a slice of bytes that grows): no program in sight.
-/
import Derived.WalkKit
import Derived.Deep.AppendLies
import Derived.Lib.AppendStr
import Derived.Lib.Hide
namespace Go.Proofs.Ytjbomdhlfjcgmaa
set_option linter.unusedSimpArgs false
set_option linter.unusedVariables false
open Go.RowKit

/-- Bytes as cells. -/
def bcells (xs : List UInt8) : List Value := xs.map fun b => Value.int .u8 b.toNat
/-- The byte of an int. -/
def byteOf (n : Int) : UInt8 := UInt8.ofNat (n % 256).toNat

theorem bcells_length (xs : List UInt8) : (bcells xs).length = xs.length := by simp [bcells]
theorem bcells_append (xs ys : List UInt8) : bcells (xs ++ ys) = bcells xs ++ bcells ys := by simp [bcells]
theorem strCells_eq (s : ByteArray) : Lib.strCells s = bcells s.data.toList := rfl
theorem bcells_oneCell (xs : List UInt8) : ∀ u ∈ bcells xs, u.oneCell' = true := by
  intro u hu
  obtain ⟨_, _, rfl⟩ := List.mem_map.1 hu
  rfl

theorem byteOf_mod (n : Int) : ((byteOf n).toNat : Int) = n % 256 := by
  have h0 : (0 : Int) ≤ n % 256 := Int.emod_nonneg _ (by decide)
  have h1 : n % 256 < 256 := Int.emod_lt_of_pos _ (by decide)
  unfold byteOf
  rw [UInt8.toNat_ofNat']
  omega
theorem byteOf_wrap (n : Int) : Value.int .u8 (IntKind.u8.wrap n) = Value.int .u8 ((byteOf n).toNat : Int) := by
  have h : IntKind.u8.wrap n = n % 256 := by simp [IntKind.wrap, IntKind.signed, IntKind.bits]
  have h0 : (0 : Int) ≤ n % 256 := Int.emod_nonneg _ (by decide)
  have h1 : n % 256 < 256 := Int.emod_lt_of_pos _ (by decide)
  have h2 : ((byteOf n).toNat : Int) = n % 256 := by
    unfold byteOf
    rw [UInt8.toNat_ofNat']
    omega
  rw [h, h2]

/-- So many bytes that an append may take them. -/
def Fits (n : Nat) : Prop := n < 70000000000000
theorem Fits.max {n m : Nat} (h : Fits (n + m)) : n + m ≤ maxLen := by unfold Fits at h; unfold maxLen; omega
theorem Fits.reach {n m : Nat} (h : Fits (n + m)) : (n + m) * 1 ≤ 140737488355328 := by unfold Fits at h; omega
theorem Fits.reach' {n m : Nat} (h : Fits (n + m)) : n + m ≤ 140737488355328 := by unfold Fits at h; omega
theorem Fits.le {n m : Nat} (h : Fits m) (hn : n ≤ m) : Fits n := by unfold Fits at *; omega

/-- The row at block rb: its first cell holds v, which owns the bytes xs. -/
structure RowAt (w : World) (rb : Nat) (v : Value) (xs : List UInt8) : Prop where
  cell : w.cell? ⟨rb, 0, none⟩ = some v
  free : w.frozen? ⟨rb, 0, none⟩ = false
  own : w.ownsRow (rb + 1) 5 1 v xs.length (bcells xs)

/-- What a call that puts bytes leaves: all is as it was but the row's first cell, its bytes' block, new blocks. -/
structure Puts (w w' : World) (rb : Nat) (v v' : Value) : Prop where
  os : w'.os = w.os
  tape : w'.tape = w.tape
  output : w'.output = w.output
  size : w.heap.size ≤ w'.heap.size
  block : ∀ k, k < w.heap.size → k ≠ rb → v.ownBlock ≠ some k → w'.heap[k]? = w.heap[k]?
  row : ∀ o, o ≠ 0 → w'.cell? ⟨rb, o, none⟩ = w.cell? ⟨rb, o, none⟩
  frz : ∀ o, w'.frozen? ⟨rb, o, none⟩ = w.frozen? ⟨rb, o, none⟩
  new : v'.ownBlock = v.ownBlock ∨ ∃ k, v'.ownBlock = some k ∧ w.heap.size ≤ k

/-- A call that puts: the row has the bytes zs behind it. -/
def PutPost (w : World) (rb : Nat) (v : Value) (zs : List UInt8) (e : Ending) (w' : World) : Prop := ∃ v', e = .returned (.tuple #[]) ∧ RowAt w' rb v' zs ∧ Puts w w' rb v v'

/-- A call that answers bytes of its own. -/
def BytesPost (w : World) (zs : List UInt8) (e : Ending) (w' : World) : Prop :=
  ∃ v, e = .returned v ∧ w'.ownsRow w.heap.size 5 1 v zs.length (bcells zs) ∧ Below w.heap.size w w'
theorem ownsRow_base {w : World} {base base' : Nat} {e : TypeId} {size : Nat} {v : Value} {n : Nat} {xs : List Value} (h : w.ownsRow base e size v n xs) (hb : base' ≤ base) : w.ownsRow base' e size v n xs := by
  refine ⟨h.1, ?_⟩
  rcases h.2 with h | ⟨g, cap, cur, hv, hg, r⟩
  · exact .inl h
  · exact .inr ⟨g, cap, cur, hv, by omega, r⟩

theorem ret_bool {a b : Bool} (h : a = b) : Ending.returned (.bool a) = .returned (.bool b) := by rw [h]
theorem ret_int {k : IntKind} {a b : Int} (h : a = b) : Ending.returned (.int k a) = .returned (.int k b) := by rw [h]

theorem Puts.refl (w : World) (rb : Nat) (v : Value) : Puts w w rb v v :=
  ⟨rfl, rfl, rfl, Nat.le_refl _, fun _ _ _ _ => rfl, fun _ _ => rfl, fun _ => rfl, .inl rfl⟩

theorem Puts.trans {w w1 w2 : World} {rb : Nat} {v v1 v2 : Value} (h : Puts w w1 rb v v1) (k : Puts w1 w2 rb v1 v2) : Puts w w2 rb v v2 := by
  refine ⟨k.os.trans h.os, k.tape.trans h.tape, k.output.trans h.output, Nat.le_trans h.size k.size, fun j hj hr hv => ?_, fun o ho => (k.row o ho).trans (h.row o ho), fun o => (k.frz o).trans (h.frz o), ?_⟩
  · rw [k.block j (Nat.lt_of_lt_of_le hj h.size) hr ?_, h.block j hj hr hv]
    intro e
    rcases h.new with h' | ⟨m, h', hm⟩
    · exact hv (h'.symm.trans e)
    · rw [h'] at e; cases e; omega
  · rcases k.new with k' | ⟨m, k', hm⟩
    · rcases h.new with h' | ⟨m, h', hm⟩
      · exact .inl (k'.trans h')
      · exact .inr ⟨m, k'.trans h', hm⟩
    · exact .inr ⟨m, k', Nat.le_trans h.size hm⟩

theorem Puts.cell {w w' : World} {rb : Nat} {v v' : Value} (h : Puts w w' rb v v') {a : Addr} (hk : a.block < w.heap.size) (hr : a.block ≠ rb) (hv : v.ownBlock ≠ some a.block) : w'.cell? a = w.cell? a :=
  World.cell?_of_block (h.block _ hk hr hv)
theorem Puts.frozen {w w' : World} {rb : Nat} {v v' : Value} (h : Puts w w' rb v v') {a : Addr} (hk : a.block < w.heap.size) (hr : a.block ≠ rb) (hv : v.ownBlock ≠ some a.block) : w'.frozen? a = w.frozen? a :=
  World.frozen?_of_block (h.block _ hk hr hv)
/-- Blocks below the row are as they were. -/
theorem Puts.below {w w' : World} {rb : Nat} {v v' : Value} {xs : List UInt8} (h : Puts w w' rb v v') (hr : RowAt w rb v xs) (hb : rb ≤ w.heap.size) : Below rb w w' :=
  ⟨h.os, h.tape, h.output, h.size, fun k hk => h.block k (by omega) (by omega) (fun e => by have := hr.own.lt k e; omega)⟩
/-- Another block stays none of the row's own. -/
theorem Puts.other {w w' : World} {rb : Nat} {v v' : Value} (h : Puts w w' rb v v') {k : Nat} (hk : k < w.heap.size) (hv : v.ownBlock ≠ some k) : v'.ownBlock ≠ some k := by
  intro e
  rcases h.new with h' | ⟨m, h', hm⟩
  · exact hv (h'.symm.trans e)
  · rw [h'] at e; cases e; omega

/-- A world as w, but for new blocks, and draws. -/
theorem Puts.of_below {w w' : World} {rb : Nat} {v : Value} (h : Below w.heap.size w w') (hb : rb < w.heap.size) : Puts w w' rb v v :=
  ⟨h.os, h.tape, h.output, h.size, fun k hk _ _ => h.block k hk, fun _ _ => h.cell (by exact hb), fun _ => h.frozen (by exact hb), .inl rfl⟩

theorem RowAt.drew {w : World} {rb : Nat} {v : Value} {xs : List UInt8} (h : RowAt w rb v xs) : RowAt w.drew rb v xs := ⟨h.cell, h.free, h.own⟩
theorem RowAt.alloc {w : World} {rb : Nat} {v : Value} {xs : List UInt8} (h : RowAt w rb v xs) (hb : rb < w.heap.size) (o : Obj) : RowAt (w.alloc o) rb v xs :=
  ⟨by rw [World.cell?_alloc_past _ _ _ hb]; exact h.cell, by rw [World.frozen?_alloc_past _ _ _ hb]; exact h.free, h.own.alloc o⟩
theorem RowAt.of_below {w w' : World} {rb : Nat} {v : Value} {xs : List UInt8} (h : RowAt w rb v xs) (hb : rb < w.heap.size) (hB : Below w.heap.size w w') : RowAt w' rb v xs :=
  ⟨(hB.cell (p := ⟨rb, 0, none⟩) hb).trans h.cell, (hB.frozen (p := ⟨rb, 0, none⟩) hb).trans h.free, h.own.kept (row := none) ⟨hB.os, hB.tape, hB.output, hB.size, fun k hk _ => hB.block k hk⟩ (by cases hv : v.ownBlock <;> simp)⟩
theorem Puts.from_below {w w' w'' : World} {rb : Nat} {v v' : Value} (hb : rb < w.heap.size) (hB : Below w.heap.size w w') (h : Puts w' w'' rb v v') : Puts w w'' rb v v' := (Puts.of_below hB hb).trans h

theorem Puts.undrew {w w' : World} {rb : Nat} {v v' : Value} (h : Puts w.drew w' rb v v') : Puts w w' rb v v' := ⟨h.os, h.tape, h.output, h.size, h.block, h.row, h.frz, h.new⟩
theorem fits_of (n : Nat) (h : n ≤ 1000000000) : Fits n := by unfold Fits; omega

/-- A row that was just made. -/
theorem RowAt.new (w : World) (n : Nat) (cs : Array Value) (T : TypeId) (hn : n = w.heap.size) (h0 : cs[0]? = some (.slice none 0 0)) : RowAt (w.alloc (.cells cs T)) n (.slice none 0 0) [] := by
  subst hn
  refine ⟨?_, ?_, World.ownsRow_nil _ _ _ _⟩
  · rw [World.cell?_alloc_at _ _ _ _ rfl]; exact h0
  · rw [World.frozen?_alloc_at _ _ _ _ rfl]

/-- A row that the call itself made from nil: below, all is as it was. -/
theorem Puts.below_new {n rb : Nat} {w W w1 : World} {v0 v : Value} (h : Puts W w1 rb v0 v) (hv : v0.ownBlock = none) (hB : Below n w W) (hn : n ≤ rb) (hs : n ≤ W.heap.size) : Below n w w1 :=
  hB.trans ⟨h.os, h.tape, h.output, h.size, fun k hk => h.block k (by omega) (by omega) (by rw [hv]; simp)⟩
theorem below_alloc2 (w : World) (o o' : Obj) : Below w.heap.size w ((w.alloc o).alloc o') := ((Below.refl _ _).alloc (Nat.le_refl _) o).alloc (by simp) o'

/-- The row behind an append and the store of its value. -/
theorem row_put {w w1 : World} {rb : Nat} {v v' : Value} {xs ys : List UInt8} (hrow : RowAt w rb v xs) (hb : rb < w.heap.size)
    (hown : w1.ownsRow (rb + 1) 5 1 v' (xs.length + ys.length) (bcells xs ++ bcells ys)) (hbel : ∀ k, k < w.heap.size → v.ownBlock ≠ some k → w1.heap[k]? = w.heap[k]?)
    (hos : w1.os = w.os) (htape : w1.tape = w.tape) (hout : w1.output = w.output) (hsz : w.heap.size ≤ w1.heap.size) (hnew : v.ownBlock = v'.ownBlock ∨ ∃ k, v'.ownBlock = some k ∧ w.heap.size ≤ k) :
    RowAt (w1.setCell ⟨rb, 0, none⟩ v') rb v' (xs ++ ys) ∧ Puts w (w1.setCell ⟨rb, 0, none⟩ v') rb v v' := by
  have hrbv : v.ownBlock ≠ some rb := fun e => by have := hrow.own.lt rb e; omega
  have hrb' := hbel rb hb hrbv
  have hc : w1.cell? ⟨rb, 0, none⟩ = some v := (World.cell?_of_block hrb').trans hrow.cell
  have hf : w1.frozen? ⟨rb, 0, none⟩ = false := (World.frozen?_of_block hrb').trans hrow.free
  have hnv : v'.ownBlock ≠ some rb := fun e => by have := hown.lt rb e; omega
  refine ⟨⟨by simp [World.cell?_setCell_same, hc], by simpa using hf, ?_⟩, ⟨hos, htape, hout, by simpa [World.setCell] using hsz, fun k hk hr hv => ?_, fun o ho => ?_, fun o => ?_, ?_⟩⟩
  · have := ownsRow_setCell_other hown (a := ⟨rb, 0, none⟩) hnv v'
    simpa [bcells_append] using this
  · rw [Below.heap_setCell _ _ _ _ (by exact hr)]; exact hbel k hk hv
  · rw [World.cell?_setCell_other (w := w1) (a := ⟨rb, 0, none⟩) (b := ⟨rb, o, none⟩) (v := v') (fun e => ho (by cases e; rfl))]
    exact World.cell?_of_block hrb'
  · simp only [World.frozen?_setCell]
    exact World.frozen?_of_block hrb'
  · rcases hnew with h | ⟨k, h, hk⟩
    · exact .inl h.symm
    · exact .inr ⟨k, h, hk⟩

/-- Behind an append to the row's bytes in a world that has some blocks more: what the store of the value and its end want. -/
theorem row_grown {w wa w1 : World} {rb : Nat} {v v' : Value} {xs ys : List UInt8} (hrow : RowAt w rb v xs) (hb : rb < w.heap.size) (ha : Below w.heap.size w wa) (hgrow : wa.grownBy w1 v.ownBlock) :
    w1.cell? ⟨rb, 0, none⟩ = some v ∧ w1.frozen? ⟨rb, 0, none⟩ = false ∧
    (w1.ownsRow (rb + 1) 5 1 v' (xs.length + ys.length) (bcells xs ++ bcells ys) → (v.ownBlock = v'.ownBlock ∨ ∃ k, v'.ownBlock = some k ∧ w.heap.size ≤ k) →
      RowAt (w1.setCell ⟨rb, 0, none⟩ v') rb v' (xs ++ ys) ∧ Puts w (w1.setCell ⟨rb, 0, none⟩ v') rb v v') := by
  have hbel : ∀ k, k < w.heap.size → v.ownBlock ≠ some k → w1.heap[k]? = w.heap[k]? := fun k hk hv =>
    (hgrow.block k (Nat.lt_of_lt_of_le hk ha.size) (fun e => hv e.symm)).trans (ha.block k hk)
  have hrbv : v.ownBlock ≠ some rb := fun e => by have := hrow.own.lt rb e; omega
  exact ⟨(World.cell?_of_block (hbel rb hb hrbv)).trans hrow.cell, (World.frozen?_of_block (hbel rb hb hrbv)).trans hrow.free,
    fun hown hnew => row_put hrow hb hown hbel (hgrow.os.trans ha.os) (hgrow.tape.trans ha.tape) (hgrow.output.trans ha.output) (Nat.le_trans ha.size hgrow.size) hnew⟩

section
variable {P : Program} (w : World)
/-- The kit's law on appending a string's bytes, with where the value lies. -/
theorem run_append_str_at (base : Nat) (t u ty e : TypeId) (i : TypeInfo) (ht : P.underlying t = some (.slice e)) (hu : P.underlying u = some .string) (hi : P.info? e = some i) (hz : i.zero = some (.int .u8 0))
    (hsize : i.size = 1) (hby : i.bytes = 1) (v : Value) (n : Nat) (xs : List Value) (hown : w.ownsRow base e 1 v n xs) (s : ByteArray)
    (h63 : n + s.size ≤ maxLen) (hbytes : n + s.size ≤ 140737488355328) (hbase : base ≤ w.heap.size) :
    ∃ v' w', (Builtin.append_ #[t, u] ty #[v, .string s]).run P w = .ok v' w' ∧ w'.ownsRow base e 1 v' (n + s.size) (xs ++ Lib.strCells s) ∧ w.grownBy w' v.ownBlock ∧
      (v'.ownBlock = v.ownBlock ∨ v'.ownBlock = some w.heap.size) := by
  obtain ⟨v', w', hr, h1, h2, h3⟩ := Lib.run_append_own_string w base t u ty e i ht hu hi hz hsize hby v n xs hown s h63 hbytes hbase
  refine ⟨v', w', hr, h1, h2, ?_⟩
  have hsmall : n + s.size ≤ 9223372036854775807 := by simp only [maxLen] at h63; omega
  have hxl : xs.length = n := by simpa using hown.1
  rcases hown.2 with ⟨rfl, rfl⟩ | ⟨g, cap, cur, rfl, hbg, hg, hnc, hcm, hcs, htake⟩
  · by_cases hm : s.size = 0
    · have := h3.2 ⟨rfl, hm⟩
      subst this
      exact .inl rfl
    · have hr2 := run_append_nil_string (P := P) w t u ty e i (.int .u8 0) ht hu hi hz s (by omega) (by omega) (by rw [hby]; omega)
      rw [hr2] at hr
      cases hr
      exact .inr rfl
  · by_cases hroom : n + s.size ≤ cap
    · have hcs' : cur.size = cap := by simpa using hcs
      have hr2 := Lib.run_append_room_string (P := P) w t u ty e i ht hu hi hsize g n cap cur hg s hroom (by omega)
      rw [hr2] at hr
      cases hr
      exact .inl rfl
    · have holds : ∀ j u, xs[j]? = some u → w.cell? ((⟨g, 0, none⟩ : Addr).add j) = some u := hown.cells (g := g) rfl
      have hr2 := Lib.run_append_grow_string (P := P) w t u ty e i (.int .u8 0) ht hu hi hz ⟨g, 0, none⟩ n cap xs (by rw [hsize]; simpa using hxl) holds s (by omega) (by omega) (by rw [hby]; exact growslice_fits (by omega) (by omega))
      rw [hr2] at hr
      cases hr
      exact .inr rfl

theorem wp_append_str {o : Oper} {a : Act} {K : Act → World → Prop} {Q : Exit → Act → World → Prop} (sl x : Operand) (t u : TypeId)
    (ho : o.op = .call { callee := .builtin .append, args := #[sl, x], argTypes := #[t, u] })
    (base : Nat) (e : TypeId) (i : TypeInfo) (ht : P.underlying t = some (.slice e)) (hu : P.underlying u = some .string) (hi : P.info? e = some i) (hz : i.zero = some (.int .u8 0))
    (hsize : i.size = 1) (hby : i.bytes = 1)
    (v : Value) (n : Nat) (xs : List Value) (hs : a.eval sl = v) (hown : w.ownsRow base e 1 v n xs) (s : ByteArray) (hx : a.eval x = .string s)
    (h63 : n + s.size ≤ maxLen) (hbytes : n + s.size ≤ 140737488355328) (hbase : base ≤ w.heap.size)
    (h : ∀ v' w', w'.ownsRow base e 1 v' (n + s.size) (xs ++ Lib.strCells s) → w.grownBy w' v.ownBlock → (v'.ownBlock = v.ownBlock ∨ v'.ownBlock = some w.heap.size) → K (a.put o.dst v') w') : o.wp P a w K Q := by
  obtain ⟨v', w', hr, h2, h3, h4⟩ := run_append_str_at (P := P) w base t u o.type e i ht hu hi hz hsize hby v n xs hown s h63 hbytes hbase
  unfold Oper.wp execOp
  simp only [ho, resolve, invoke, builtin, Sem.run_bind, Sem.run_pure, Result.andThen_ok, List.map_toArray, List.map_cons, List.map_nil, hs, hx, hr]
  exact h v' w' h2 h3 h4

theorem wpList_append_str {ops : Array Oper} {rest : List Oper} {o : Oper} {a : Act} {Q : Exit → Act → World → Prop} (hgd : o.guard = none) (sl x : Operand) (t u : TypeId)
    (ho : o.op = .call { callee := .builtin .append, args := #[sl, x], argTypes := #[t, u] })
    (base : Nat) (e : TypeId) (i : TypeInfo) (ht : P.underlying t = some (.slice e)) (hu : P.underlying u = some .string) (hi : P.info? e = some i) (hz : i.zero = some (.int .u8 0))
    (hsize : i.size = 1) (hby : i.bytes = 1)
    (v : Value) (n : Nat) (xs : List Value) (hs : a.eval sl = v) (hown : w.ownsRow base e 1 v n xs) (s : ByteArray) (hx : a.eval x = .string s)
    (h63 : n + s.size ≤ maxLen) (hbytes : n + s.size ≤ 140737488355328) (hbase : base ≤ w.heap.size)
    (h : ∀ v' w', w'.ownsRow base e 1 v' (n + s.size) (xs ++ Lib.strCells s) → w.grownBy w' v.ownBlock → (v'.ownBlock = v.ownBlock ∨ v'.ownBlock = some w.heap.size) → wpList P ops Q rest (a.put o.dst v') w') : wpList P ops Q (o :: rest) a w :=
  wpList_plain hgd fun _ hK => wp_append_str w sl x t u ho base e i ht hu hi hz hsize hby v n xs hs hown s hx h63 hbytes hbase fun v' w' h2 h3 h4 => hK _ _ (h v' w' h2 h3 h4)

theorem wpList_build_at {ops : Array Oper} {rest : List Oper} {o : Oper} {a : Act} {Q : Exit → Act → World → Prop} (hg : o.guard = none) (t : TypeId) (parts : Array (Nat × Operand)) (ho : o.op = .build t parts)
    (cells : Array Value) (hf : P.built t (parts.map fun (i, x) => (i, a.eval x)).toList = some cells)
    (h : wpList P ops Q rest (a.put o.dst (.agg cells)) w) : wpList P ops Q (o :: rest) a w :=
  wpList_build hg t parts ho (by rw [hf]; rfl) (by rw [hf]; exact h)

/-- The same as a step of a region that draws its order. -/
theorem step_append_str {ops : Array Oper} {o : Oper} {a : Act} {K : Act → World → Prop} {Q : Exit → Act → World → Prop} {E : Prop} (hgd : o.guard = none) (sl x : Operand) (t u : TypeId)
    (ho : o.op = .call { callee := .builtin .append, args := #[sl, x], argTypes := #[t, u] })
    (base : Nat) (e : TypeId) (i : TypeInfo) (ht : P.underlying t = some (.slice e)) (hu : P.underlying u = some .string) (hi : P.info? e = some i) (hz : i.zero = some (.int .u8 0))
    (hsize : i.size = 1) (hby : i.bytes = 1)
    (v : Value) (n : Nat) (xs : List Value) (hs : a.eval sl = v) (hown : w.ownsRow base e 1 v n xs) (s : ByteArray) (hx : a.eval x = .string s)
    (h63 : n + s.size ≤ maxLen) (hbytes : n + s.size ≤ 140737488355328) (hbase : base ≤ w.heap.size)
    (h : ∀ v' w', w'.ownsRow base e 1 v' (n + s.size) (xs ++ Lib.strCells s) → w.grownBy w' v.ownBlock → (v'.ownBlock = v.ownBlock ∨ v'.ownBlock = some w.heap.size) → K (a.put o.dst v') w') :
    if Region.wanted o (yielded ops a.tmps) = true then Oper.wp P o a w K Q else E := by
  have hw : Region.wanted o (yielded ops a.tmps) = true := by simp [Region.wanted, hgd]
  rw [if_pos hw]
  exact wp_append_str w sl x t u ho base e i ht hu hi hz hsize hby v n xs hs hown s hx h63 hbytes hbase h
end

/-- The eight bytes of an int, the highest first. -/
def encInt (n : Int) : List UInt8 := [7, 6, 5, 4, 3, 2, 1, 0].map fun i : Nat => byteOf (n / 2 ^ (8 * i))
theorem encInt_length (n : Int) : (encInt n).length = 8 := by simp [encInt]
theorem encInt_take (n : Int) (j k : Nat) (h : j + (k + 1) = 8) : (encInt n).take (j + 1) = (encInt n).take j ++ [byteOf (n / 2 ^ (8 * k))] := by
  have hj : j < 8 := by omega
  obtain rfl : k = 7 - j := by omega
  unfold encInt
  match j, hj with
  | 0, _ => simp
  | 1, _ => simp
  | 2, _ => simp
  | 3, _ => simp
  | 4, _ => simp
  | 5, _ => simp
  | 6, _ => simp
  | 7, _ => simp
def encInts (ns : List Int) : List UInt8 := ns.flatMap encInt
theorem encInts_length (ns : List Int) : (encInts ns).length = 8 * ns.length := by
  induction ns with
  | nil => rfl
  | cons n r ih => rw [encInts, List.flatMap_cons, List.length_append, encInt_length]; rw [encInts] at ih; rw [ih, List.length_cons]; omega
theorem encInts_take (ns : List Int) (k : Nat) (n : Int) (h : ns[k]? = some n) : encInts (ns.take (k + 1)) = encInts (ns.take k) ++ encInt n := by
  obtain ⟨hk, h⟩ := List.getElem?_eq_some_iff.1 h
  rw [List.take_succ_eq_append_getElem hk, h, encInts, encInts, List.flatMap_append]
  simp
theorem encInts_take_length (ns : List Int) (k : Nat) : (encInts (ns.take k)).length ≤ 8 * k := by
  rw [encInts_length]; have := List.length_take_le k ns; omega

/-- A text: how many bytes, and they. -/
def encText (s : ByteArray) : List UInt8 := byteOf s.size :: s.data.toList
def encTexts (ss : List ByteArray) : List UInt8 := ss.flatMap encText
theorem encText_length (s : ByteArray) : (encText s).length = s.size + 1 := by simp [encText]
theorem encTexts_take (ss : List ByteArray) (k : Nat) (s : ByteArray) (h : ss[k]? = some s) : encTexts (ss.take (k + 1)) = encTexts (ss.take k) ++ encText s := by
  obtain ⟨hk, h⟩ := List.getElem?_eq_some_iff.1 h
  rw [List.take_succ_eq_append_getElem hk, h, encTexts, encTexts, List.flatMap_append]
  simp
theorem encTexts_take_le (ss : List ByteArray) (k : Nat) : (encTexts (ss.take k)).length ≤ (encTexts ss).length := by
  have h : encTexts ss = encTexts (ss.take k) ++ encTexts (ss.drop k) := by
    rw [encTexts, encTexts, encTexts, ← List.flatMap_append, List.take_append_drop]
  rw [h, List.length_append]; omega

/-- One new byte, laid into a block of its own. -/
theorem news_one (w : World) (x : Int) (b : UInt8) (h : x = (b.toNat : Int)) (E : TypeId) : ∀ j u, (bcells [b])[j]? = some u → (w.alloc (.cells #[.int .u8 x] E)).cell? ((⟨w.heap.size, 0, none⟩ : Addr).add j) = some u := by
  intro j u hj
  match j, hj with
  | 0, hj =>
    simp [bcells] at hj
    subst hj
    subst h
    rw [show (⟨w.heap.size, 0, none⟩ : Addr).add 0 = ⟨w.heap.size, 0, none⟩ from rfl, World.cell?_alloc_at _ _ _ _ rfl]
    rfl
  | _ + 1, hj => simp [bcells] at hj
theorem wrap_byteOf (n : Int) : IntKind.u8.wrap n = ((byteOf n).toNat : Int) := by
  have := byteOf_wrap n
  simpa using this
theorem below_alloc (w : World) (o : Obj) : Below w.heap.size w (w.alloc o) := (Below.refl _ _).alloc (Nat.le_refl _) o
theorem own_of_lies {v : Value} {g n cap B S : Nat} (h : v.ownBlock = some g ∨ g = S) (hS : B ≤ S) : v.ownBlock = (Value.slice (some ⟨g, 0, none⟩) n cap).ownBlock ∨ ∃ k, (Value.slice (some ⟨g, 0, none⟩) n cap).ownBlock = some k ∧ B ≤ k := by
  rcases h with h | h
  · exact .inl h
  · exact .inr ⟨g, rfl, by omega⟩

end Go.Proofs.Ytjbomdhlfjcgmaa
