/-
  How an argument that is a slice of calls of a pager reads. No function in sight.
-/
import Derived.OpenShut
import Derived.Test.YtjbomdhlfjcgmaaOpenB
import Derived.Deep.Slices
import Derived.Deep.MidRow
import Derived.Below
namespace Go.Proofs.Ytjbomdhlfjcgmaa
set_option linter.unusedSimpArgs false
set_option linter.unusedVariables false
open Go.ChangeShapes Go.WideShapes Go.RowKit Go.Deep

/-- The block of a slice that is not empty. -/
def liveB : Value → Option Nat
  | .slice (some a) (_ + 1) _ => some a.block
  | _ => none
theorem live_own {v : Value} {k : Nat} (h : liveB v = some k) : v.ownBlock = some k := by
  unfold liveB at h
  split at h
  · exact h
  · cases h
/-- The value v reads as rows of n cells each (an empty slice may point anywhere). -/
def Items (w : World) (v : Value) (n : Nat) (xs : List (List Value)) : Prop :=
  (xs = [] ∧ ∃ a c, v = .slice a 0 c) ∨
  ∃ b off cap, v = .slice (some ⟨b, off, none⟩) xs.length cap ∧ xs.length ≤ cap ∧ b < w.heap.size ∧ ∀ i x, xs[i]? = some x → x.length = n ∧ w.rangeAt b (off + i * n) x

theorem Items.len {w : World} {v : Value} {n : Nat} {xs : List (List Value)} (h : Items w v n xs) : ∃ a c, v = .slice a xs.length c := by
  rcases h with ⟨rfl, a, c, rfl⟩ | ⟨b, off, cap, rfl, _⟩
  · exact ⟨a, c, rfl⟩
  · exact ⟨_, _, rfl⟩
theorem rangeAt_block {w w' : World} {b o : Nat} {x : List Value} (h : w.rangeAt b o x) (hb : w'.heap[b]? = w.heap[b]?) : w'.rangeAt b o x :=
  fun j u hj => (World.cell?_of_block (a := ⟨b, o + j, none⟩) hb).trans (h j u hj)
theorem Items.of_block {w w' : World} {v : Value} {n : Nat} {xs : List (List Value)} (h : Items w v n xs) (hs : w.heap.size ≤ w'.heap.size) (hb : ∀ k, liveB v = some k → k < w.heap.size → w'.heap[k]? = w.heap[k]?) : Items w' v n xs := by
  rcases h with h | ⟨b, off, cap, rfl, hc, hlt, hx⟩
  · exact .inl h
  · exact .inr ⟨b, off, cap, rfl, hc, by omega, fun i x hi => ⟨(hx i x hi).1, rangeAt_block (hx i x hi).2 (hb b (by have := (List.getElem?_eq_some_iff.1 hi).1; obtain ⟨m, hm⟩ : ∃ m, xs.length = m + 1 := ⟨xs.length - 1, by omega⟩; rw [hm]; rfl) hlt)⟩⟩
theorem Items.below {w w' : World} {v : Value} {n : Nat} {xs : List (List Value)} (h : Items w v n xs) (hB : Below w.heap.size w w') : Items w' v n xs :=
  h.of_block hB.size (fun k _ hk => hB.block k hk)
def ReadsZ (w : World) (v : Value) (zs : List UInt8) : Prop := Reads w v zs ∨ (zs = [] ∧ ∃ a c, v = .slice a 0 c)
theorem ReadsZ.len {w : World} {v : Value} {zs : List UInt8} (h : ReadsZ w v zs) : ∃ a c, v = .slice a zs.length c := by
  rcases h with h | ⟨rfl, a, c, rfl⟩
  · exact h.len
  · exact ⟨a, c, rfl⟩
theorem ReadsZ.below {w w' : World} {v : Value} {zs : List UInt8} (h : ReadsZ w v zs) (hB : Below w.heap.size w w') : ReadsZ w' v zs := h.imp (fun h => h.below hB) id
theorem ReadsZ.pos {w : World} {v : Value} {zs : List UInt8} (h : ReadsZ w v zs) (h0 : 0 < zs.length) : Reads w v zs := by
  rcases h with h | ⟨rfl, _⟩
  · exact h
  · simp at h0
theorem weights_all6 {H : Type} {P : Program} {e : TypeId} {n : Nat} : ∀ {ds : List (DataW H)} {x : DataW H}, x ∈ ds → n ∈ x.weights P e → n ∈ DataW.weightsAll P e ds
  | d :: r, x, hx, hn => by
    rw [DataW.weightsAll]
    rcases List.mem_cons.1 hx with rfl | hx
    · exact List.mem_append_left _ hn
    · exact List.mem_append_right _ (weights_all6 hx hn)
theorem weights_elem6 {H : Type} {P : Program} {t e : TypeId} (ht : P.underlying t = some (.slice e)) {es sp : List (DataW H)} (h : ((DataW.slice es sp).weights P t).all (· ≤ reachBytes) = true) {x : DataW H} (hx : x ∈ es) : (x.weights P e).all (· ≤ reachBytes) = true :=
  List.all_eq_true.2 fun y hy => List.all_eq_true.1 h y (by
    simp only [DataW.weights, ht]
    exact List.mem_cons_of_mem _ (List.mem_append_left _ (weights_all6 hx hy)))
set_option maxRecDepth 100000 in
theorem open_items {α : Type} [Inhabited α] {H : Type} {P : Program} {enc : TypeId × Value → H} {w : World} {base : Nat} {spare : Nat → Bool} {held : Bool} {fuel : Nat} {v : Value} {x : DataW H × List MemPlace} (T E : TypeId) (n by' : Nat) (hT : P.underlying T = some (.slice E)) (hn : P.cellsOf E = n) (hn0 : 0 < n) (hby : P.bytesOf E = by') (hb0 : 0 < by') (cl : α → List Value) (R : α → Prop) (hcl : ∀ q, (cl q).length = n)
    (hE : ∀ (fuel : Nat) (cs : List Value) (x : DataW H × List MemPlace), DataW.trod enc P w base spare held fuel E cs = some x → (x.1.weights P E).all (· ≤ reachBytes) = true → cs.length = n → ∃ q, cs = cl q ∧ R q)
    (hf : DataW.trod enc P w base spare held fuel T [v] = some x) (hw : (x.1.weights P T).all (· ≤ reachBytes) = true) :
    ∃ qs : List α, Items w v n (qs.map cl) ∧ (∀ q ∈ qs, R q) ∧ qs.length ≤ 140737488351232 := by
  rcases open_slice hT hf with ⟨hcs, _⟩ | ⟨a, len, cap, m, n', D, Pl, hcs, hb, hl, hm, hmm, hx, hel⟩
  · simp at hcs
    subst hcs
    exact ⟨[], .inl ⟨rfl, _, _, rfl⟩, by simp, by simp⟩
  · simp only [List.cons.injEq, and_true] at hcs
    subst hcs
    have hd : x.1 = .slice ((List.range len).map D) ((List.range (m - len)).map fun j => D (len + j)) := congrArg Prod.fst hx
    have hlen : len ≤ 140737488351232 := by
      rw [hd] at hw
      simp only [DataW.weights, hT, List.all_cons, Bool.and_eq_true, decide_eq_true_eq, hby] at hw
      have := hw.1
      simp [reachBytes] at this
      have h2 : ∀ k : Nat, k * 1 ≤ k * by' := fun k => Nat.mul_le_mul_left _ hb0
      have h3 := h2 (len + (m - len))
      have h4 := h2 len
      omega
    have hle : len ≤ m := by rw [hmm]; split <;> omega
    by_cases h0 : len = 0
    · subst h0
      exact ⟨[], .inl ⟨rfl, _, _, rfl⟩, by simp, by simp⟩
    have each : ∀ i, i < len → ∃ q : α, (∀ j u, (cl q)[j]? = some u → w.cell? (a.add (i * n + j)) = some u) ∧ R q := fun i hi => by
      obtain ⟨cs', h1, h2⟩ := hel i (by omega)
      obtain ⟨_, hl1, hc1⟩ := World.cells?_some h1
      rw [hn] at hl1 hc1 h1
      obtain ⟨q, rfl, hok⟩ := hE _ _ _ h2 (weights_elem6 (x := D i) hT (by rw [hd] at hw; exact hw) (List.mem_map.2 ⟨i, by simpa using hi, rfl⟩)) hl1
      refine ⟨q, fun j u hj => ?_, hok⟩
      have hjn : j < n := by have := (List.getElem?_eq_some_iff.1 hj).1; rw [hcl] at this; exact this
      rw [← add_add, hc1 j hjn, hj]
    obtain ⟨f, hf2⟩ := choose_lt each
    have hc0 : w.cell? a = some ((cl (f 0))[0]'(by rw [hcl]; exact hn0)) := by
      have := (hf2 0 (by omega)).1 0 _ (List.getElem?_eq_getElem (by rw [hcl]; exact hn0))
      rwa [show a.add (0 * n + 0) = a by rw [Nat.zero_mul]; rfl] at this
    have hspot := World.cell?_spot hc0
    have hblt := World.block_lt_of_cell? w a hc0
    obtain ⟨b, off, spot⟩ := a
    simp only at hspot
    subst hspot
    have hat : ∀ (i : Nat) (q : α), ((List.range len).map f)[i]? = some q → i < len ∧ f i = q := fun i q hi => by
      have hi' : i < len := by
        rcases Nat.lt_or_ge i len with h | h
        · exact h
        · rw [List.getElem?_eq_none (by simpa using h)] at hi; cases hi
      exact ⟨hi', by simpa [List.getElem?_range hi'] using hi⟩
    refine ⟨(List.range len).map f, .inr ⟨b, off, cap, by simp, by simpa using hl, hblt, fun i y hi => ?_⟩, fun q hq => ?_, by simpa using hlen⟩
    · rw [List.getElem?_map, Option.map_eq_some_iff] at hi
      obtain ⟨q, hq, rfl⟩ := hi
      obtain ⟨hi', rfl⟩ := hat i q hq
      refine ⟨hcl _, fun j u hj => ?_⟩
      have := (hf2 i hi').1 j u hj
      rw [Addr.add_lit] at this
      rwa [show off + i * n + j = off + (i * n + j) by omega]
    · obtain ⟨i, hi⟩ := List.getElem?_of_mem hq
      obtain ⟨hi', rfl⟩ := hat i q hi
      exact (hf2 i hi').2
set_option maxRecDepth 100000 in
theorem open_bytes_cell {H : Type} {enc : TypeId × Value → H} {w : World} {base : Nat} {spare : Nat → Bool} {held : Bool} {fuel : Nat} {v : Value} {x : DataW H × List MemPlace}
    (hf : DataW.trod enc Try.prog w base spare held fuel 22 [v] = some x) (hw : (x.1.weights Try.prog 22).all (· ≤ reachBytes) = true) : ∃ zs : List UInt8, ReadsZ w v zs ∧ zs.length ≤ 140737488351232 := by
  rcases open_ints Try.underlying22 Try.underlying5 (by kernel_rfl) hf with ⟨hcs, _⟩ | ⟨a, len, cap, zs, hcs, hb, hl, hm, hz, hx, hcell, hwf⟩
  · cases hcs
    exact ⟨[], .inl (Reads.nil _), by simp⟩
  · cases hcs
    by_cases h0 : len = 0
    · subst h0
      exact ⟨[], .inr ⟨rfl, _, _, rfl⟩, by simp⟩
    have hlz : len ≤ zs.length := by rw [hz]; split <;> omega
    have hlen : len ≤ 140737488351232 := by
      have hd : x.1 = .slice (lits .u8 (zs.take len)) (lits .u8 (zs.drop len)) := congrArg Prod.fst hx
      rw [hd] at hw
      have hby : Try.prog.bytesOf 5 = 1 := by kernel_rfl
      simp only [DataW.weights, Try.underlying22, List.all_cons, Bool.and_eq_true, decide_eq_true_eq, hby, Nat.mul_one] at hw
      have := hw.1
      simp [lits, reachBytes] at this
      omega
    have hc0 := hcell 0 (by omega)
    rw [show a.add 0 = a from rfl] at hc0
    have hspot := World.cell?_spot hc0
    have hblt := World.block_lt_of_cell? w a hc0
    obtain ⟨b, off, spot⟩ := a
    simp only at hspot
    subst hspot
    have hnum : ∀ i, i < len → ∃ x : UInt8, zs.getD i 0 = (x.toNat : Int) := fun i hi => by
      have : zs.getD i 0 = zs[i] := by simp [List.getD, show i < zs.length by omega]
      have hw' := hwf zs[i] (List.getElem_mem _)
      rw [← this] at hw'
      have hb := bounds_u8 hw'
      exact ⟨UInt8.ofNat (zs.getD i 0).toNat, by rw [UInt8.toNat_ofNat']; omega⟩
    obtain ⟨f, hf2⟩ := choose_lt hnum
    refine ⟨(List.range len).map f, .inl (.inr ⟨b, off, cap, by simp, by simpa using hl, hblt, fun i x hi => ?_⟩), by simp; omega⟩
    have hi' : i < len := by
      rcases Nat.lt_or_ge i len with h | h
      · exact h
      · rw [List.getElem?_eq_none (by simpa using h)] at hi; cases hi
    have hx' : f i = x := by simpa [List.getElem?_range hi'] using hi
    have := hcell i (by omega)
    rwa [Addr.add_lit, hf2 i hi', hx'] at this
/-- A call of a pager. -/
structure CallD where
  kd : Int
  n : Int
  v : Value
  bs : List UInt8
instance : Inhabited CallD := ⟨⟨0, 0, .slice none 0 0, []⟩⟩
def CallD.cells (q : CallD) : List Value := [.int .i64 q.kd, .int .i64 q.n, q.v]
structure CallOk (w : World) (q : CallD) : Prop where
  kd : (Lit.int .i64 q.kd).wf = true
  n : (Lit.int .i64 q.n).wf = true
  bs : ReadsZ w q.v q.bs
  fit : q.bs.length ≤ 140737488351232
theorem CallOk.below {w w' : World} {q : CallD} (h : CallOk w q) (hB : Below w.heap.size w w') : CallOk w' q := ⟨h.kd, h.n, h.bs.below hB, h.fit⟩
section
variable {H : Type} {enc : TypeId × Value → H} {w : World} {base : Nat} {spare : Nat → Bool} {held : Bool}
set_option maxRecDepth 100000 in
set_option maxHeartbeats 800000 in
theorem open_call {fuel : Nat} {cs : List Value} {x : DataW H × List MemPlace} (hf : DataW.trod enc Try.prog w base spare held fuel 49 cs = some x) (hw : (x.1.weights Try.prog 49).all (· ≤ reachBytes) = true) (hsz : cs.length = 3) :
    ∃ q : CallD, cs = q.cells ∧ CallOk w q := by
  obtain ⟨x0, h0, w0⟩ := leaf_int (m := 6) hf hw 0 3 .i64 (by kernel_rfl) Try.underlying3
  obtain ⟨x1, h1, w1⟩ := leaf_int (m := 6) hf hw 1 3 .i64 (by kernel_rfl) Try.underlying3
  obtain ⟨x2, f2, y2, h2, t2, w2, _⟩ := trod_leaf 6 fuel _ _ _ 2 22 hf hw (by kernel_rfl)
  obtain ⟨zs, hz, hzl⟩ := open_bytes_cell t2 w2
  refine ⟨⟨x0, x1, x2, zs⟩, ?_, ⟨w0, w1, hz, hzl⟩⟩
  apply List.ext_getElem?
  intro i
  match i with
  | 0 => rw [h0]; rfl
  | 1 => rw [h1]; rfl
  | 2 => rw [h2]; rfl
  | i + 3 => rw [List.getElem?_eq_none (by omega)]; rfl
/-- The value reads as calls. -/
def RdCalls (w : World) (v : Value) (qs : List CallD) : Prop := Items w v 3 (qs.map CallD.cells) ∧ (∀ q ∈ qs, CallOk w q) ∧ qs.length ≤ 140737488351232
set_option maxRecDepth 100000 in
theorem open_calls {r : Reach} {b0 : Nat} {v : Value} {d : DataW H} {p : List MemPlace}
    (hv : Value.okWide Try.prog w r b0 46 v) (h : DataW.Trod enc Try.prog w base spare held 46 v d p) (hw : (d.weights Try.prog 46).all (· ≤ reachBytes) = true) :
    ∃ qs : List CallD, RdCalls w v qs ∧ qs.length ≤ 140737488351232 := by
  obtain ⟨a0, len0, cap0, rfl⟩ := okWide_slice Try.underlying46 hv
  obtain ⟨fuel, hf⟩ := h
  obtain ⟨qs, h1, h2, h3⟩ := open_items (α := CallD) 46 49 3 40 Try.underlying46 (by kernel_rfl) (by decide) (by kernel_rfl) (by decide) CallD.cells (CallOk w) (fun _ => rfl) (fun _ _ _ => open_call) hf hw
  exact ⟨qs, ⟨h1, h2, h3⟩, h3⟩
end
end Go.Proofs.Ytjbomdhlfjcgmaa
