/-
  How an argument that is an account reads. No function in sight.
-/
import Derived.OpenShut
import Derived.Test.YtehkgcmdndehaaaDoorGPRA13
import Derived.Test.YtehkgcmdndehaaaDoorGPRA14
import Derived.Test.YtehkgcmdndehaaaDoorGPRA42
import Derived.Test.YtehkgcmdndehaaaDoorGPRA47
import Derived.Deep.Slices
namespace Go.Proofs.YtehkgcmdndehaaaDoor
set_option linter.unusedSimpArgs false
set_option linter.unusedVariables false
open Go.ChangeShapes Go.WideShapes Go.RowKit Go.Deep

theorem weights_all6 {H : Type} {P : Program} {e : TypeId} {n : Nat} : ∀ {ds : List (DataW H)} {x : DataW H}, x ∈ ds → n ∈ x.weights P e → n ∈ DataW.weightsAll P e ds
  | d :: r, x, hx, hn => by
    rw [DataW.weightsAll]
    rcases List.mem_cons.1 hx with rfl | hx
    · exact List.mem_append_left _ hn
    · exact List.mem_append_right _ (weights_all6 hx hn)
theorem weights_elem6 {H : Type} {P : Program} {t e : TypeId} (ht : P.underlying t = some (.slice e)) {es sp : List (DataW H)} (h : ((DataW.slice es sp).weights P t).all (· ≤ reachBytes) = true) {x : DataW H} (hx : x ∈ es) : (x.weights P e).all (· ≤ reachBytes) = true :=
  List.all_eq_true.2 fun y hy => List.all_eq_true.1 h y (by
    simp only [DataW.weights, ht]
    exact List.mem_cons_of_mem _ (List.mem_append_left _ (weights_all6 hx hy)))
set_option maxRecDepth 100000 in
theorem open_items {α : Type} [Inhabited α] {H : Type} {P : Program} {enc : TypeId × Value → H} {w : World} {base : Nat} {spare : Nat → Bool} {held : Bool} {fuel : Nat} {v : Value} {x : DataW H × List MemPlace} (T E : TypeId) (n by' : Nat) (hT : P.underlying T = some (.slice E)) (hn : P.cellsOf E = n) (hn0 : 0 < n) (hby : P.bytesOf E = by') (hb0 : 0 < by') (cl : α → List Value) (R : α → Prop) (hcl : ∀ q, (cl q).length = n)
    (hE : ∀ (fuel : Nat) (cs : List Value) (x : DataW H × List MemPlace), DataW.trod enc P w base spare held fuel E cs = some x → (x.1.weights P E).all (· ≤ reachBytes) = true → cs.length = n → ∃ q, cs = cl q ∧ R q)
    (hf : DataW.trod enc P w base spare held fuel T [v] = some x) (hw : (x.1.weights P T).all (· ≤ reachBytes) = true) :
    ∃ qs : List α, Items w v n (qs.map cl) ∧ (∀ q ∈ qs, R q) ∧ qs.length ≤ 140737488351232 := by
  rcases open_slice hT hf with ⟨hcs, _⟩ | ⟨a, len, cap, m, n', D, Pl, hcs, hb, hl, hm, hmm, hx, hel⟩
  · simp at hcs
    subst hcs
    exact ⟨[], .inl ⟨rfl, _, _, rfl⟩, by simp, by simp⟩
  · simp only [List.cons.injEq, and_true] at hcs
    subst hcs
    have hd : x.1 = .slice ((List.range len).map D) ((List.range (m - len)).map fun j => D (len + j)) := congrArg Prod.fst hx
    have hlen : len ≤ 140737488351232 := by
      rw [hd] at hw
      simp only [DataW.weights, hT, List.all_cons, Bool.and_eq_true, decide_eq_true_eq, hby] at hw
      have := hw.1
      simp [reachBytes] at this
      have h2 : ∀ k : Nat, k * 1 ≤ k * by' := fun k => Nat.mul_le_mul_left _ hb0
      have h3 := h2 (len + (m - len))
      have h4 := h2 len
      omega
    have hle : len ≤ m := by rw [hmm]; split <;> omega
    by_cases h0 : len = 0
    · subst h0
      exact ⟨[], .inl ⟨rfl, _, _, rfl⟩, by simp, by simp⟩
    have each : ∀ i, i < len → ∃ q : α, (∀ j u, (cl q)[j]? = some u → w.cell? (a.add (i * n + j)) = some u) ∧ R q := fun i hi => by
      obtain ⟨cs', h1, h2⟩ := hel i (by omega)
      obtain ⟨_, hl1, hc1⟩ := World.cells?_some h1
      rw [hn] at hl1 hc1 h1
      obtain ⟨q, rfl, hok⟩ := hE _ _ _ h2 (weights_elem6 (x := D i) hT (by rw [hd] at hw; exact hw) (List.mem_map.2 ⟨i, by simpa using hi, rfl⟩)) hl1
      refine ⟨q, fun j u hj => ?_, hok⟩
      have hjn : j < n := by have := (List.getElem?_eq_some_iff.1 hj).1; rw [hcl] at this; exact this
      rw [← add_add, hc1 j hjn, hj]
    obtain ⟨f, hf2⟩ := choose_lt each
    have hc0 : w.cell? a = some ((cl (f 0))[0]'(by rw [hcl]; exact hn0)) := by
      have := (hf2 0 (by omega)).1 0 _ (List.getElem?_eq_getElem (by rw [hcl]; exact hn0))
      rwa [show a.add (0 * n + 0) = a by rw [Nat.zero_mul]; rfl] at this
    have hspot := World.cell?_spot hc0
    have hblt := World.block_lt_of_cell? w a hc0
    obtain ⟨b, off, spot⟩ := a
    simp only at hspot
    subst hspot
    have hat : ∀ (i : Nat) (q : α), ((List.range len).map f)[i]? = some q → i < len ∧ f i = q := fun i q hi => by
      have hi' : i < len := by
        rcases Nat.lt_or_ge i len with h | h
        · exact h
        · rw [List.getElem?_eq_none (by simpa using h)] at hi; cases hi
      exact ⟨hi', by simpa [List.getElem?_range hi'] using hi⟩
    refine ⟨(List.range len).map f, .inr ⟨b, off, cap, by simp, by simpa using hl, hblt, fun i y hi => ?_⟩, fun q hq => ?_, by simpa using hlen⟩
    · rw [List.getElem?_map, Option.map_eq_some_iff] at hi
      obtain ⟨q, hq, rfl⟩ := hi
      obtain ⟨hi', rfl⟩ := hat i q hq
      refine ⟨hcl _, fun j u hj => ?_⟩
      have := (hf2 i hi').1 j u hj
      rw [Addr.add_lit] at this
      rwa [show off + i * n + j = off + (i * n + j) by omega]
    · obtain ⟨i, hi⟩ := List.getElem?_of_mem hq
      obtain ⟨hi', rfl⟩ := hat i q hi
      exact (hf2 i hi').2
instance : Inhabited LotD := ⟨⟨0, 0, 0, 0, 0, 0, 0, 0, 0⟩⟩
instance : Inhabited PartD := ⟨⟨0, 0⟩⟩
instance : Inhabited HoldD := ⟨⟨0, [], 0, 0⟩⟩
instance : Inhabited EntryD := ⟨⟨0, ⟨0, 0, 0, 0, stmtNone⟩⟩⟩
instance : Inhabited Value := ⟨.slice none 0 0⟩
section
variable {H : Type} {enc : TypeId × Value → H} {w : World} {base : Nat} {spare : Nat → Bool} {held : Bool}
set_option maxRecDepth 100000 in
set_option maxHeartbeats 800000 in
theorem open_part {fuel : Nat} {cs : List Value} {x : DataW H × List MemPlace} (hf : DataW.trod enc Tryd.prog w base spare held fuel 86 cs = some x) (hw : (x.1.weights Tryd.prog 86).all (· ≤ reachBytes) = true) (hsz : cs.length = 2) :
    ∃ q : PartD, cs = q.cells.toList ∧ PartFit q := by
  obtain ⟨x0, h0, w0⟩ := leaf_int (m := 6) hf hw 0 3 .i64 (by kernel_rfl) Tryd.underlying3
  obtain ⟨x1, h1, w1⟩ := leaf_int (m := 6) hf hw 1 3 .i64 (by kernel_rfl) Tryd.underlying3
  refine ⟨⟨x0, x1⟩, ?_, ⟨fun n hn => ?_⟩⟩
  rotate_left
  · simp only [List.mem_cons, List.not_mem_nil, or_false] at hn
    rcases hn with rfl | rfl <;> (apply i64_of; assumption)
  apply List.ext_getElem?
  intro i
  match i with
  | 0 => rw [h0]; rfl
  | 1 => rw [h1]; rfl
  | i + 2 => rw [List.getElem?_eq_none (by omega)]; rfl
set_option maxRecDepth 100000 in
set_option maxHeartbeats 800000 in
theorem open_lot {fuel : Nat} {cs : List Value} {x : DataW H × List MemPlace} (hf : DataW.trod enc Tryd.prog w base spare held fuel 72 cs = some x) (hw : (x.1.weights Tryd.prog 72).all (· ≤ reachBytes) = true) (hsz : cs.length = 9) :
    ∃ q : LotD, cs = q.cells.toList ∧ LotFit q := by
  obtain ⟨x0, h0, w0⟩ := leaf_int (m := 6) hf hw 0 3 .i64 (by kernel_rfl) Tryd.underlying3
  obtain ⟨x1, h1, w1⟩ := leaf_int (m := 6) hf hw 1 3 .i64 (by kernel_rfl) Tryd.underlying3
  obtain ⟨x2, h2, w2⟩ := leaf_int (m := 6) hf hw 2 3 .i64 (by kernel_rfl) Tryd.underlying3
  obtain ⟨x3, h3, w3⟩ := leaf_int (m := 6) hf hw 3 3 .i64 (by kernel_rfl) Tryd.underlying3
  obtain ⟨x4, h4, w4⟩ := leaf_int (m := 6) hf hw 4 3 .i64 (by kernel_rfl) Tryd.underlying3
  obtain ⟨x5, h5, w5⟩ := leaf_int (m := 6) hf hw 5 3 .i64 (by kernel_rfl) Tryd.underlying3
  obtain ⟨x6, h6, w6⟩ := leaf_int (m := 6) hf hw 6 3 .i64 (by kernel_rfl) Tryd.underlying3
  obtain ⟨x7, h7, w7⟩ := leaf_int (m := 6) hf hw 7 3 .i64 (by kernel_rfl) Tryd.underlying3
  obtain ⟨x8, h8, w8⟩ := leaf_int (m := 6) hf hw 8 3 .i64 (by kernel_rfl) Tryd.underlying3
  refine ⟨⟨x0, x1, x2, x3, x4, x5, x6, x7, x8⟩, ?_, ⟨fun n hn => ?_⟩⟩
  rotate_left
  · simp only [LotD.nums, List.mem_cons, List.not_mem_nil, or_false] at hn
    rcases hn with rfl | rfl | rfl | rfl | rfl | rfl | rfl | rfl | rfl <;> (apply i64_of; assumption)
  apply List.ext_getElem?
  intro i
  match i with
  | 0 => rw [h0]; rfl
  | 1 => rw [h1]; rfl
  | 2 => rw [h2]; rfl
  | 3 => rw [h3]; rfl
  | 4 => rw [h4]; rfl
  | 5 => rw [h5]; rfl
  | 6 => rw [h6]; rfl
  | 7 => rw [h7]; rfl
  | 8 => rw [h8]; rfl
  | i + 9 => rw [List.getElem?_eq_none (by omega)]; rfl
/-- An entry whose numbers are ints, whose name is one that memory holds. -/
structure EntOk (e : EntryD) : Prop where
  id : I64 e.id
  nums : ∀ n ∈ [e.ans.left, e.ans.over, e.ans.n], I64 n
  stmt : ∀ n ∈ e.ans.stmt.nums, I64 n
set_option maxRecDepth 100000 in
set_option maxHeartbeats 800000 in
theorem open_entry {fuel : Nat} {cs : List Value} {x : DataW H × List MemPlace} (hf : DataW.trod enc Tryd.prog w base spare held fuel 77 cs = some x) (hw : (x.1.weights Tryd.prog 77).all (· ≤ reachBytes) = true) (hsz : cs.length = 14) :
    ∃ q : EntryD, cs = q.cells.toList ∧ EntOk q := by
  obtain ⟨x0, h0, w0⟩ := leaf_int (m := 6) hf hw 0 3 .i64 (by kernel_rfl) Tryd.underlying3
  obtain ⟨x1, h1, w1⟩ := leaf_int (m := 6) hf hw 1 32 .i64 (by kernel_rfl) Tryd.underlying32
  obtain ⟨x2, h2, w2⟩ := leaf_int (m := 6) hf hw 2 3 .i64 (by kernel_rfl) Tryd.underlying3
  obtain ⟨x3, h3, w3⟩ := leaf_int (m := 6) hf hw 3 3 .i64 (by kernel_rfl) Tryd.underlying3
  obtain ⟨x4, h4, w4⟩ := leaf_int (m := 6) hf hw 4 3 .i64 (by kernel_rfl) Tryd.underlying3
  obtain ⟨x5, h5, w5⟩ := leaf_string (m := 6) hf hw 5 9 (by kernel_rfl) Tryd.underlying9
  obtain ⟨x6, h6, w6⟩ := leaf_int (m := 6) hf hw 6 3 .i64 (by kernel_rfl) Tryd.underlying3
  obtain ⟨x7, h7, w7⟩ := leaf_int (m := 6) hf hw 7 3 .i64 (by kernel_rfl) Tryd.underlying3
  obtain ⟨x8, h8, w8⟩ := leaf_int (m := 6) hf hw 8 3 .i64 (by kernel_rfl) Tryd.underlying3
  obtain ⟨x9, h9, w9⟩ := leaf_int (m := 6) hf hw 9 3 .i64 (by kernel_rfl) Tryd.underlying3
  obtain ⟨x10, h10, w10⟩ := leaf_int (m := 6) hf hw 10 3 .i64 (by kernel_rfl) Tryd.underlying3
  obtain ⟨x11, h11, w11⟩ := leaf_int (m := 6) hf hw 11 3 .i64 (by kernel_rfl) Tryd.underlying3
  obtain ⟨x12, h12, w12⟩ := leaf_int (m := 6) hf hw 12 3 .i64 (by kernel_rfl) Tryd.underlying3
  obtain ⟨x13, h13, w13⟩ := leaf_int (m := 6) hf hw 13 3 .i64 (by kernel_rfl) Tryd.underlying3
  refine ⟨⟨x0, x1, x2, x3, x4, x5, x6, x7, x8, x9, x10, x11, x12, x13⟩, ?_, ⟨i64_of w0, fun n hn => ?_, fun n hn => ?_⟩⟩
  rotate_left
  · simp only [List.mem_cons, List.not_mem_nil, or_false] at hn
    rcases hn with rfl | rfl | rfl <;> (apply i64_of; assumption)
  · simp only [StmtD.nums, List.mem_cons, List.not_mem_nil, or_false] at hn
    rcases hn with rfl | rfl | rfl | rfl | rfl | rfl | rfl | rfl <;> (apply i64_of; assumption)
  apply List.ext_getElem?
  intro i
  match i with
  | 0 => rw [h0]; rfl
  | 1 => rw [h1]; rfl
  | 2 => rw [h2]; rfl
  | 3 => rw [h3]; rfl
  | 4 => rw [h4]; rfl
  | 5 => rw [h5]; rfl
  | 6 => rw [h6]; rfl
  | 7 => rw [h7]; rfl
  | 8 => rw [h8]; rfl
  | 9 => rw [h9]; rfl
  | 10 => rw [h10]; rfl
  | 11 => rw [h11]; rfl
  | 12 => rw [h12]; rfl
  | 13 => rw [h13]; rfl
  | i + 14 => rw [List.getElem?_eq_none (by omega)]; rfl
structure HoldOk (w : World) (h : HoldD × Value) : Prop where
  parts : RdParts w h.2 h.1.parts
  nums : I64 h.1.id ∧ I64 h.1.over ∧ I64 h.1.till
  fit : ∀ p ∈ h.1.parts, PartFit p
set_option maxRecDepth 100000 in
set_option maxHeartbeats 800000 in
theorem open_hold {fuel : Nat} {cs : List Value} {x : DataW H × List MemPlace} (hf : DataW.trod enc Tryd.prog w base spare held fuel 75 cs = some x) (hw : (x.1.weights Tryd.prog 75).all (· ≤ reachBytes) = true) (hsz : cs.length = 4) :
    ∃ q : HoldD × Value, cs = (q.1.cells q.2).toList ∧ HoldOk w q := by
  obtain ⟨x0, h0, w0⟩ := leaf_int (m := 6) hf hw 0 3 .i64 (by kernel_rfl) Tryd.underlying3
  obtain ⟨x1, f1, y1, h1, t1, w1, _⟩ := trod_leaf 6 fuel _ _ _ 1 73 hf hw (by kernel_rfl)
  obtain ⟨x2, h2, w2⟩ := leaf_int (m := 6) hf hw 2 3 .i64 (by kernel_rfl) Tryd.underlying3
  obtain ⟨x3, h3, w3⟩ := leaf_int (m := 6) hf hw 3 3 .i64 (by kernel_rfl) Tryd.underlying3
  obtain ⟨ps, hp1, hp2, _⟩ := open_items (α := PartD) 73 86 2 16 Tryd.underlying73 (by kernel_rfl) (by decide) (by kernel_rfl) (by decide) (fun q => q.cells.toList) PartFit (fun _ => rfl) (fun _ _ _ => open_part) t1 w1
  refine ⟨(⟨x0, ps, x2, x3⟩, x1), ?_, ⟨hp1, ⟨i64_of w0, i64_of w2, i64_of w3⟩, hp2⟩⟩
  apply List.ext_getElem?
  intro i
  match i with
  | 0 => rw [h0]; rfl
  | 1 => rw [h1]; rfl
  | 2 => rw [h2]; rfl
  | 3 => rw [h3]; rfl
  | i + 4 => rw [List.getElem?_eq_none (by omega)]; rfl
/-- An account that was opened. -/
structure AccOk (w : World) (a : AccD) (al ah aw : Value) (hs : List (HoldD × Value)) : Prop where
  rd : AccRd w a al ah aw hs
  fit : FitA a
  few : FewA a → AccFit a
set_option maxRecDepth 100000 in
set_option maxHeartbeats 800000 in
theorem open_account {r : Reach} {b0 : Nat} {v : Value} {d : DataW H} {p : List MemPlace}
    (hv : Value.okWide Tryd.prog w r b0 45 v) (h : DataW.Trod enc Tryd.prog w base spare held 45 v d p) (hw : (d.weights Tryd.prog 45).all (· ≤ reachBytes) = true) :
    ∃ (a : AccD) (al ah aw : Value) (hs : List (HoldD × Value)), v = .agg (a.cells al ah aw) ∧ AccOk w a al ah aw hs := by
  obtain ⟨cs, rfl, hsz⟩ := okWide_struct Tryd.underlying45 hv
  obtain ⟨fuel, hf⟩ := h
  have hsz' : cs.size = 20 := hsz.trans (by kernel_rfl)
  obtain ⟨x0, h0, w0⟩ := leaf_string (m := 6) hf hw 0 9 (by kernel_rfl) Tryd.underlying9
  obtain ⟨x1, h1, w1⟩ := leaf_string (m := 6) hf hw 1 9 (by kernel_rfl) Tryd.underlying9
  obtain ⟨x2, h2, w2⟩ := leaf_string (m := 6) hf hw 2 9 (by kernel_rfl) Tryd.underlying9
  obtain ⟨x3, h3, w3⟩ := leaf_int (m := 6) hf hw 3 3 .i64 (by kernel_rfl) Tryd.underlying3
  obtain ⟨x4, h4, w4⟩ := leaf_int (m := 6) hf hw 4 3 .i64 (by kernel_rfl) Tryd.underlying3
  obtain ⟨x5, h5, w5⟩ := leaf_int (m := 6) hf hw 5 3 .i64 (by kernel_rfl) Tryd.underlying3
  obtain ⟨x6, h6, w6⟩ := leaf_int (m := 6) hf hw 6 3 .i64 (by kernel_rfl) Tryd.underlying3
  obtain ⟨x7, h7, w7⟩ := leaf_int (m := 6) hf hw 7 3 .i64 (by kernel_rfl) Tryd.underlying3
  obtain ⟨x8, h8, w8⟩ := leaf_int (m := 6) hf hw 8 3 .i64 (by kernel_rfl) Tryd.underlying3
  obtain ⟨x9, h9, w9⟩ := leaf_int (m := 6) hf hw 9 3 .i64 (by kernel_rfl) Tryd.underlying3
  obtain ⟨x10, h10, w10⟩ := leaf_int (m := 6) hf hw 10 3 .i64 (by kernel_rfl) Tryd.underlying3
  obtain ⟨x11, h11, w11⟩ := leaf_int (m := 6) hf hw 11 3 .i64 (by kernel_rfl) Tryd.underlying3
  obtain ⟨x12, h12, w12⟩ := leaf_int (m := 6) hf hw 12 3 .i64 (by kernel_rfl) Tryd.underlying3
  obtain ⟨x13, h13, w13⟩ := leaf_int (m := 6) hf hw 13 3 .i64 (by kernel_rfl) Tryd.underlying3
  obtain ⟨x14, h14, w14⟩ := leaf_int (m := 6) hf hw 14 3 .i64 (by kernel_rfl) Tryd.underlying3
  obtain ⟨x15, f15, y15, h15, t15, w15, _⟩ := trod_leaf 6 fuel _ _ _ 15 41 hf hw (by kernel_rfl)
  obtain ⟨x16, h16, w16⟩ := leaf_int (m := 6) hf hw 16 3 .i64 (by kernel_rfl) Tryd.underlying3
  obtain ⟨x17, h17, w17⟩ := leaf_int (m := 6) hf hw 17 3 .i64 (by kernel_rfl) Tryd.underlying3
  obtain ⟨x18, f18, y18, h18, t18, w18, _⟩ := trod_leaf 6 fuel _ _ _ 18 42 hf hw (by kernel_rfl)
  obtain ⟨x19, f19, y19, h19, t19, w19, _⟩ := trod_leaf 6 fuel _ _ _ 19 43 hf hw (by kernel_rfl)
  obtain ⟨ls, hl1, hl2, hl3⟩ := open_items (α := LotD) 41 72 9 72 Tryd.underlying41 (by kernel_rfl) (by decide) (by kernel_rfl) (by decide) (fun q => q.cells.toList) LotFit (fun _ => rfl) (fun _ _ _ => open_lot) t15 w15
  obtain ⟨hs, hh1, hh2, hh3⟩ := open_items (α := HoldD × Value) 42 75 4 48 Tryd.underlying42 (by kernel_rfl) (by decide) (by kernel_rfl) (by decide) (fun q => (q.1.cells q.2).toList) (HoldOk w) (fun _ => rfl) (fun _ _ _ => open_hold) t18 w18
  obtain ⟨es, he1, he2, he3⟩ := open_items (α := EntryD) 43 77 14 120 Tryd.underlying43 (by kernel_rfl) (by decide) (by kernel_rfl) (by decide) (fun q => q.cells.toList) EntOk (fun _ => rfl) (fun _ _ _ => open_entry) t19 w19
  refine ⟨⟨x0, x1, ⟨x2, x3, x4, x5, x6, x7, x8, x9, x10, x11⟩, x12, x13, x14, ls, x16, x17, hs.map (·.1), es⟩, x15, x18, x19, hs, ?_, ⟨⟨hl1, ⟨hh1, fun y hy => (hh2 y hy).parts⟩, rfl, he1⟩, ⟨Nat.le_trans w0 (by decide), Nat.le_trans w1 (by decide), Nat.le_trans w2 (by decide), Nat.le_trans hl3 (by decide), by simpa using Nat.le_trans hh3 (by decide), Nat.le_trans he3 (by decide)⟩, fun hF => ?_⟩⟩
  · simp only [Value.cells, Array.getElem?_toList] at h0 h1 h2 h3 h4 h5 h6 h7 h8 h9 h10 h11 h12 h13 h14 h15 h16 h17 h18 h19
    congr 1
    apply Array.ext_getElem?
    intro i
    match i with
    | 0 => rw [h0]; rfl
    | 1 => rw [h1]; rfl
    | 2 => rw [h2]; rfl
    | 3 => rw [h3]; rfl
    | 4 => rw [h4]; rfl
    | 5 => rw [h5]; rfl
    | 6 => rw [h6]; rfl
    | 7 => rw [h7]; rfl
    | 8 => rw [h8]; rfl
    | 9 => rw [h9]; rfl
    | 10 => rw [h10]; rfl
    | 11 => rw [h11]; rfl
    | 12 => rw [h12]; rfl
    | 13 => rw [h13]; rfl
    | 14 => rw [h14]; rfl
    | 15 => rw [h15]; rfl
    | 16 => rw [h16]; rfl
    | 17 => rw [h17]; rfl
    | 18 => rw [h18]; rfl
    | 19 => rw [h19]; rfl
    | i + 20 => rw [Array.getElem?_eq_none (by omega)]; rfl
  · refine ⟨hF.name, hF.key, ⟨hF.plan, fun n hn => ?_⟩, fun n hn => ?_, hl2, fun n hn => ?_, fun y hy => ?_, fun e he => ?_, by have := hF.lots; omega, by have := hF.holds; omega, by have := hF.win; omega⟩
    · simp only [PlanD.nums, List.mem_cons, List.not_mem_nil, or_false] at hn
      rcases hn with rfl | rfl | rfl | rfl | rfl | rfl | rfl | rfl | rfl <;> (apply i64_of; assumption)
    · simp only [List.mem_cons, List.not_mem_nil, or_false] at hn
      rcases hn with rfl | rfl | rfl <;> (apply i64_of; assumption)
    · simp only [List.mem_cons, List.not_mem_nil, or_false] at hn
      rcases hn with rfl | rfl <;> (apply i64_of; assumption)
    · obtain ⟨z, hz, rfl⟩ := List.mem_map.1 hy
      exact ⟨(hh2 z hz).nums, (hh2 z hz).fit, by have := hF.parts z.1 (List.mem_map_of_mem hz); omega⟩
    · have := he2 e he
      exact ⟨this.id, ⟨(hF.ents e he).2, this.nums, ⟨(hF.ents e he).1, this.stmt⟩⟩⟩
end
theorem recAccounts_walk {w : World} (ht : w.cell? ⟨3, 15, none⟩ = some (.int .u8 4)) (a : AccD) (al ah aw : Value) (hs : List (HoldD × Value)) (ha : AccOk w a al ah aw hs) (o : AccD) (ol oh ow : Value) (ks : List (HoldD × Value)) (ho : AccOk w o ol oh ow ks) :
    Calls Tryd.prog 6 #[.agg (a.cells al ah aw), .agg (o.cells ol oh ow)] w (NumPost w) :=
  ra_main a o al ah aw ol oh ow hs ks w ha.rd ho.rd ha.fit ho.fit ha.few ht
end Go.Proofs.YtehkgcmdndehaaaDoor

