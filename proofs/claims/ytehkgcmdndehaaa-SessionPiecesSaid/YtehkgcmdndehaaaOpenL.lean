/-
  How arguments that are slices of requests, of slices of bytes, read. No program in sight but the types' numbers.
-/
import Derived.Test.YtehkgcmdndehaaaOpenReq
import Derived.Test.YtehkgcmdndehaaaOpenB
import Derived.Test.YtehkgcmdndehaaaRefW
import Derived.Deep.Slices
import Derived.Deep.MidRow
namespace Go.Proofs.Ytehkgcmdndehaaa
set_option linter.unusedSimpArgs false
set_option linter.unusedVariables false
open Go.ChangeShapes Go.WideShapes Go.RowKit Go.Deep

theorem weights_all {H : Type} {P : Program} {e : TypeId} {n : Nat} : ∀ {ds : List (DataW H)} {x : DataW H}, x ∈ ds → n ∈ x.weights P e → n ∈ DataW.weightsAll P e ds
  | d :: r, x, hx, hn => by
    rw [DataW.weightsAll]
    rcases List.mem_cons.1 hx with rfl | hx
    · exact List.mem_append_left _ hn
    · exact List.mem_append_right _ (weights_all hx hn)
theorem weights_elem {H : Type} {P : Program} {t e : TypeId} (ht : P.underlying t = some (.slice e)) {es sp : List (DataW H)} (h : ((DataW.slice es sp).weights P t).all (· ≤ reachBytes) = true) {x : DataW H} (hx : x ∈ es) : (x.weights P e).all (· ≤ reachBytes) = true :=
  List.all_eq_true.2 fun y hy => List.all_eq_true.1 h y (by
    simp only [DataW.weights, ht]
    exact List.mem_cons_of_mem _ (List.mem_append_left _ (weights_all hx hy)))

set_option maxRecDepth 100000 in
set_option maxHeartbeats 800000 in
theorem open_req_cells {H : Type} {enc : TypeId × Value → H} {w : World} {base : Nat} {spare : Nat → Bool} {held : Bool} {fuel : Nat} {cs : List Value} {x : DataW H × List MemPlace}
    (hf : DataW.trod enc Try.prog w base spare held fuel 25 cs = some x) (hw : (x.1.weights Try.prog 25).all (· ≤ reachBytes) = true) (hsz : cs.length = 18) :
    ∃ q : ReqD, cs = q.cells.toList ∧ ReqOk q := by
  obtain ⟨x0, h0, w0⟩ := leaf_int (m := 6) hf hw 0 3 .i64 (by kernel_rfl) Try.underlying3
  obtain ⟨x1, h1, w1⟩ := leaf_string (m := 6) hf hw 1 9 (by kernel_rfl) Try.underlying9
  obtain ⟨x2, h2, w2⟩ := leaf_int (m := 6) hf hw 2 3 .i64 (by kernel_rfl) Try.underlying3
  obtain ⟨x3, h3, w3⟩ := leaf_int (m := 6) hf hw 3 3 .i64 (by kernel_rfl) Try.underlying3
  obtain ⟨x4, h4, w4⟩ := leaf_int (m := 6) hf hw 4 3 .i64 (by kernel_rfl) Try.underlying3
  obtain ⟨x5, h5, w5⟩ := leaf_int (m := 6) hf hw 5 3 .i64 (by kernel_rfl) Try.underlying3
  obtain ⟨x6, h6, w6⟩ := leaf_string (m := 6) hf hw 6 9 (by kernel_rfl) Try.underlying9
  obtain ⟨x7, h7, w7⟩ := leaf_string (m := 6) hf hw 7 9 (by kernel_rfl) Try.underlying9
  obtain ⟨x8, h8, w8⟩ := leaf_string (m := 6) hf hw 8 9 (by kernel_rfl) Try.underlying9
  obtain ⟨x9, h9, w9⟩ := leaf_int (m := 6) hf hw 9 3 .i64 (by kernel_rfl) Try.underlying3
  obtain ⟨x10, h10, w10⟩ := leaf_int (m := 6) hf hw 10 3 .i64 (by kernel_rfl) Try.underlying3
  obtain ⟨x11, h11, w11⟩ := leaf_int (m := 6) hf hw 11 3 .i64 (by kernel_rfl) Try.underlying3
  obtain ⟨x12, h12, w12⟩ := leaf_int (m := 6) hf hw 12 3 .i64 (by kernel_rfl) Try.underlying3
  obtain ⟨x13, h13, w13⟩ := leaf_int (m := 6) hf hw 13 3 .i64 (by kernel_rfl) Try.underlying3
  obtain ⟨x14, h14, w14⟩ := leaf_int (m := 6) hf hw 14 3 .i64 (by kernel_rfl) Try.underlying3
  obtain ⟨x15, h15, w15⟩ := leaf_int (m := 6) hf hw 15 3 .i64 (by kernel_rfl) Try.underlying3
  obtain ⟨x16, h16, w16⟩ := leaf_int (m := 6) hf hw 16 3 .i64 (by kernel_rfl) Try.underlying3
  obtain ⟨x17, h17, w17⟩ := leaf_int (m := 6) hf hw 17 3 .i64 (by kernel_rfl) Try.underlying3
  refine ⟨⟨x0, x1, x2, x3, x4, x5, x6, x7, ⟨x8, x9, x10, x11, x12, x13, x14, x15, x16, x17⟩⟩, ?_, w0, w1, w2, w3, w4, w5, w6, w7, w8, w9, w10, w11, w12, w13, w14, w15, w16, w17⟩
  apply List.ext_getElem?
  intro i
  match i with
  | 0 => rw [h0]; rfl
  | 1 => rw [h1]; rfl
  | 2 => rw [h2]; rfl
  | 3 => rw [h3]; rfl
  | 4 => rw [h4]; rfl
  | 5 => rw [h5]; rfl
  | 6 => rw [h6]; rfl
  | 7 => rw [h7]; rfl
  | 8 => rw [h8]; rfl
  | 9 => rw [h9]; rfl
  | 10 => rw [h10]; rfl
  | 11 => rw [h11]; rfl
  | 12 => rw [h12]; rfl
  | 13 => rw [h13]; rfl
  | 14 => rw [h14]; rfl
  | 15 => rw [h15]; rfl
  | 16 => rw [h16]; rfl
  | 17 => rw [h17]; rfl
  | i + 18 => rw [List.getElem?_eq_none (by omega)]; rfl

/-- The value reads as requests. -/
def RdReqs (w : World) (v : Value) (qs : List ReqD) : Prop :=
  (qs = [] ∧ ∃ a c, v = .slice a 0 c) ∨
  ∃ b off c, v = .slice (some ⟨b, off, none⟩) qs.length c ∧ qs.length ≤ c ∧ 0 < qs.length ∧ b < w.heap.size ∧ ∀ (i : Nat) (q : ReqD), qs[i]? = some q → w.rangeAt b (off + i * 18) q.cells.toList ∧ ReqOk q
instance : Inhabited ReqD := ⟨⟨0, ⟨#[]⟩, 0, 0, 0, 0, ⟨#[]⟩, ⟨#[]⟩, ⟨⟨#[]⟩, 0, 0, 0, 0, 0, 0, 0, 0, 0⟩⟩⟩

set_option maxRecDepth 100000 in
theorem open_reqs {H : Type} {enc : TypeId × Value → H} {w : World} {base : Nat} {spare : Nat → Bool} {held : Bool} {r : Reach} {b0 : Nat} {v : Value} {d : DataW H} {p : List MemPlace}
    (hv : Value.okWide Try.prog w r b0 47 v) (h : DataW.Trod enc Try.prog w base spare held 47 v d p) (hw : (d.weights Try.prog 47).all (· ≤ reachBytes) = true) :
    ∃ qs : List ReqD, RdReqs w v qs ∧ qs.length ≤ 140737488351232 := by
  have h18 : Try.prog.cellsOf 25 = 18 := by kernel_rfl
  have hby : Try.prog.bytesOf 25 = 176 := by kernel_rfl
  obtain ⟨a0, len0, cap0, rfl⟩ := okWide_slice Try.underlying47 hv
  obtain ⟨fuel, hf⟩ := h
  rcases open_slice Try.underlying47 hf with ⟨hcs, _⟩ | ⟨a, len, cap, m, n, D, Pl, hcs, hb, hl, hm, hmm, hx, hel⟩
  · simp [Value.cells] at hcs
    obtain ⟨rfl, rfl, rfl⟩ := hcs
    exact ⟨[], .inl ⟨rfl, _, _, rfl⟩, by simp⟩
  · simp only [Value.cells, List.cons.injEq, and_true] at hcs
    cases hcs
    have hd : d = .slice ((List.range len0).map D) ((List.range (m - len0)).map fun j => D (len0 + j)) := congrArg Prod.fst hx
    have hlen : len0 ≤ 140737488351232 := by
      subst hd
      simp only [DataW.weights, Try.underlying47, List.all_cons, Bool.and_eq_true, decide_eq_true_eq, hby] at hw
      have := hw.1
      simp [reachBytes] at this
      omega
    have hle : len0 ≤ m := by rw [hmm]; split <;> omega
    by_cases h0 : len0 = 0
    · subst h0
      exact ⟨[], .inl ⟨rfl, _, _, rfl⟩, by simp⟩
    have each : ∀ i, i < len0 → ∃ q : ReqD, (∀ j u, q.cells.toList[j]? = some u → w.cell? (a.add (i * 18 + j)) = some u) ∧ ReqOk q := fun i hi => by
      obtain ⟨cs', h1, h2⟩ := hel i (by omega)
      obtain ⟨_, hl1, hc1⟩ := World.cells?_some h1
      rw [h18] at hl1 hc1 h1
      obtain ⟨q, rfl, hok⟩ := open_req_cells h2 (weights_elem (x := D i) Try.underlying47 (by rw [hd] at hw; exact hw) (List.mem_map.2 ⟨i, by simpa using hi, rfl⟩)) hl1
      refine ⟨q, fun j u hj => ?_, hok⟩
      have hj18 : j < 18 := by have := (List.getElem?_eq_some_iff.1 hj).1; omega
      rw [← add_add, hc1 j hj18, hj]
    obtain ⟨f, hf2⟩ := choose_lt each
    have hc0 : w.cell? a = some (.int .i64 (f 0).kind) := by
      have := (hf2 0 (by omega)).1 0 (.int .i64 (f 0).kind) rfl
      rwa [show a.add (0 * 18 + 0) = a from rfl] at this
    have hspot := World.cell?_spot hc0
    have hblt := World.block_lt_of_cell? w a hc0
    obtain ⟨b, off, spot⟩ := a
    simp only at hspot
    subst hspot
    refine ⟨(List.range len0).map f, .inr ⟨b, off, cap0, by simp, by simpa using hl, by simp; omega, hblt, fun i q hi => ?_⟩, by simpa using hlen⟩
    have hi' : i < len0 := by
      rcases Nat.lt_or_ge i len0 with h | h
      · exact h
      · rw [List.getElem?_eq_none (by simpa using h)] at hi; cases hi
    have hq : f i = q := by simpa [List.getElem?_range hi'] using hi
    subst hq
    refine ⟨fun j u hj => ?_, (hf2 i hi').2⟩
    have := (hf2 i hi').1 j u hj
    rw [Addr.add_lit] at this
    rwa [show off + i * 18 + j = off + (i * 18 + j) by omega]

/-- Bytes, or an empty slice wherever it points. -/
def ReadsZ (w : World) (v : Value) (zs : List UInt8) : Prop := Reads w v zs ∨ (zs = [] ∧ ∃ a c, v = .slice a 0 c)
theorem ReadsZ.len {w : World} {v : Value} {zs : List UInt8} (h : ReadsZ w v zs) : ∃ a c, v = .slice a zs.length c := by
  rcases h with h | ⟨rfl, a, c, rfl⟩
  · exact h.len
  · exact ⟨a, c, rfl⟩
theorem ReadsZ.below {w w' : World} {v : Value} {zs : List UInt8} (h : ReadsZ w v zs) (hB : Below w.heap.size w w') : ReadsZ w' v zs := h.imp (fun h => h.below hB) id
theorem ReadsZ.pos {w : World} {v : Value} {zs : List UInt8} (h : ReadsZ w v zs) (h0 : 0 < zs.length) : Reads w v zs := by
  rcases h with h | ⟨rfl, _⟩
  · exact h
  · simp at h0
/-- The value reads as slices of bytes. -/
def RdRows (w : World) (v : Value) (rows : List (List UInt8)) : Prop :=
  (rows = [] ∧ ∃ a c, v = .slice a 0 c) ∨
  ∃ b off c, v = .slice (some ⟨b, off, none⟩) rows.length c ∧ rows.length ≤ c ∧ 0 < rows.length ∧ b < w.heap.size ∧ ∀ (i : Nat) (zs : List UInt8), rows[i]? = some zs → ∃ vb, w.cell? ⟨b, off + i, none⟩ = some vb ∧ ReadsZ w vb zs
set_option maxRecDepth 100000 in
theorem open_bytes_cell {H : Type} {enc : TypeId × Value → H} {w : World} {base : Nat} {spare : Nat → Bool} {held : Bool} {fuel : Nat} {v : Value} {x : DataW H × List MemPlace}
    (hf : DataW.trod enc Try.prog w base spare held fuel 28 [v] = some x) : ∃ zs : List UInt8, ReadsZ w v zs ∧ zs.length ≤ maxLen := by
  rcases open_ints Try.underlying28 Try.underlying5 (by kernel_rfl) hf with ⟨hcs, _⟩ | ⟨a, len, cap, zs, hcs, hb, hl, hm, hz, hx, hcell, hwf⟩
  · cases hcs
    exact ⟨[], .inl (Reads.nil _), by simp⟩
  · cases hcs
    by_cases h0 : len = 0
    · subst h0
      exact ⟨[], .inr ⟨rfl, _, _, rfl⟩, by simp⟩
    have hlz : len ≤ zs.length := by rw [hz]; split <;> omega
    have hc0 := hcell 0 (by omega)
    rw [show a.add 0 = a from rfl] at hc0
    have hspot := World.cell?_spot hc0
    have hblt := World.block_lt_of_cell? w a hc0
    obtain ⟨b, off, spot⟩ := a
    simp only at hspot
    subst hspot
    have hnum : ∀ i, i < len → ∃ x : UInt8, zs.getD i 0 = (x.toNat : Int) := fun i hi => by
      have : zs.getD i 0 = zs[i] := by simp [List.getD, show i < zs.length by omega]
      have hw' := hwf zs[i] (List.getElem_mem _)
      rw [← this] at hw'
      have hb := bounds_u8 hw'
      exact ⟨UInt8.ofNat (zs.getD i 0).toNat, by rw [UInt8.toNat_ofNat']; omega⟩
    obtain ⟨f, hf2⟩ := choose_lt hnum
    refine ⟨(List.range len).map f, .inl (.inr ⟨b, off, cap, by simp, by simpa using hl, hblt, fun i x hi => ?_⟩), by simp; omega⟩
    have hi' : i < len := by
      rcases Nat.lt_or_ge i len with h | h
      · exact h
      · rw [List.getElem?_eq_none (by simpa using h)] at hi; cases hi
    have hx' : f i = x := by simpa [List.getElem?_range hi'] using hi
    have := hcell i (by omega)
    rwa [Addr.add_lit, hf2 i hi', hx'] at this
set_option maxRecDepth 100000 in
theorem open_rows {H : Type} {enc : TypeId × Value → H} {w : World} {base : Nat} {spare : Nat → Bool} {held : Bool} {r : Reach} {b0 : Nat} {v : Value} {d : DataW H} {p : List MemPlace}
    (hv : Value.okWide Try.prog w r b0 48 v) (h : DataW.Trod enc Try.prog w base spare held 48 v d p) (hw : (d.weights Try.prog 48).all (· ≤ reachBytes) = true) :
    ∃ rows : List (List UInt8), RdRows w v rows ∧ rows.length ≤ 140737488351232 := by
  have hby : Try.prog.bytesOf 28 = 24 := by kernel_rfl
  obtain ⟨a0, len0, cap0, rfl⟩ := okWide_slice Try.underlying48 hv
  obtain ⟨fuel, hf⟩ := h
  rcases open_slice1 Try.underlying48 (by kernel_rfl) hf with ⟨hcs, _⟩ | ⟨a, len, cap, m, n, V, D, Pl, hcs, hb, hl, hm, hmm, hx, hel⟩
  · simp [Value.cells] at hcs
    obtain ⟨rfl, rfl, rfl⟩ := hcs
    exact ⟨[], .inl ⟨rfl, _, _, rfl⟩, by simp⟩
  · simp only [Value.cells, List.cons.injEq, and_true] at hcs
    cases hcs
    have hd : d = .slice ((List.range len0).map D) ((List.range (m - len0)).map fun j => D (len0 + j)) := congrArg Prod.fst hx
    have hlen : len0 ≤ 140737488351232 := by
      subst hd
      simp only [DataW.weights, Try.underlying48, List.all_cons, Bool.and_eq_true, decide_eq_true_eq, hby] at hw
      have := hw.1
      simp [reachBytes] at this
      omega
    have hle : len0 ≤ m := by rw [hmm]; split <;> omega
    by_cases h0 : len0 = 0
    · subst h0
      exact ⟨[], .inl ⟨rfl, _, _, rfl⟩, by simp⟩
    have each : ∀ i, i < len0 → ∃ zs : List UInt8, ReadsZ w (V i) zs := fun i hi => by
      obtain ⟨zs, hz, _⟩ := open_bytes_cell (hel i (by omega)).2
      exact ⟨zs, hz⟩
    obtain ⟨f, hf2⟩ := choose_lt each
    have hc0 := (hel 0 (by omega)).1
    rw [show a.add 0 = a from rfl] at hc0
    have hspot := World.cell?_spot hc0
    have hblt := World.block_lt_of_cell? w a hc0
    obtain ⟨b, off, spot⟩ := a
    simp only at hspot
    subst hspot
    refine ⟨(List.range len0).map f, .inr ⟨b, off, cap0, by simp, by simpa using hl, by simp; omega, hblt, fun i zs hi => ?_⟩, by simpa using hlen⟩
    have hi' : i < len0 := by
      rcases Nat.lt_or_ge i len0 with h | h
      · exact h
      · rw [List.getElem?_eq_none (by simpa using h)] at hi; cases hi
    have hq : f i = zs := by simpa [List.getElem?_range hi'] using hi
    subst hq
    have := (hel i (by omega)).1
    rw [Addr.add_lit] at this
    exact ⟨V i, this, hf2 i hi'⟩
end Go.Proofs.Ytehkgcmdndehaaa
