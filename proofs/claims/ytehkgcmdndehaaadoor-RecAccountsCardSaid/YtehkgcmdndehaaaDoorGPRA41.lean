/-
  tolllaw6.plain: an account of which the statements without a term are none.
-/
import Derived.Test.YtehkgcmdndehaaaDoorGPRA35
import Derived.Test.YtehkgcmdndehaaaDoorGPRA40
namespace Go.Proofs.YtehkgcmdndehaaaDoor
set_option linter.unusedSimpArgs false
set_option linter.unusedVariables false
open Go.RowKit

def stmtNone : StmtD := ⟨⟨#[]⟩, 0, 0, 0, 0, 0, 0, 0, 0⟩
/-- An entry: a statement without a term is none. -/
def plainE (e : EntryD) : EntryD := if e.ans.stmt.term = 0 then { e with ans := { e.ans with stmt := stmtNone } } else e
def plainA (a : AccD) : AccD := { a with window := a.window.map plainE }
/-- Entries, the first k of them as plain has them. -/
def plK (es : List EntryD) (k : Nat) : List EntryD := (es.take k).map plainE ++ es.drop k
theorem plK_zero (es : List EntryD) : plK es 0 = es := by simp [plK]
theorem plK_all (es : List EntryD) : plK es es.length = es.map plainE := by simp [plK]
theorem plK_length (es : List EntryD) (k : Nat) : (plK es k).length = es.length := by simp [plK]; omega
theorem plK_at (es : List EntryD) (k : Nat) (x : EntryD) (h : es[k]? = some x) : (plK es k)[k]? = some x := by
  obtain ⟨hk, h⟩ := List.getElem?_eq_some_iff.1 h
  unfold plK
  rw [List.getElem?_append_right (by simp; omega), List.getElem?_drop]
  simp only [List.length_map, List.length_take]
  rw [show k + (k - min k es.length) = k by omega, List.getElem?_eq_getElem hk, h]
theorem plK_succ (es : List EntryD) (k : Nat) (x : EntryD) (h : es[k]? = some x) (i : Nat) : (plK es (k + 1))[i]? = if i = k then some (plainE x) else (plK es k)[i]? := by
  obtain ⟨hk, h⟩ := List.getElem?_eq_some_iff.1 h
  unfold plK
  by_cases h1 : i < k
  · rw [if_neg (by omega), List.getElem?_append_left (by simp; omega), List.getElem?_append_left (by simp; omega)]
    simp [List.getElem?_take, h1, show i < k + 1 by omega]
  · by_cases h2 : i = k
    · subst h2
      rw [if_pos rfl, List.getElem?_append_left (by simp; omega)]
      simp [List.getElem?_take, List.getElem?_eq_getElem hk, h]
    · rw [if_neg h2, List.getElem?_append_right (by simp; omega), List.getElem?_append_right (by simp; omega)]
      simp only [List.length_map, List.length_take, List.getElem?_drop]
      congr 1
      omega

/-- An element's cells, the rows that were read. -/
theorem items_run {w : World} {n b off cap : Nat} {xs : List (List Value)} (h : ∀ i x, xs[i]? = some x → x.length = n ∧ w.rangeAt b (off + i * n) x) : ∀ (j : Nat) (u : Value), xs.flatten[j]? = some u → w.cell? ((⟨b, off, none⟩ : Addr).add j) = some u := by
  intro j u hj
  rw [Addr.add_lit]
  clear cap
  induction xs generalizing off j with
  | nil => simp at hj
  | cons x xs ih =>
    rw [List.flatten_cons] at hj
    obtain ⟨hx, hr⟩ := h 0 x rfl
    by_cases hjn : j < x.length
    · rw [List.getElem?_append_left hjn] at hj
      have := hr j u hj
      simpa using this
    · rw [List.getElem?_append_right (by omega)] at hj
      have := ih (off := off + n) (fun i y hy => ⟨(h (i + 1) y (by simpa using hy)).1, by have := (h (i + 1) y (by simpa using hy)).2; rw [Nat.add_mul] at this; rw [show off + n + i * n = off + (i * n + 1 * n) by omega]; exact this⟩) (j - x.length) hj
      rw [show off + n + (j - x.length) = off + j by omega] at this
      exact this
theorem flatten_len {n : Nat} : ∀ (xs : List (List Value)), (∀ x ∈ xs, x.length = n) → xs.flatten.length = xs.length * n
  | [], _ => by simp
  | x :: xs, h => by rw [List.flatten_cons, List.length_append, h x (List.mem_cons_self ..), flatten_len xs (fun y hy => h y (List.mem_cons_of_mem _ hy)), List.length_cons, Nat.add_mul]; omega
section
variable (w : World)
theorem run_append_entries (base : Nat) (v : Value) (hown : w.ownsRow base 77 14 v 0 []) (vs : Value) (es : List EntryD) (hr : RdWin w vs es) (hl : es.length ≤ 1000000) (hbase : base ≤ w.heap.size) (ty : TypeId) (hty : ty = 43) :
    ∃ v' w', (Builtin.append_ #[43, 43] ty #[v, vs]).run Tryd.prog w = .ok v' w' ∧ OwnI w' base 77 14 v' (es.map (·.cells.toList)) ∧ w.grownBy w' v.ownBlock := by
  subst hty
  obtain ⟨i0, hi, hz0, hz1, hz2⟩ := info_parts infoEntry
  have hx14 : ∀ x ∈ es.map (·.cells.toList), x.length = 14 := fun x hx => by obtain ⟨e, _, rfl⟩ := List.mem_map.1 hx; rfl
  rcases hr with ⟨he, sa, sc, rfl⟩ | ⟨b, off, cap, rfl, hc, hb, hx⟩
  · have he2 : es = [] := by simpa using he
    subst he2
    refine ⟨v, w, ?_, ⟨hown, fun x hx => by cases hx⟩, World.grownBy.refl w _⟩
    rcases hown.2 with ⟨rfl, h0⟩ | ⟨g, cap, cur, rfl, _, _, hnc, _⟩
    · cases sa <;> simp [Builtin.append_, run_underlying Tryd.underlying43, sizeOf, typeInfo, hi, Builtin.lenOf, Builtin.firstCells, loadCells, loadCellsFrom]
    · cases sa <;> simp [Builtin.append_, run_underlying Tryd.underlying43, sizeOf, typeInfo, hi, Builtin.lenOf, Builtin.firstCells, storeCells, loadCells, loadCellsFrom]
  · have h1 : ∀ u ∈ (es.map (·.cells.toList)).flatten, u.oneCell' = true := fun u hu => by
      obtain ⟨x, hx, hu⟩ := List.mem_flatten.1 hu
      obtain ⟨e, _, rfl⟩ := List.mem_map.1 hx
      simp only [EntryD.cells, List.mem_cons, List.not_mem_nil, or_false] at hu
      rcases hu with rfl | rfl | rfl | rfl | rfl | rfl | rfl | rfl | rfl | rfl | rfl | rfl | rfl | rfl <;> rfl
    obtain ⟨v', w', hrun, h2, h3, _⟩ := run_append_own (P := Tryd.prog) w base 43 43 77 i0 (.agg entryZ.cells) 14 120 Tryd.underlying43 hi hz0 hz1 hz2 rfl (by decide) v 0 [] hown
      ⟨b, off, none⟩ (es.map (·.cells.toList)).length cap (es.map (·.cells.toList)).flatten (flatten_len _ hx14) (items_run (cap := cap) hx) h1 (by simp; unfold maxLen; omega) (by simp; omega) hbase
    refine ⟨v', w', hrun, ⟨?_, hx14⟩, h3⟩
    simpa using h2
theorem wpList_append_entries {ops : Array Oper} {rest : List Oper} {o : Oper} {a : Act} {Q : Exit → Act → World → Prop} (hgd : o.guard = none) (s x : Operand)
    (ho : o.op = .call { callee := .builtin .append, args := #[s, x], argTypes := #[43, 43] }) (hty : o.type = 43)
    (base : Nat) (v : Value) (hs : a.eval s = v) (hown : w.ownsRow base 77 14 v 0 []) (vs : Value) (es : List EntryD) (hx : a.eval x = vs) (hr : RdWin w vs es) (hl : es.length ≤ 1000000) (hbase : base ≤ w.heap.size)
    (h : ∀ v' w', OwnI w' base 77 14 v' (es.map (·.cells.toList)) → w.grownBy w' v.ownBlock → wpList Tryd.prog ops Q rest (a.put o.dst v') w') : wpList Tryd.prog ops Q (o :: rest) a w := by
  obtain ⟨v', w', hrun, h2, h3⟩ := run_append_entries w base v hown vs es hr hl hbase o.type hty
  refine wpList_plain hgd fun K hK => ?_
  unfold Oper.wp execOp
  simp only [ho, resolve, invoke, builtin, Sem.run_bind, Sem.run_pure, Result.andThen_ok, List.map_toArray, List.map_cons, List.map_nil, hs, hx, hrun]
  exact hK _ _ (h v' w' h2 h3)
end
/-- The new window's block, as it is while plain goes over it. -/
structure PlAt (w0 wr : World) (v : Value) (es : List EntryD) : Prop where
  bel : Below w0.heap.size w0 wr
  rd : RdWin wr v es
  lo : ∀ k, v.ownBlock = some k → w0.heap.size ≤ k ∧ ∀ o, wr.frozen? ⟨k, o, none⟩ = false
theorem PlAt.of_own {w0 w1 : World} {base : Nat} {v : Value} {es : List EntryD} (hB : Below w0.heap.size w0 w1) (h : OwnI w1 base 77 14 v (es.map (·.cells.toList))) (hb : w0.heap.size ≤ base) : PlAt w0 w1 v es := by
  refine ⟨hB, h.items, fun k hk => ⟨by have := (h.base k hk).1; omega, fun o => ?_⟩⟩
  rcases h.1.2 with ⟨rfl, _⟩ | ⟨g, cap, cur, rfl, _, hg, _⟩
  · cases hk
  · cases hk
    exact frozen_of_row _ _ _ _ _ hg
theorem below_setCells {w0 w : World} {b : Nat} (hB : Below w0.heap.size w0 w) (hb : w0.heap.size ≤ b) (o : Nat) (vs : List Value) : Below w0.heap.size w0 (w.setCells b o vs) := by
  induction vs generalizing o w with
  | nil => exact hB
  | cons v vs ih => exact ih (hB.setCell (by exact hb) v) (o + 1)
theorem frozen_setCells {w : World} {b : Nat} (o : Nat) (vs : List Value) (a : Addr) : (w.setCells b o vs).frozen? a = w.frozen? a := by
  induction vs generalizing o w with
  | nil => rfl
  | cons v vs ih => exact (ih (w := w.setCell ⟨b, o, none⟩ v) (o + 1)).trans (World.frozen?_setCell ..)
theorem size_setCells (w : World) (b o : Nat) (vs : List Value) : (w.setCells b o vs).heap.size = w.heap.size := by
  induction vs generalizing o w with
  | nil => rfl
  | cons v vs ih => exact (ih (w.setCell ⟨b, o, none⟩ v) (o + 1)).trans (by simp [World.setCell])
/-- A statement is struck. -/
theorem PlAt.strike {w0 wr : World} {b off cap n k : Nat} {es0 : List EntryD} {x : EntryD} (h : PlAt w0 wr (.slice (some ⟨b, off, none⟩) n cap) (plK es0 k)) (hx : es0[k]? = some x) (h0 : x.ans.stmt.term = 0) :
    wr.there b (off + k * 14 + 5) stmtNone.cells.size ∧ PlAt w0 (wr.setCells b (off + k * 14 + 5) stmtNone.cells.toList) (.slice (some ⟨b, off, none⟩) n cap) (plK es0 (k + 1)) := by
  obtain ⟨hlo, hfz⟩ := h.lo b rfl
  rcases h.rd with ⟨he, _⟩ | ⟨b', off', cap', hv, hc, hb, hi⟩
  · have := (List.getElem?_eq_some_iff.1 hx).1
    rw [List.map_eq_nil_iff] at he
    have h2 := congrArg List.length he
    rw [plK_length, List.length_nil] at h2
    omega
  cases hv
  have hk := (hi k _ (by rw [List.getElem?_map, plK_at es0 k x hx]; rfl)).2
  have hth : wr.there b (off + k * 14 + 5) 9 := fun j hj => ⟨by
    have := hk.isSome (5 + j) (by show 5 + j < 14; omega)
    rw [show off + k * 14 + (5 + j) = off + k * 14 + 5 + j by omega] at this
    exact this, hfz _⟩
  refine ⟨hth, below_setCells h.bel hlo _ _, ?_, fun k' hk' => ⟨(h.lo k' hk').1, fun o => (frozen_setCells _ _ _).trans ((h.lo k' hk').2 o)⟩⟩
  refine .inr ⟨b, off, cap, by simp [plK_length], by simpa [plK_length] using hc, by rw [size_setCells]; exact hb, fun i y hy => ?_⟩
  rw [List.getElem?_map, plK_succ es0 k x hx i] at hy
  by_cases hik : i = k
  · subst hik
    rw [if_pos rfl] at hy
    cases hy
    refine ⟨rfl, ?_⟩
    have e : plainE x = { x with ans := { x.ans with stmt := stmtNone } } := if_pos h0
    rw [e]
    have hs := World.rangeAt_setCells_same wr b (off + i * 14 + 5) stmtNone.cells.toList hth
    have hf : (wr.setCells b (off + i * 14 + 5) stmtNone.cells.toList).rangeAt b (off + i * 14) (x.cells.toList.take 5) := World.rangeAt_setCells_apart (fun j u hj => hk j u (by rw [List.getElem?_take] at hj; split at hj; exact hj; cases hj)) _ _ _ (.inr (.inl (by show off + i * 14 + 5 ≤ _; omega)))
    intro j u hj
    by_cases hj5 : j < 5
    · refine hf j u ?_
      match j, hj5, hj with
      | 0, _, hj | 1, _, hj | 2, _, hj | 3, _, hj | 4, _, hj => exact hj
    · have := hs (j - 5) u (by
        have hj14 : j < 14 := (List.getElem?_eq_some_iff.1 hj).1
        obtain ⟨m, rfl⟩ : ∃ m, j = 5 + m := ⟨j - 5, by omega⟩
        rw [show 5 + m - 5 = m by omega]
        match m, (by omega : m < 9), hj with
        | 0, _, hj | 1, _, hj | 2, _, hj | 3, _, hj | 4, _, hj | 5, _, hj | 6, _, hj | 7, _, hj | 8, _, hj => exact hj)
      rw [show off + i * 14 + 5 + (j - 5) = off + i * 14 + j by omega] at this
      exact this
  · rw [if_neg hik] at hy
    obtain ⟨hl, hr⟩ := hi i y (by rw [List.getElem?_map]; exact hy)
    refine ⟨hl, World.rangeAt_setCells_apart hr _ _ _ ?_⟩
    right
    rw [hl]
    rcases Nat.lt_or_gt_of_ne hik with h1 | h1
    · left; have : i * 14 + 14 ≤ k * 14 := by omega
      omega
    · right; show off + k * 14 + 5 + 9 ≤ _; have : k * 14 + 14 ≤ i * 14 := by omega
      omega
theorem PlAt.pass {w0 wr : World} {v : Value} {k : Nat} {es0 : List EntryD} {x : EntryD} (h : PlAt w0 wr v (plK es0 k)) (hx : es0[k]? = some x) (h0 : ¬ x.ans.stmt.term = 0) : PlAt w0 wr v (plK es0 (k + 1)) := by
  have e : plK es0 (k + 1) = plK es0 k := by
    apply List.ext_getElem?
    intro i
    rw [plK_succ es0 k x hx i]
    split
    · next he => subst he; rw [plK_at es0 i x hx, plainE, if_neg h0]
    · rfl
  rw [e]; exact h

/-- An account that a call made, or that was handed in. -/
def AccNew (w : World) (a : AccD) (hs : List (HoldD × Value)) (al ah : Value) (e : Ending) (w' : World) : Prop := ∃ wv, e = .returned (.agg ((plainA a).cells al ah wv)) ∧ AccRd w' (plainA a) al ah wv hs ∧ Below w.heap.size w w'
theorem plainA_cells (a : AccD) (al ah wv : Value) : (plainA a).cells al ah wv = a.cells al ah wv := rfl
set_option maxHeartbeats 1600000 in
set_option maxRecDepth 100000 in
theorem law_plain (a : AccD) (al ah aw : Value) (hs : List (HoldD × Value)) (w : World) (ha : AccRd w a al ah aw hs) (hl : a.window.length ≤ 1000000) :
    Calls Tryd.prog 26 #[.agg (a.cells al ah aw)] w (AccNew w a hs al ah) := by
  have H := Lib.hid ha
  clear ha
  go_enter Tryd.func26, Tryd.ntmps26
  go_upto_region 1 with (fail)
  change Code.wp _ _ _ _ ((w.alloc (.cells (a.cells al ah aw) 45)).alloc (.cells accZc 45))
  have X0 : Hid (Blk ((w.alloc (.cells (a.cells al ah aw) 45)).alloc (.cells accZc 45)) w.heap.size 45 (a.cells al ah aw) ∧ Blk ((w.alloc (.cells (a.cells al ah aw) 45)).alloc (.cells accZc 45)) (w.heap.size + 1) 45 accZc ∧ Below w.heap.size w ((w.alloc (.cells (a.cells al ah aw) 45)).alloc (.cells accZc 45)) ∧ ((w.alloc (.cells (a.cells al ah aw) 45)).alloc (.cells accZc 45)).heap.size = w.heap.size + 2) :=
    Lib.hid ⟨(Blk.new _ _ _).below (below_alloc _ _), by have := Blk.new (w.alloc (.cells (a.cells al ah aw) 45)) 45 accZc; simpa using this, below_alloc2 _ _ _, by simp⟩
  generalize (w.alloc (.cells (a.cells al ah aw) 45)).alloc (.cells accZc 45) = W at *
  generalize hsb : w.heap.size = sb at *
  have HSB := Lib.hid hsb
  clear hsb
  have c19 : W.cell? ⟨sb, 19, none⟩ = some aw := (X0.out.1.cell 19).trans rfl
  have HW : Hid (RdWin W aw a.window) := Lib.hid (H.out.below (by rw [HSB.out]; exact X0.out.2.2.1)).win
  obtain ⟨wa, wc, hwa⟩ := HW.out.len
  rw [List.length_map] at hwa
  subst hwa
  have hlt : sb < W.heap.size := by have := X0.out.2.2.2; omega
  go_upto_region 2 with (at_builtin; go_must (refine wpList_append_entries _ rfl (.tmp 5) (.tmp 7) rfl rfl W.heap.size (.slice (some ⟨W.heap.size, 0, none⟩) 0 0) rfl (World.ownsRow_made W #[] 0 (Nat.le_refl _) (Nat.zero_le _) rfl) (.slice wa a.window.length wc) a.window rfl (HW.out.below (below_alloc _ _)) hl (by simp) ?_); intro v' w1 hown hgrow; have X1 := Lib.hid (And.intro hown hgrow); clear hown hgrow)
  have P1 : Hid (PlAt W w1 v' (plK a.window 0)) := Lib.hid (by
    rw [plK_zero]
    exact PlAt.of_own ((below_alloc _ _).grown X1.out.2 (by simp) (by intro k hk; simp [Value.ownBlock] at hk; omega)) X1.out.1 (Nat.le_refl _))
  clear X1 c19
  obtain ⟨va, vc, hv'⟩ := P1.out.rd.len
  rw [List.length_map, plK_length] at hv'
  subst hv'
  go_wp2
  go_loopg [4] a.window.length (fun g s4 wr => ∃ k : Nat, k + g = a.window.length ∧ s4 = .int .i64 k ∧ PlAt W wr (.slice va a.window.length vc) (plK a.window k))
  case atStart => exact ⟨0, by omega, rfl, P1.out⟩
  case round =>
    obtain ⟨k, hkg, rfl, hP⟩ := hrel
    obtain ⟨wC, rfl⟩ : ∃ x : World, x = wr := ⟨_, rfl⟩
    cases gk with
    | succ g =>
      have hk : (k : Int) < (a.window.length : Int) := by omega
      have hk1 : k < a.window.length := by omega
      obtain ⟨x, hx⟩ : ∃ x, a.window[k]? = some x := ⟨_, List.getElem?_eq_getElem hk1⟩
      have HA := Lib.hid (And.intro hkg (And.intro hP hx))
      rcases hP.rd with ⟨he, _, _, hv⟩ | ⟨b, off, cap, hv, hc, hb, hi⟩
      · rw [List.map_eq_nil_iff] at he
        have := congrArg List.length he
        rw [plK_length, List.length_nil] at this
        omega
      simp only [List.length_map, plK_length, Value.slice.injEq] at hv
      obtain ⟨rfl, _, rfl⟩ := hv
      have c6 : wC.cell? ⟨b, off + k * 14 + 1 + 4 + 1, none⟩ = some (.int .i64 x.ans.stmt.term) := (hi k _ (by rw [List.getElem?_map, plK_at _ _ _ hx]; rfl)).2 6 _ rfl
      clear hi hc hx hkg hP
      by_cases h0 : x.ans.stmt.term = 0
      · have h0b : (x.ans.stmt.term == 0) = true := by simp [h0]
        have S : Hid (wC.there b (off + k * 14 + 1 + 4) stmtNone.cells.size ∧ PlAt W (wC.setCells b (off + k * 14 + 1 + 4) stmtNone.cells.toList) (.slice (some ⟨b, off, none⟩) a.window.length vc) (plK a.window (k + 1))) := Lib.hid (PlAt.strike HA.out.2.1 HA.out.2.2 h0)
        clear h0
        go_upto_region 4 with (first
          | (refine wpList_build_at rfl 28 #[] rfl stmtNone.cells (by kernel_rfl) ?_)
          | (refine wpList_store_mid rfl 28 (.tmp 28) (.tmp 25) rfl b (off + k * 14 + 1 + 4) stmtNone.cells rfl rfl S.out.1 (by kernel_rfl) (stmt_one_cells _) ?_))
        generalize wC.setCells b (off + k * 14 + 1 + 4) stmtNone.cells.toList = wD at *
        clear c6
        go_wp2
        go_roundg g
        case measure => omega
        case rel => exact ⟨k + 1, by have := HA.out.1; omega, by go_num, S.out.2⟩
      · have h0b : (x.ans.stmt.term == 0) = false := by simp [h0]
        have S : Hid (PlAt W wC (.slice (some ⟨b, off, none⟩) a.window.length vc) (plK a.window (k + 1))) := Lib.hid (PlAt.pass HA.out.2.1 HA.out.2.2 h0)
        clear h0
        go_wp2
        go_roundg g
        case measure => omega
        case rel => exact ⟨k + 1, by have := HA.out.1; omega, by go_num, S.out⟩
    | zero =>
      have hk : ¬ ((k : Int) < (a.window.length : Int)) := by omega
      obtain rfl : k = a.window.length := by omega
      have PE : Hid (PlAt W wC (.slice va a.window.length vc) (a.window.map plainE)) := Lib.hid (by rw [← plK_all]; exact hP)
      clear hP hkg
      go_upto_region 7 with (fail)
      clear hk
      have XA : Hid (Blk wC sb 45 (a.cells al ah (.slice wa a.window.length wc)) ∧ Blk wC (sb + 1) 45 accZc) := Lib.hid ⟨X0.out.1.below PE.out.bel, X0.out.2.1.below PE.out.bel⟩
      have c19 : wC.cell? ⟨sb, 19, none⟩ = some (.slice wa a.window.length wc) := (XA.out.1.cell 19).trans rfl
      have f19 : wC.frozen? ⟨sb, 19, none⟩ = false := frozen_of_row _ _ _ _ _ XA.out.1
      go_upto_region 8 with (fail)
      have XB : Hid (Blk (wC.setCell ⟨sb, 19, none⟩ (.slice va a.window.length vc)) sb 45 (a.cells al ah (.slice va a.window.length vc)) ∧ Blk (wC.setCell ⟨sb, 19, none⟩ (.slice va a.window.length vc)) (sb + 1) 45 accZc) := Lib.hid ⟨XA.out.1.set _ (by show 19 < 20; omega), (Below.heap_setCell _ _ _ _ (by show sb + 1 ≠ sb; omega)).trans XA.out.2⟩
      have XP : Hid (Below sb w (wC.setCell ⟨sb, 19, none⟩ (.slice va a.window.length vc)) ∧ AccRd (wC.setCell ⟨sb, 19, none⟩ (.slice va a.window.length vc)) (plainA a) al ah (.slice va a.window.length vc) hs) := Lib.hid (by
        have hB1 : Below sb w wC := X0.out.2.2.1.trans (PE.out.bel.mono (Nat.le_of_lt hlt))
        have hB2 : Below sb w (wC.setCell ⟨sb, 19, none⟩ (.slice va a.window.length vc)) := hB1.setCell (by exact Nat.le_refl _) _
        have hA := H.out.below (by rw [HSB.out]; exact hB2)
        refine ⟨hB2, hA.lots, hA.holds, hA.heq, ?_⟩
        refine PE.out.rd.of_block (by simp [World.setCell]) (fun k hk _ => Below.heap_setCell _ _ _ _ ?_)
        have := (PE.out.lo k (live_own hk)).1
        show k ≠ sb
        omega)
      generalize wC.setCell ⟨sb, 19, none⟩ (.slice va a.window.length vc) = wD at *
      clear c19 f19 XA
      go_wp2_with (first
        | (refine wpList_load_row rfl 45 (.tmp 1) rfl sb rfl 45 (a.cells al ah (.slice va a.window.length vc)) (0, 0) _ XB.out.1 Tryd.underlying45 (by kernel_rfl) (by kernel_rfl) ?_)
        | (refine wpList_store_row rfl 45 (.tmp 2) (.tmp 31) rfl (sb + 1) (a.cells al ah (.slice va a.window.length vc)) rfl rfl 45 accZc XB.out.2 (by kernel_rfl) rfl (acc_one_cells _ (items_one XP.out.2.lots) (items_one XP.out.2.holds.1) (items_one XP.out.2.win)) ?_))
      (try simp only [Exit.inBlock, Exit.then])
      refine bodyPost_ret (results_cell_row rfl _ _ (sb + 1) 45 (a.cells al ah (.slice va a.window.length vc)) (0, 0) _ rfl (XB.out.2.setRow _) Tryd.underlying45 rfl (by kernel_rfl)) rfl ?_
      have hB3 : Below sb w (wD.setRow (sb + 1) (a.cells al ah (.slice va a.window.length vc))) := below_setRow XP.out.1 (by omega) _
      have hA := H.out.below (by rw [HSB.out]; exact hB3)
      refine ⟨.slice va a.window.length vc, rfl, ⟨hA.lots, hA.holds, hA.heq, ?_⟩, by rw [HSB.out]; exact hB3⟩
      refine XP.out.2.win.of_block (by simp) (fun k hk _ => setRow_other _ _ _ _ ?_)
      have := (PE.out.lo k (live_own hk)).1
      have := X0.out.2.2.2
      omega
end Go.Proofs.YtehkgcmdndehaaaDoor

