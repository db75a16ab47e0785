/-
  Bytes that read, or an empty slice wherever it points: kept, cloned, appended.
-/
import Derived.Test.YtjbomdhlfjcgmaaPgPd
namespace Go.Proofs.Ytjbomdhlfjcgmaa
set_option linter.unusedSimpArgs false
set_option linter.unusedVariables false
open Go.RowKit

theorem Reads.empty {w : World} {v : Value} (h : Reads w v []) : ∃ a c, v = .slice a 0 c := by
  obtain ⟨a, c, e⟩ := h.len
  exact ⟨a, c, e⟩
theorem ReadsZ.keeps {w w' : World} {v : Value} {zs : List UInt8} {F : Nat → Prop} (h : ReadsZ w v zs) (k : Keeps F w w') (hF : zs = [] ∨ ∀ j, v.ownBlock = some j → ¬ F j) : ReadsZ w' v zs := by
  rcases h with h | ⟨rfl, h⟩
  · rcases hF with rfl | hF
    · exact .inr ⟨rfl, h.empty⟩
    · exact .inl (h.keeps k hF)
  · exact .inr ⟨rfl, h⟩
theorem ReadsZ.drewN {w : World} {v : Value} {zs : List UInt8} (h : ReadsZ w v zs) (n : Nat) : ReadsZ (w.drewN n) v zs := h
theorem run_append_readsZ {w : World} (base : Nat) (ty : TypeId) (v x : Value) (xs zs : List UInt8) (hown : Row w base v xs) (hx : ReadsZ w x zs) (hl : xs.length + zs.length ≤ 1000000) (hbase : base ≤ w.heap.size) :
    ∃ v' w', (Builtin.append_ #[22, 22] ty #[v, x]).run Try.prog w = .ok v' w' ∧ Row w' base v' (xs ++ zs) ∧ w.grownBy w' v.ownBlock := by
  rcases hx with hx | ⟨rfl, a, c, rfl⟩
  · exact run_append_reads base ty v x xs zs hown hx hl hbase
  · obtain ⟨i0, hi, hz0, hz1, hz2⟩ := info_parts infoU8
    refine ⟨v, w, ?_, by simpa using hown, ⟨rfl, rfl, rfl, Nat.le_refl _, fun _ _ _ => rfl⟩⟩
    unfold Row at hown
    rcases hown.2 with ⟨rfl, h0⟩ | ⟨g, cap, cur, rfl, _, _, hnc, _⟩
    · cases a <;> simp [Builtin.append_, run_underlying Try.underlying22, sizeOf, typeInfo, hi, Builtin.lenOf, Builtin.firstCells, h0, loadCells, loadCellsFrom]
    · cases a <;> simp [Builtin.append_, run_underlying Try.underlying22, sizeOf, typeInfo, hi, Builtin.lenOf, Builtin.firstCells, hnc, storeCells, loadCells, loadCellsFrom]
theorem wpList_append_readsZ {w : World} {ops : Array Oper} {rest : List Oper} {o : Oper} {a : Act} {Q : Exit → Act → World → Prop} (hgd : o.guard = none) (s x : Operand)
    (ho : o.op = .call { callee := .builtin .append, args := #[s, x], argTypes := #[22, 22] }) (base : Nat) (v u : Value) (xs zs : List UInt8) (hs : a.eval s = v) (hx : a.eval x = u) (hown : Row w base v xs) (hr : ReadsZ w u zs)
    (hl : xs.length + zs.length ≤ 1000000) (hbase : base ≤ w.heap.size) (h : ∀ v' w', Row w' base v' (xs ++ zs) → w.grownBy w' v.ownBlock → wpList Try.prog ops Q rest (a.put o.dst v') w') : wpList Try.prog ops Q (o :: rest) a w := by
  refine wpList_plain hgd fun K hK => ?_
  obtain ⟨v', w', hrun, h1, h2⟩ := run_append_readsZ (w := w) base o.type v u xs zs hown hr hl hbase
  unfold Oper.wp execOp
  simp only [ho, resolve, invoke, builtin, Sem.run_bind, Sem.run_pure, Result.andThen_ok, List.map_toArray, List.map_cons, List.map_nil, hs, hx, hrun]
  exact hK _ _ (h v' w' h1 h2)
set_option maxHeartbeats 800000 in
set_option maxRecDepth 100000 in
theorem clone_bytesZ (v : Value) (zs : List UInt8) (w : World) (h : ReadsZ w v zs) (hl : zs.length ≤ 1000000) :
    Calls Try.prog 34 #[v] w (ClonePost w zs) := by
  rcases h with h | ⟨rfl, a, c, rfl⟩
  · exact clone_bytes v zs w h (fits_of _ (by omega))
  have q28 : ∀ (w : World) (a : Option Addr) (n c n' c' : Nat), (binOp .eql 22 (.slice a n c) (.slice none n' c')).run Try.prog w = .ok (.bool a.isNone) w := fun w a n c n' c' => Lib.run_eql_slice_nil w _ _ a n c n' c' Try.underlying22
  cases a with
  | none =>
    go_enter Try.func34, Try.ntmps34
    go_wp2
    go_ret
    exact ⟨.slice none 0 0, rfl, Reads.nil _, fun k e => (by cases e), Below.refl _ _⟩
  | some a =>
    go_enter Try.func34, Try.ntmps34
    go_wp2_with (at_builtin; go_must (refine wpList_copy_rowZ w rfl _ _ rfl rfl rfl (.slice (some a) 0 c) [] rfl (.inr ⟨rfl, _, _, rfl⟩) (by decide) ?_; intro a' c' w1 hrow hB; have X := Lib.hid (And.intro hrow hB); clear hrow hB))
    go_ret
    exact ⟨_, rfl, X.out.1.reads, fun k e => (X.out.1.blk k e).1, X.out.2⟩
end Go.Proofs.Ytjbomdhlfjcgmaa
