/-
  append(v, s...) at bytes beside a pager: v a row of the call's own, s whatever reads as bytes.
-/
import Derived.Test.YtjbomdhlfjcgmaaCloO
import Derived.Maps.AppendAt
import Derived.Laws.OwnMore
namespace Go.Proofs.Ytjbomdhlfjcgmaa
set_option linter.unusedSimpArgs false
set_option linter.unusedVariables false
open Go.RowKit

theorem appd_at {w w1 : World} {v v' : Value} (hgrow : w.grownBy w1 v.ownBlock) (hat : v'.ownBlock = v.ownBlock ∨ v'.ownBlock = some w.heap.size) : Appd w w1 v v' :=
  Appd.grown (Below.refl _ w) hgrow (hat.imp Eq.symm fun h => ⟨_, h, Nat.le_refl _⟩)

section
variable (w : World)
theorem run_append_row (base : Nat) (v : Value) (xs : List UInt8) (hown : Row w base v xs) (vs : Value) (zs : List UInt8) (hr : Reads w vs zs) (hl : Fits (xs.length + zs.length)) (hbase : base ≤ w.heap.size) (ty : TypeId) (hty : ty = 22) :
    ∃ v' w', (Builtin.append_ #[22, 22] ty #[v, vs]).run Try.prog w = .ok v' w' ∧ Row w' base v' (xs ++ zs) ∧ Appd w w' v v' := by
  subst hty
  obtain ⟨i0, hi, hz0, hz1, hz2⟩ := info_parts infoU8
  have hown0 := hown
  unfold Row at hown
  rcases hr with ⟨rfl, rfl⟩ | ⟨b, off, cap, rfl, hc, hb, hx⟩
  · refine ⟨v, w, ?_, by simpa using hown0, Appd.refl _ _⟩
    rcases hown.2 with ⟨rfl, h0⟩ | ⟨g, cap, cur, rfl, _, _, hnc, _⟩
    · simp [Builtin.append_, run_underlying Try.underlying22, sizeOf, typeInfo, hi, Builtin.lenOf, Builtin.firstCells, h0]
    · simp [Builtin.append_, run_underlying Try.underlying22, sizeOf, typeInfo, hi, Builtin.lenOf, Builtin.firstCells, hnc, storeCells]
  · have hcells : ∀ j u, (bcells zs)[j]? = some u → w.cell? ((⟨b, off, none⟩ : Addr).add j) = some u := by
      intro j u hj
      simp only [bcells, List.getElem?_map, Option.map_eq_some_iff] at hj
      obtain ⟨x, hx1, rfl⟩ := hj
      rw [Addr.add_lit]
      exact hx j x hx1
    obtain ⟨v', w', hrun, h2, h3, _, h5⟩ := run_append_own_at (P := Try.prog) w base 22 22 5 i0 (.int .u8 0) 1 1 Try.underlying22 hi hz0 hz1 hz2 rfl (by decide) v xs.length (bcells xs) hown
      ⟨b, off, none⟩ zs.length cap (bcells zs) (by simp [bcells]) hcells (bcells_oneCell _) hl.max hl.reach hbase
    refine ⟨v', w', hrun, ?_, appd_at h3 h5⟩
    unfold Row
    rw [List.length_append, bcells_append]
    exact h2

theorem wp_append_row {o : Oper} {a : Act} {K : Act → World → Prop} {Q : Exit → Act → World → Prop} (s x : Operand)
    (ho : o.op = .call { callee := .builtin .append, args := #[s, x], argTypes := #[22, 22] }) (hty : o.type = 22)
    (base : Nat) (v : Value) (xs : List UInt8) (hs : a.eval s = v) (hown : Row w base v xs) (vs : Value) (zs : List UInt8) (hx : a.eval x = vs) (hr : Reads w vs zs) (hl : Fits (xs.length + zs.length)) (hbase : base ≤ w.heap.size)
    (h : ∀ v' w', Row w' base v' (xs ++ zs) → Appd w w' v v' → K (a.put o.dst v') w') : o.wp Try.prog a w K Q := by
  obtain ⟨v', w', hrun, h2, h3⟩ := run_append_row w base v xs hown vs zs hr hl hbase o.type hty
  unfold Oper.wp execOp
  simp only [ho, resolve, invoke, builtin, Sem.run_bind, Sem.run_pure, Result.andThen_ok, List.map_toArray, List.map_cons, List.map_nil, hs, hx, hrun]
  exact h v' w' h2 h3

theorem wpList_append_row {ops : Array Oper} {rest : List Oper} {o : Oper} {a : Act} {Q : Exit → Act → World → Prop} (hgd : o.guard = none) (s x : Operand)
    (ho : o.op = .call { callee := .builtin .append, args := #[s, x], argTypes := #[22, 22] }) (hty : o.type = 22)
    (base : Nat) (v : Value) (xs : List UInt8) (hs : a.eval s = v) (hown : Row w base v xs) (vs : Value) (zs : List UInt8) (hx : a.eval x = vs) (hr : Reads w vs zs) (hl : Fits (xs.length + zs.length)) (hbase : base ≤ w.heap.size)
    (h : ∀ v' w', Row w' base v' (xs ++ zs) → Appd w w' v v' → wpList Try.prog ops Q rest (a.put o.dst v') w') : wpList Try.prog ops Q (o :: rest) a w :=
  wpList_plain hgd fun _ hK => wp_append_row w s x ho hty base v xs hs hown vs zs hx hr hl hbase fun v' w' h2 h3 => hK _ _ (h v' w' h2 h3)

/-- append([]byte{}, s...): a copy in a block of one's own. -/
theorem wpList_copy_row {ops : Array Oper} {rest : List Oper} {o : Oper} {a : Act} {Q : Exit → Act → World → Prop} (hgd : o.guard = none) (s x : Operand)
    (ho : o.op = .call { callee := .builtin .append, args := #[s, x], argTypes := #[22, 22] }) (hty : o.type = 22)
    (hs : a.eval s = .slice (some ⟨w.heap.size, 0, none⟩) 0 0) (vs : Value) (zs : List UInt8) (hx : a.eval x = vs) (hr : Reads w vs zs) (hl : Fits zs.length)
    (h : ∀ a' c' w', Row w' w.heap.size (.slice a' zs.length c') zs → Below w.heap.size w w' → wpList Try.prog ops Q rest (a.put o.dst (.slice a' zs.length c')) w') :
    wpList Try.prog ops Q (o :: rest) a (w.alloc (.cells #[] 5)) := by
  refine wpList_append_row (w.alloc (.cells #[] 5)) hgd s x ho hty w.heap.size (.slice (some ⟨w.heap.size, 0, none⟩) 0 0) [] hs ?_ vs zs hx (hr.below (below_any w _)) (by simpa using hl) (by simp) ?_
  · exact World.ownsRow_made w #[] 0 (Nat.le_refl _) (Nat.zero_le _) rfl
  · intro v' w' hrow ha
    rw [List.nil_append] at hrow
    obtain ⟨a', c', rfl⟩ := hrow.reads.len
    exact h a' c' w' hrow ((below_any w _).trans (ha.keeps.below (by simp) (fun j hj e => by
      have e : w.heap.size = j := by simpa [Value.ownBlock] using e
      omega)))
end
end Go.Proofs.Ytjbomdhlfjcgmaa
