/-
  append(v, s...) at bytes: v a row of the call's own, s whatever reads as bytes (nil, empty or not).
-/
import Derived.Test.YtehkgcmdndehaaaRefW
import Derived.Maps.AppendAt
import Derived.Laws.OwnMore
namespace Go.Proofs.Ytehkgcmdndehaaa
set_option linter.unusedSimpArgs false
set_option linter.unusedVariables false
open Go.RowKit

theorem grew_at {w w1 : World} {v v' : Value} (hgrow : w.grownBy w1 v.ownBlock) (hat : v'.ownBlock = v.ownBlock ∨ v'.ownBlock = some w.heap.size) : Grew w w1 v v' :=
  ⟨hgrow.os, hgrow.tape, hgrow.output, hgrow.size, fun k hk hv => hgrow.block k hk (fun e => hv e.symm), hat.imp id fun h => ⟨_, h, Nat.le_refl _⟩⟩

section
variable (w : World)
theorem run_append_bytes (base : Nat) (v : Value) (xs : List UInt8) (hown : OwnB w base v xs) (vs : Value) (zs : List UInt8) (hr : Reads w vs zs) (hl : Fits (xs.length + zs.length)) (hbase : base ≤ w.heap.size) (ty : TypeId) (hty : ty = 28) :
    ∃ v' w', (Builtin.append_ #[28, 28] ty #[v, vs]).run Try.prog w = .ok v' w' ∧ OwnB w' base v' (xs ++ zs) ∧ Grew w w' v v' := by
  subst hty
  obtain ⟨i0, hi, hz0, hz1, hz2⟩ := info_parts infoU8
  have hown0 := hown
  unfold OwnB at hown
  rcases hr with ⟨rfl, rfl⟩ | ⟨b, off, cap, rfl, hc, hb, hx⟩
  · refine ⟨v, w, ?_, by simpa using hown0, Grew.refl _ _⟩
    rcases hown.2 with ⟨rfl, h0⟩ | ⟨g, cap, cur, rfl, _, _, hnc, _⟩
    · simp [Builtin.append_, run_underlying Try.underlying28, sizeOf, typeInfo, hi, Builtin.lenOf, Builtin.firstCells, h0]
    · simp [Builtin.append_, run_underlying Try.underlying28, sizeOf, typeInfo, hi, Builtin.lenOf, Builtin.firstCells, hnc, storeCells]
  · have hcells : ∀ j u, (bcells zs)[j]? = some u → w.cell? ((⟨b, off, none⟩ : Addr).add j) = some u := by
      intro j u hj
      simp only [bcells, List.getElem?_map, Option.map_eq_some_iff] at hj
      obtain ⟨x, hx1, rfl⟩ := hj
      rw [Addr.add_lit]
      exact hx j x hx1
    obtain ⟨v', w', hrun, h2, h3, _, h5⟩ := run_append_own_at (P := Try.prog) w base 28 28 5 i0 (.int .u8 0) 1 1 Try.underlying28 hi hz0 hz1 hz2 rfl (by decide) v xs.length (bcells xs) hown
      ⟨b, off, none⟩ zs.length cap (bcells zs) (by simp [bcells]) hcells (bcells_oneCell _) hl.max hl.reach hbase
    refine ⟨v', w', hrun, ?_, grew_at h3 h5⟩
    unfold OwnB
    rw [List.length_append, bcells_append]
    exact h2

theorem wp_append_bytes {o : Oper} {a : Act} {K : Act → World → Prop} {Q : Exit → Act → World → Prop} (s x : Operand)
    (ho : o.op = .call { callee := .builtin .append, args := #[s, x], argTypes := #[28, 28] }) (hty : o.type = 28)
    (base : Nat) (v : Value) (xs : List UInt8) (hs : a.eval s = v) (hown : OwnB w base v xs) (vs : Value) (zs : List UInt8) (hx : a.eval x = vs) (hr : Reads w vs zs) (hl : Fits (xs.length + zs.length)) (hbase : base ≤ w.heap.size)
    (h : ∀ v' w', OwnB w' base v' (xs ++ zs) → Grew w w' v v' → K (a.put o.dst v') w') : o.wp Try.prog a w K Q := by
  obtain ⟨v', w', hrun, h2, h3⟩ := run_append_bytes w base v xs hown vs zs hr hl hbase o.type hty
  unfold Oper.wp execOp
  simp only [ho, resolve, invoke, builtin, Sem.run_bind, Sem.run_pure, Result.andThen_ok, List.map_toArray, List.map_cons, List.map_nil, hs, hx, hrun]
  exact h v' w' h2 h3

theorem wpList_append_bytes {ops : Array Oper} {rest : List Oper} {o : Oper} {a : Act} {Q : Exit → Act → World → Prop} (hgd : o.guard = none) (s x : Operand)
    (ho : o.op = .call { callee := .builtin .append, args := #[s, x], argTypes := #[28, 28] }) (hty : o.type = 28)
    (base : Nat) (v : Value) (xs : List UInt8) (hs : a.eval s = v) (hown : OwnB w base v xs) (vs : Value) (zs : List UInt8) (hx : a.eval x = vs) (hr : Reads w vs zs) (hl : Fits (xs.length + zs.length)) (hbase : base ≤ w.heap.size)
    (h : ∀ v' w', OwnB w' base v' (xs ++ zs) → Grew w w' v v' → wpList Try.prog ops Q rest (a.put o.dst v') w') : wpList Try.prog ops Q (o :: rest) a w :=
  wpList_plain hgd fun _ hK => wp_append_bytes w s x ho hty base v xs hs hown vs zs hx hr hl hbase fun v' w' h2 h3 => hK _ _ (h v' w' h2 h3)

theorem step_append_bytes {ops : Array Oper} {o : Oper} {a : Act} {K : Act → World → Prop} {Q : Exit → Act → World → Prop} {E : Prop} (hgd : o.guard = none) (s x : Operand)
    (ho : o.op = .call { callee := .builtin .append, args := #[s, x], argTypes := #[28, 28] }) (hty : o.type = 28)
    (base : Nat) (v : Value) (xs : List UInt8) (hs : a.eval s = v) (hown : OwnB w base v xs) (vs : Value) (zs : List UInt8) (hx : a.eval x = vs) (hr : Reads w vs zs) (hl : Fits (xs.length + zs.length)) (hbase : base ≤ w.heap.size)
    (h : ∀ v' w', OwnB w' base v' (xs ++ zs) → Grew w w' v v' → K (a.put o.dst v') w') :
    if Region.wanted o (yielded ops a.tmps) = true then Oper.wp Try.prog o a w K Q else E := by
  rw [if_pos (by simp [Region.wanted, hgd])]
  exact wp_append_bytes w s x ho hty base v xs hs hown vs zs hx hr hl hbase h
end

/-- One byte in a block that was just made. -/
theorem reads_one {w : World} {x : Int} {b : UInt8} (h : x = (b.toNat : Int)) (E : TypeId) : Reads (w.alloc (.cells #[.int .u8 x] E)) (.slice (some ⟨w.heap.size, 0, none⟩) 1 1) [b] := by
  subst h
  refine .inr ⟨w.heap.size, 0, 1, rfl, by simp, by simp, fun i y hi => ?_⟩
  match i, hi with
  | 0, hi =>
    simp at hi
    subst hi
    rw [World.cell?_alloc_at _ _ _ _ rfl]
    rfl
  | _ + 1, hi => simp at hi
/-- A row of no bytes, just made. -/
theorem ownB_empty {w : World} : OwnB (w.alloc (.cells #[] 5)) w.heap.size (.slice (some ⟨w.heap.size, 0, none⟩) 0 0) [] := by
  have h := World.ownsRow_made (base := w.heap.size) (e := 5) (size := 1) w #[] 0 (Nat.le_refl _) (Nat.zero_le _) (by rfl)
  exact h
theorem Grew.below_ge {n : Nat} {w W w1 : World} {v0 v : Value} (h : Grew W w1 v0 v) (hv : ∀ k, v0.ownBlock = some k → n ≤ k) (hB : Below n w W) (hs : n ≤ W.heap.size) : Below n w w1 :=
  hB.trans ⟨h.os, h.tape, h.output, h.size, fun k hk => h.block k (by omega) (fun e => by have := hv k e; omega)⟩
end Go.Proofs.Ytehkgcmdndehaaa
