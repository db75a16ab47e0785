/-
  How an argument that is a struct reads: each of its cells, by its type. No program in sight.
-/
import Derived.ProofKit
import Derived.WalkKit
import Derived.SizedLaws
namespace Go.Proofs.Ytjbomdhlfjcgmaa
set_option linter.unusedSimpArgs false
set_option linter.unusedVariables false
open Go.ChangeShapes Go.WideShapes Go.RowKit

/-- The type of the cell j of a type's cells. -/
def leafAt (P : Program) : Nat → TypeId → Nat → Option TypeId
  | 0, _, _ => none
  | m + 1, t, j =>
    match P.underlying t with
    | some (.struct fs) => fs.toList.findSome? fun f => if f.offset ≤ j ∧ j < f.offset + P.cellsOf f.type then leafAt P m f.type (j - f.offset) else none
    | some .bool | some (.int _) | some .string | some (.slice _) => if j = 0 then some t else none
    | _ => none

section
variable {H : Type} {enc : TypeId × Value → H} {P : Program} {w : World} {base : Nat} {spare : Nat → Bool} {held : Bool}

theorem trod_single {n : Nat} {t : TypeId} {cs : List Value} {x : DataW H × List MemPlace} (h : DataW.trod enc P w base spare held n t cs = some x)
    (ht : P.underlying t = some .bool ∨ (∃ k, P.underlying t = some (.int k)) ∨ P.underlying t = some .string ∨ ∃ e, P.underlying t = some (.slice e)) : ∃ v, cs = [v] := by
  cases n with
  | zero => simp [DataW.trod] at h
  | succ n =>
    unfold DataW.trod at h
    rcases ht with ht | ⟨k, ht⟩ | ht | ⟨e, ht⟩
    all_goals
      rw [ht] at h
      split at h <;> first
        | exact ⟨_, rfl⟩
        | simp_all

theorem trod_leaf : ∀ (m n : Nat) (t : TypeId) (cs : List Value) (x : DataW H × List MemPlace) (j : Nat) (t' : TypeId), DataW.trod enc P w base spare held n t cs = some x →
    (x.1.weights P t).all (· ≤ reachBytes) = true → leafAt P m t j = some t' →
    ∃ v n' x', cs[j]? = some v ∧ DataW.trod enc P w base spare held n' t' [v] = some x' ∧ (x'.1.weights P t').all (· ≤ reachBytes) = true ∧ ∀ p ∈ x'.2, p ∈ x.2
  | 0, n, t, cs, x, j, t', h, hw, hl => by simp [leafAt] at hl
  | m + 1, n, t, cs, x, j, t', h, hw, hl => by
    unfold leafAt at hl
    have one : (P.underlying t = some .bool ∨ (∃ k, P.underlying t = some (.int k)) ∨ P.underlying t = some .string ∨ ∃ e, P.underlying t = some (.slice e)) → (if j = 0 then some t else none) = some t' →
        ∃ v n' x', cs[j]? = some v ∧ DataW.trod enc P w base spare held n' t' [v] = some x' ∧ (x'.1.weights P t').all (· ≤ reachBytes) = true ∧ ∀ p ∈ x'.2, p ∈ x.2 := fun ht hj => by
      obtain ⟨v, rfl⟩ := trod_single h ht
      split at hj
      · cases hj
        subst_vars
        exact ⟨v, n, x, rfl, h, hw, fun p hp => hp⟩
      · cases hj
    split at hl
    · rename_i fs ht
      obtain ⟨f, hf, hc⟩ := List.exists_of_findSome?_eq_some hl
      split at hc
      · rename_i hb
        obtain ⟨xs, k, rfl, rfl, hlen, hxs, hfield⟩ := DataW.trod_struct ht h
        obtain ⟨i, hi, hfi⟩ := List.getElem_of_mem hf
        have hfi' : fs[i]? = some f := by rw [← Array.getElem?_toList, List.getElem?_eq_getElem hi, hfi]
        have hix : i < xs.length := by rw [hxs]; simpa using hi
        have hr := hfield i f hfi'
        rw [List.getElem?_eq_getElem hix] at hr
        have hw' : (xs[i].1.weights P f.type).all (· ≤ reachBytes) = true := by
          refine List.all_eq_true.2 fun y hy => List.all_eq_true.1 hw y ?_
          simp only [DataW.weights, ht]
          exact DataW.weights_mem_each (j := i) (t := f.type) (d := xs[i].1) (by rw [List.getElem?_map, Array.getElem?_toList, hfi']; rfl) (by rw [List.getElem?_map, List.getElem?_eq_getElem hix]; rfl) y hy
        obtain ⟨v, n', x', hv, ht', hwt, hp⟩ := trod_leaf m k f.type _ _ _ _ hr hw' hc
        refine ⟨v, n', x', ?_, ht', hwt, fun p hp' => ?_⟩
        · rw [List.getElem?_take, if_pos (by omega), List.getElem?_drop] at hv
          rw [← hv]; congr 1; omega
        · exact List.mem_flatMap.2 ⟨xs[i], List.getElem_mem hix, hp p hp'⟩
      · cases hc
    · rename_i ht; exact one (.inl ht) hl
    · rename_i k ht; exact one (.inr (.inl ⟨k, ht⟩)) hl
    · rename_i ht; exact one (.inr (.inr (.inl ht))) hl
    · rename_i e ht; exact one (.inr (.inr (.inr ⟨e, ht⟩))) hl
    · cases hl

/-- A cell that is an int, a string, of a struct that was read. -/
theorem leaf_int {m n : Nat} {t : TypeId} {cs : List Value} {x : DataW H × List MemPlace} (h : DataW.trod enc P w base spare held n t cs = some x) (hw : (x.1.weights P t).all (· ≤ reachBytes) = true)
    (j : Nat) (t' : TypeId) (k : IntKind) (hl : leafAt P m t j = some t') (hu : P.underlying t' = some (.int k)) : ∃ a : Int, cs[j]? = some (.int k a) ∧ (Lit.int k a).wf = true := by
  obtain ⟨v, n', x', hv, ht, _, _⟩ := trod_leaf m n t cs x j t' h hw hl
  obtain ⟨a, ha, _, hwf⟩ := DataW.trod_int hu ht
  simp at ha
  subst ha
  exact ⟨a, hv, hwf⟩
theorem leaf_string {m n : Nat} {t : TypeId} {cs : List Value} {x : DataW H × List MemPlace} (h : DataW.trod enc P w base spare held n t cs = some x) (hw : (x.1.weights P t).all (· ≤ reachBytes) = true)
    (j : Nat) (t' : TypeId) (hl : leafAt P m t j = some t') (hu : P.underlying t' = some .string) : ∃ s : ByteArray, cs[j]? = some (.string s) ∧ s.size ≤ 140737488351232 := by
  obtain ⟨v, n', x', hv, ht, hwt, _⟩ := trod_leaf m n t cs x j t' h hw hl
  obtain ⟨s, hs, rfl, _⟩ := DataW.trod_string hu ht
  simp at hs
  subst hs
  refine ⟨s, hv, ?_⟩
  simp [DataW.weights] at hwt
  exact hwt
end
end Go.Proofs.Ytjbomdhlfjcgmaa
