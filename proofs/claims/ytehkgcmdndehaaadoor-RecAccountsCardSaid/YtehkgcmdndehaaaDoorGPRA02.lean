/-
  Plain words: how numbers and texts are read off bytes, with an error's number kept (rec's reader). No program in sight.
-/
/-
  Plain data of answers and statements: how they are written, how they are read. No program in sight.
-/
/-
  How an argument that is a struct reads: each of its cells, by its type. No program in sight.
-/
import Derived.Test.YtehkgcmdndehaaaDoorGPRA01
import Derived.ProofKit
import Derived.WalkKit
import Derived.SizedLaws
namespace Go.Proofs.YtehkgcmdndehaaaDoor
set_option linter.unusedSimpArgs false
set_option linter.unusedVariables false
open Go.RowKit

/-- What is left to read, and what was wrong first (0: nothing). -/
structure Re where
  bs : List UInt8
  err : Int

def Re.fail (r : Re) (e : Int) : Re := if r.err = 0 then ⟨r.bs, e⟩ else r
def Re.take (r : Re) (n : Nat) : List UInt8 × Re :=
  if r.err ≠ 0 ∨ r.bs.length < n then (List.replicate n 0, r.fail 8) else (r.bs.take n, ⟨r.bs.drop n, 0⟩)
def Re.one (r : Re) : Int × Re := ((((r.take 1).1.getD 0 0).toNat : Int), (r.take 1).2)
def Re.int (r : Re) : Int × Re := (decInt (r.take 8).1, (r.take 8).2)
def Re.str (r : Re) : List UInt8 × Re :=
  let a := r.one
  let b := a.2.take a.1.toNat
  (if b.2.err ≠ 0 then [] else b.1, b.2)
def Re.ints : Nat → Re → List Int × Re
  | 0, r => ([], r)
  | n + 1, r => (r.int.1 :: (Re.ints n r.int.2).1, (Re.ints n r.int.2).2)

theorem Re.take_length (r : Re) (n : Nat) : (r.take n).1.length = n := by
  unfold Re.take
  split
  · simp
  · simp only [List.length_take]; omega
theorem Re.fail_bs (r : Re) (e : Int) : (r.fail e).bs = r.bs := by unfold Re.fail; split <;> rfl
theorem Re.take_le (r : Re) (n : Nat) : (r.take n).2.bs.length ≤ r.bs.length := by
  unfold Re.take
  split
  · rw [Re.fail_bs]; exact Nat.le_refl _
  · simp only [List.length_drop]; omega
theorem Re.one_le (r : Re) : r.one.2.bs.length ≤ r.bs.length := r.take_le 1
theorem Re.int_le (r : Re) : r.int.2.bs.length ≤ r.bs.length := r.take_le 8
theorem Re.str_le (r : Re) : r.str.2.bs.length ≤ r.bs.length := Nat.le_trans (r.one.2.take_le _) r.one_le
theorem Re.ints_le : ∀ (n : Nat) (r : Re), (Re.ints n r).2.bs.length ≤ r.bs.length
  | 0, r => Nat.le_refl _
  | n + 1, r => Nat.le_trans (Re.ints_le n r.int.2) r.int_le
theorem Re.ints_length : ∀ (n : Nat) (r : Re), (Re.ints n r).1.length = n
  | 0, _ => rfl
  | n + 1, r => by simp [Re.ints, Re.ints_length n]
theorem Re.ints_snoc : ∀ (n : Nat) (r : Re), Re.ints (n + 1) r = ((Re.ints n r).1 ++ [(Re.ints n r).2.int.1], (Re.ints n r).2.int.2)
  | 0, r => rfl
  | n + 1, r => by
    rw [Re.ints, Re.ints_snoc n r.int.2]
    simp [Re.ints]
end Go.Proofs.YtehkgcmdndehaaaDoor

namespace Go.Proofs.YtehkgcmdndehaaaDoor
set_option linter.unusedSimpArgs false
set_option linter.unusedVariables false
open Go.RowKit

structure StmtD where
  name : ByteArray
  term : Int
  frm : Int
  till : Int
  granted : Int
  consumed : Int
  expired : Int
  rolled : Int
  over : Int

structure AnsD where
  err : Int
  left : Int
  over : Int
  n : Int
  stmt : StmtD

def StmtD.nums (s : StmtD) : List Int := [s.term, s.frm, s.till, s.granted, s.consumed, s.expired, s.rolled, s.over]
def StmtD.cells (s : StmtD) : Array Value := #[.string s.name, .int .i64 s.term, .int .i64 s.frm, .int .i64 s.till, .int .i64 s.granted, .int .i64 s.consumed, .int .i64 s.expired, .int .i64 s.rolled, .int .i64 s.over]
def AnsD.cells (a : AnsD) : Array Value := #[.int .i64 a.err, .int .i64 a.left, .int .i64 a.over, .int .i64 a.n,
  .string a.stmt.name, .int .i64 a.stmt.term, .int .i64 a.stmt.frm, .int .i64 a.stmt.till, .int .i64 a.stmt.granted, .int .i64 a.stmt.consumed, .int .i64 a.stmt.expired, .int .i64 a.stmt.rolled, .int .i64 a.stmt.over]
def stmtZ : StmtD := ⟨⟨#[]⟩, 0, 0, 0, 0, 0, 0, 0, 0⟩
def ansZ : AnsD := ⟨0, 0, 0, 0, stmtZ⟩

def encStmt (s : StmtD) : List UInt8 := encText s.name ++ encInts s.nums
/-- An answer's bytes. -/
def encAns (a : AnsD) : List UInt8 :=
  byteOf a.err :: encInts [a.left, a.over, a.n] ++ (if a.stmt.term = 0 then [0] else 1 :: encStmt a.stmt)

/-- Of eight numbers and a name a statement. -/
def stmtOf (name : List UInt8) (l : List Int) : StmtD := ⟨strB name, l.getD 0 0, l.getD 1 0, l.getD 2 0, l.getD 3 0, l.getD 4 0, l.getD 5 0, l.getD 6 0, l.getD 7 0⟩

/-- An answer that is read, and what was wrong (0: nothing; 8: bytes lacked; 9: more; 11: bad). -/
def parseAns (bs : List UInt8) : AnsD × Int :=
  let r0 : Rd := ⟨bs, false⟩
  let e := r0.one
  let l := Rd.ints 3 e.2
  let f := l.2.one
  if f.2.cut = false ∧ 1 < f.1 then (ansZ, 11) else
  let s := f.2.str
  let t := Rd.ints 8 s.2
  let last := if f.1 = 1 then t.2 else f.2
  let st := if f.1 = 1 then stmtOf s.1 t.1 else stmtZ
  if last.cut = true then (ansZ, 8) else
  if f.1 = 1 ∧ st.term = 0 then (ansZ, 11) else
  if 0 < last.bs.length then (ansZ, 9) else
  (⟨e.1, l.1.getD 0 0, l.1.getD 1 0, l.1.getD 2 0, st⟩, 0)
end Go.Proofs.YtehkgcmdndehaaaDoor

namespace Go.Proofs.YtehkgcmdndehaaaDoor
set_option linter.unusedSimpArgs false
set_option linter.unusedVariables false
open Go.ChangeShapes Go.WideShapes Go.RowKit

/-- The type of the cell j of a type's cells. -/
def leafAt (P : Program) : Nat → TypeId → Nat → Option TypeId
  | 0, _, _ => none
  | m + 1, t, j =>
    match P.underlying t with
    | some (.struct fs) => fs.toList.findSome? fun f => if f.offset ≤ j ∧ j < f.offset + P.cellsOf f.type then leafAt P m f.type (j - f.offset) else none
    | some .bool | some (.int _) | some .string | some (.slice _) => if j = 0 then some t else none
    | _ => none

section
variable {H : Type} {enc : TypeId × Value → H} {P : Program} {w : World} {base : Nat} {spare : Nat → Bool} {held : Bool}

theorem trod_single {n : Nat} {t : TypeId} {cs : List Value} {x : DataW H × List MemPlace} (h : DataW.trod enc P w base spare held n t cs = some x)
    (ht : P.underlying t = some .bool ∨ (∃ k, P.underlying t = some (.int k)) ∨ P.underlying t = some .string ∨ ∃ e, P.underlying t = some (.slice e)) : ∃ v, cs = [v] := by
  cases n with
  | zero => simp [DataW.trod] at h
  | succ n =>
    unfold DataW.trod at h
    rcases ht with ht | ⟨k, ht⟩ | ht | ⟨e, ht⟩
    all_goals
      rw [ht] at h
      split at h <;> first
        | exact ⟨_, rfl⟩
        | simp_all

theorem trod_leaf : ∀ (m n : Nat) (t : TypeId) (cs : List Value) (x : DataW H × List MemPlace) (j : Nat) (t' : TypeId), DataW.trod enc P w base spare held n t cs = some x →
    (x.1.weights P t).all (· ≤ reachBytes) = true → leafAt P m t j = some t' →
    ∃ v n' x', cs[j]? = some v ∧ DataW.trod enc P w base spare held n' t' [v] = some x' ∧ (x'.1.weights P t').all (· ≤ reachBytes) = true ∧ ∀ p ∈ x'.2, p ∈ x.2
  | 0, n, t, cs, x, j, t', h, hw, hl => by simp [leafAt] at hl
  | m + 1, n, t, cs, x, j, t', h, hw, hl => by
    unfold leafAt at hl
    have one : (P.underlying t = some .bool ∨ (∃ k, P.underlying t = some (.int k)) ∨ P.underlying t = some .string ∨ ∃ e, P.underlying t = some (.slice e)) → (if j = 0 then some t else none) = some t' →
        ∃ v n' x', cs[j]? = some v ∧ DataW.trod enc P w base spare held n' t' [v] = some x' ∧ (x'.1.weights P t').all (· ≤ reachBytes) = true ∧ ∀ p ∈ x'.2, p ∈ x.2 := fun ht hj => by
      obtain ⟨v, rfl⟩ := trod_single h ht
      split at hj
      · cases hj
        subst_vars
        exact ⟨v, n, x, rfl, h, hw, fun p hp => hp⟩
      · cases hj
    split at hl
    · rename_i fs ht
      obtain ⟨f, hf, hc⟩ := List.exists_of_findSome?_eq_some hl
      split at hc
      · rename_i hb
        obtain ⟨xs, k, rfl, rfl, hlen, hxs, hfield⟩ := DataW.trod_struct ht h
        obtain ⟨i, hi, hfi⟩ := List.getElem_of_mem hf
        have hfi' : fs[i]? = some f := by rw [← Array.getElem?_toList, List.getElem?_eq_getElem hi, hfi]
        have hix : i < xs.length := by rw [hxs]; simpa using hi
        have hr := hfield i f hfi'
        rw [List.getElem?_eq_getElem hix] at hr
        have hw' : (xs[i].1.weights P f.type).all (· ≤ reachBytes) = true := by
          refine List.all_eq_true.2 fun y hy => List.all_eq_true.1 hw y ?_
          simp only [DataW.weights, ht]
          exact DataW.weights_mem_each (j := i) (t := f.type) (d := xs[i].1) (by rw [List.getElem?_map, Array.getElem?_toList, hfi']; rfl) (by rw [List.getElem?_map, List.getElem?_eq_getElem hix]; rfl) y hy
        obtain ⟨v, n', x', hv, ht', hwt, hp⟩ := trod_leaf m k f.type _ _ _ _ hr hw' hc
        refine ⟨v, n', x', ?_, ht', hwt, fun p hp' => ?_⟩
        · rw [List.getElem?_take, if_pos (by omega), List.getElem?_drop] at hv
          rw [← hv]; congr 1; omega
        · exact List.mem_flatMap.2 ⟨xs[i], List.getElem_mem hix, hp p hp'⟩
      · cases hc
    · rename_i ht; exact one (.inl ht) hl
    · rename_i k ht; exact one (.inr (.inl ⟨k, ht⟩)) hl
    · rename_i ht; exact one (.inr (.inr (.inl ht))) hl
    · rename_i e ht; exact one (.inr (.inr (.inr ⟨e, ht⟩))) hl
    · cases hl

/-- A cell that is an int, a string, of a struct that was read. -/
theorem leaf_int {m n : Nat} {t : TypeId} {cs : List Value} {x : DataW H × List MemPlace} (h : DataW.trod enc P w base spare held n t cs = some x) (hw : (x.1.weights P t).all (· ≤ reachBytes) = true)
    (j : Nat) (t' : TypeId) (k : IntKind) (hl : leafAt P m t j = some t') (hu : P.underlying t' = some (.int k)) : ∃ a : Int, cs[j]? = some (.int k a) ∧ (Lit.int k a).wf = true := by
  obtain ⟨v, n', x', hv, ht, _, _⟩ := trod_leaf m n t cs x j t' h hw hl
  obtain ⟨a, ha, _, hwf⟩ := DataW.trod_int hu ht
  simp at ha
  subst ha
  exact ⟨a, hv, hwf⟩
theorem leaf_string {m n : Nat} {t : TypeId} {cs : List Value} {x : DataW H × List MemPlace} (h : DataW.trod enc P w base spare held n t cs = some x) (hw : (x.1.weights P t).all (· ≤ reachBytes) = true)
    (j : Nat) (t' : TypeId) (hl : leafAt P m t j = some t') (hu : P.underlying t' = some .string) : ∃ s : ByteArray, cs[j]? = some (.string s) ∧ s.size ≤ 140737488351232 := by
  obtain ⟨v, n', x', hv, ht, hwt, _⟩ := trod_leaf m n t cs x j t' h hw hl
  obtain ⟨s, hs, rfl, _⟩ := DataW.trod_string hu ht
  simp at hs
  subst hs
  refine ⟨s, hv, ?_⟩
  simp [DataW.weights] at hwt
  exact hwt
end
end Go.Proofs.YtehkgcmdndehaaaDoor

