/-
  Plain words: how a request is read off bytes. No program in sight.
-/
import Derived.Test.YtehkgcmdndehaaaRdD
import Derived.Test.YtehkgcmdndehaaaRePP
namespace Go.Proofs.Ytehkgcmdndehaaa
set_option linter.unusedSimpArgs false
set_option linter.unusedVariables false
open Go.RowKit

def Rd.strs : Nat → Rd → List (List UInt8) × Rd
  | 0, r => ([], r)
  | n + 1, r => (r.str.1 :: (Rd.strs n r.str.2).1, (Rd.strs n r.str.2).2)
theorem Rd.strs_le : ∀ (n : Nat) (r : Rd), (Rd.strs n r).2.bs.length ≤ r.bs.length
  | 0, r => Nat.le_refl _
  | n + 1, r => Nat.le_trans (Rd.strs_le n r.str.2) r.str_le
theorem Rd.strs_length : ∀ (n : Nat) (r : Rd), (Rd.strs n r).1.length = n
  | 0, _ => rfl
  | n + 1, r => by simp [Rd.strs, Rd.strs_length n]
theorem Rd.strs_snoc : ∀ (n : Nat) (r : Rd), Rd.strs (n + 1) r = ((Rd.strs n r).1 ++ [(Rd.strs n r).2.str.1], (Rd.strs n r).2.str.2)
  | 0, r => rfl
  | n + 1, r => by
    rw [Rd.strs, Rd.strs_snoc n r.str.2]
    simp [Rd.strs]

/-- Values are put at places (that are counted from a row's begin, two cells ahead). -/
def putAt : List Value → List Nat → List Value → List Value
  | cs, o :: os, u :: us => putAt (cs.set (o - 2) u) os us
  | cs, _, _ => cs
theorem putAt_nil (cs : List Value) (us : List Value) : putAt cs [] us = cs := by cases us <;> rfl
theorem putAt_length : ∀ (os : List Nat) (us : List Value) (cs : List Value), (putAt cs os us).length = cs.length
  | [], us, cs => by rw [putAt_nil]
  | o :: os, [], cs => rfl
  | o :: os, u :: us, cs => by rw [putAt, putAt_length os us]; simp
theorem putAt_out : ∀ (os : List Nat) (us : List Value) (cs : List Value) (j : Nat), (∀ o ∈ os, o ≠ j + 2 ∧ 2 ≤ o) → (putAt cs os us)[j]? = cs[j]?
  | [], us, cs, j, _ => by rw [putAt_nil]
  | o :: os, [], cs, j, _ => rfl
  | o :: os, u :: us, cs, j, h => by
    rw [putAt, putAt_out os us _ j (fun o' ho => h o' (List.mem_cons_of_mem _ ho)), List.getElem?_set_ne]
    have := h o (List.mem_cons_self)
    omega
theorem putAt_in : ∀ (os : List Nat) (us : List Value) (cs : List Value), os.Nodup → us.length = os.length → (∀ o ∈ os, 2 ≤ o ∧ o < cs.length + 2) → ∀ (i o : Nat), os[i]? = some o → (putAt cs os us)[o - 2]? = us[i]?
  | [], us, cs, _, _, _, i, o, h => by simp at h
  | o' :: os, [], cs, _, hl, _, i, o, h => by simp at hl
  | o' :: os, u :: us, cs, hnd, hl, hb, i, o, h => by
    rw [putAt]
    have hnd' := List.nodup_cons.1 hnd
    cases i with
    | zero =>
      simp at h
      subst h
      have hb' := hb o' List.mem_cons_self
      rw [putAt_out os us _ _ (fun x hx => ⟨fun e => hnd'.1 (by rw [show o' = x by omega]; exact hx), (hb x (List.mem_cons_of_mem _ hx)).1⟩), List.getElem?_set_self (by omega)]
      rfl
    | succ i =>
      rw [putAt_in os us _ hnd'.2 (by simpa using hl) (fun x hx => by rw [List.length_set]; exact hb x (List.mem_cons_of_mem _ hx)) i o (by simpa using h)]
      rfl
/-- One more at the end. -/
theorem putAt_snoc : ∀ (os : List Nat) (us : List Value) (cs : List Value) (o : Nat) (u : Value), us.length = os.length → putAt cs (os ++ [o]) (us ++ [u]) = (putAt cs os us).set (o - 2) u
  | [], us, cs, o, u, h => by
    have : us = [] := List.eq_nil_of_length_eq_zero (by simpa using h)
    subst this
    rfl
  | o' :: os, [], cs, o, u, h => by simp at h
  | o' :: os, u' :: us, cs, o, u, h => by
    simp only [List.cons_append, putAt]
    exact putAt_snoc os us _ o u (by simpa using h)

def intsV (l : List Int) : List Value := l.map (Value.int .i64)
def strsV (l : List (List UInt8)) : List Value := l.map fun s => .string (strB s)

def reqZ0 : ReqD := ⟨0, ⟨#[]⟩, 0, 0, 0, 0, ⟨#[]⟩, ⟨#[]⟩, plan0⟩
def putPlan (cs : List Value) (p : PlanD) : List Value := cs.take 8 ++ p.cells.toList
/-- The reading of a request, step by step: its cells so far, what is left to read. -/
def prEnd (k : Int) (cs : List Value) (r : Rd) : List Value × Int :=
  if k = 16 ∧ r.cut = false then
    if (parsePlan r.bs).2 ≠ 0 then (reqZ0.cells.toList, (parsePlan r.bs).2) else (putPlan cs (parsePlan r.bs).1, 0)
  else if r.cut = true then (reqZ0.cells.toList, 8) else if 0 < r.bs.length then (reqZ0.cells.toList, 9) else (cs, 0)
def prMore (k : Int) (cs : List Value) (r : Rd) : List Value × Int :=
  prEnd k (putAt cs (moreOffs k) (intsV (Rd.ints (moreOffs k).length r).1)) (Rd.ints (moreOffs k).length r).2
def prTexts (k : Int) (cs : List Value) (r : Rd) : List Value × Int :=
  prMore k (putAt cs (textOffs k) (strsV (Rd.strs (textOffs k).length r).1)) (Rd.strs (textOffs k).length r).2
def prNums (k : Int) (cs : List Value) (r : Rd) : List Value × Int :=
  prTexts k (putAt cs (numOffs k) (intsV (Rd.ints (numOffs k).length r).1)) (Rd.ints (numOffs k).length r).2
def prKey (k : Int) (cs : List Value) (r : Rd) : List Value × Int := prNums k (cs.set 1 (.string (strB r.str.1))) r.str.2
def prKind (k : Int) (r : Rd) : List Value × Int :=
  if r.cut = false ∧ kindB k = false then (reqZ0.cells.toList, 3) else prKey k (reqZ0.cells.toList.set 0 (.int .i64 k)) r
def parseReqC (bs : List UInt8) : List Value × Int := prKind (Rd.one ⟨bs, false⟩).1 (Rd.one ⟨bs, false⟩).2
theorem prMore_eq (k : Int) (cs : List Value) (r : Rd) : prMore k cs r = prEnd k (putAt cs (moreOffs k) (intsV (Rd.ints (moreOffs k).length r).1)) (Rd.ints (moreOffs k).length r).2 := rfl
theorem prTexts_eq (k : Int) (cs : List Value) (r : Rd) : prTexts k cs r = prMore k (putAt cs (textOffs k) (strsV (Rd.strs (textOffs k).length r).1)) (Rd.strs (textOffs k).length r).2 := rfl
theorem prNums_eq (k : Int) (cs : List Value) (r : Rd) : prNums k cs r = prTexts k (putAt cs (numOffs k) (intsV (Rd.ints (numOffs k).length r).1)) (Rd.ints (numOffs k).length r).2 := rfl
theorem prKey_eq (k : Int) (cs : List Value) (r : Rd) : prKey k cs r = prNums k (cs.set 1 (.string (strB r.str.1))) r.str.2 := rfl
theorem prKind_eq (k : Int) (r : Rd) : prKind k r = if r.cut = false ∧ kindB k = false then (reqZ0.cells.toList, 3) else prKey k (reqZ0.cells.toList.set 0 (.int .i64 k)) r := rfl
theorem prEnd_eq (k : Int) (cs : List Value) (r : Rd) : prEnd k cs r = if k = 16 ∧ r.cut = false then
    if (parsePlan r.bs).2 ≠ 0 then (reqZ0.cells.toList, (parsePlan r.bs).2) else (putPlan cs (parsePlan r.bs).1, 0)
  else if r.cut = true then (reqZ0.cells.toList, 8) else if 0 < r.bs.length then (reqZ0.cells.toList, 9) else (cs, 0) := rfl
theorem parseReqC_eq (bs : List UInt8) : parseReqC bs = prKind (Rd.one ⟨bs, false⟩).1 (Rd.one ⟨bs, false⟩).2 := rfl

theorem numOffs_ok (k : Int) : (numOffs k).Nodup ∧ (∀ o ∈ numOffs k, 4 ≤ o ∧ o < 20) ∧ (numOffs k).length ≤ 3 := by
  unfold numOffs
  repeat' split
  all_goals refine ⟨by decide, fun o ho => ?_, by decide⟩ <;> simp at ho <;> omega
theorem textOffs_ok (k : Int) : (textOffs k).Nodup ∧ (∀ o ∈ textOffs k, 4 ≤ o ∧ o < 20) ∧ (textOffs k).length ≤ 3 := by
  unfold textOffs
  repeat' split
  all_goals refine ⟨by decide, fun o ho => ?_, by decide⟩ <;> simp at ho <;> omega
theorem moreOffs_ok (k : Int) : (moreOffs k).Nodup ∧ (∀ o ∈ moreOffs k, 4 ≤ o ∧ o < 20) ∧ (moreOffs k).length ≤ 3 := by
  unfold moreOffs
  repeat' split
  all_goals refine ⟨by decide, fun o ho => ?_, by decide⟩ <;> simp at ho <;> omega
/-- Is the place of a request a text? -/
def okAt (j : Nat) (x : Option Value) : Prop := if j = 1 ∨ j = 6 ∨ j = 7 ∨ j = 8 then ∃ s : ByteArray, x = some (.string s) else ∃ n : Int, x = some (.int .i64 n)
theorem okAt_str {j : Nat} {x : Option Value} (h : okAt j x) (hj : j = 1 ∨ j = 6 ∨ j = 7 ∨ j = 8) : ∃ s : ByteArray, x = some (.string s) := by unfold okAt at h; rwa [if_pos hj] at h
theorem okAt_int {j : Nat} {x : Option Value} (h : okAt j x) (hj : ¬ (j = 1 ∨ j = 6 ∨ j = 7 ∨ j = 8)) : ∃ n : Int, x = some (.int .i64 n) := by unfold okAt at h; rwa [if_neg hj] at h
/-- Cells of a request of kind k. -/
structure Good (k : Int) (cs : List Value) : Prop where
  k0 : cs[0]? = some (.int .i64 k)
  ty : ∀ j, j < 18 → okAt j cs[j]?
  len : cs.length = 18
theorem good_put {k : Int} {cs : List Value} {offs : List Nat} {us : List Value} (h : Good k cs) (hnd : offs.Nodup) (ho : ∀ o ∈ offs, 4 ≤ o ∧ o < 20) (hl : us.length = offs.length) (hu : ∀ (i o : Nat), offs[i]? = some o → okAt (o - 2) us[i]?) : Good k (putAt cs offs us) := by
  refine ⟨(putAt_out _ _ _ _ (fun o hm => by have := ho o hm; omega)).trans h.k0, fun j hj => ?_, by rw [putAt_length]; exact h.len⟩
  by_cases hin : j + 2 ∈ offs
  · obtain ⟨i, hi⟩ := List.getElem?_of_mem hin
    have h1 := putAt_in offs us cs hnd hl (fun o hm => by have := ho o hm; rw [h.len]; omega) i (j + 2) hi
    rw [show j + 2 - 2 = j by omega] at h1
    rw [h1]
    have := hu i _ hi
    rwa [show j + 2 - 2 = j by omega] at this
  · rw [putAt_out offs us cs j (fun o hm => ⟨fun e => hin (by rw [← e]; exact hm), by have := ho o hm; omega⟩)]
    exact h.ty j hj
theorem ok_int {offs : List Nat} {l : List Int} (h : ∀ o ∈ offs, o ≠ 3 ∧ o ≠ 8 ∧ o ≠ 9 ∧ o ≠ 10 ∧ 4 ≤ o) (hl : l.length = offs.length) : ∀ (i o : Nat), offs[i]? = some o → okAt (o - 2) (intsV l)[i]? := by
  intro i o hi
  have hm := h o (List.mem_of_getElem? hi)
  have hil : i < l.length := by rw [hl]; exact (List.getElem?_eq_some_iff.1 hi).1
  unfold okAt
  rw [if_neg (by omega)]
  exact ⟨l[i], by simp [intsV, hil]⟩
theorem ok_str {offs : List Nat} {l : List (List UInt8)} (h : ∀ o ∈ offs, o = 8 ∨ o = 9 ∨ o = 10) (hl : l.length = offs.length) : ∀ (i o : Nat), offs[i]? = some o → okAt (o - 2) (strsV l)[i]? := by
  intro i o hi
  have hm := h o (List.mem_of_getElem? hi)
  have hil : i < l.length := by rw [hl]; exact (List.getElem?_eq_some_iff.1 hi).1
  unfold okAt
  rw [if_pos (by omega)]
  exact ⟨strB l[i], by simp [strsV, hil]⟩
theorem good_nums {k : Int} {cs : List Value} (r : Rd) (h : Good k cs) : Good k (putAt cs (numOffs k) (intsV (Rd.ints (numOffs k).length r).1)) := by
  refine good_put h (numOffs_ok k).1 (numOffs_ok k).2.1 (by simp [intsV, Rd.ints_length]) (ok_int ?_ (Rd.ints_length _ _))
  unfold numOffs
  repeat' split
  all_goals (intro o ho; simp at ho <;> omega)
theorem good_more {k : Int} {cs : List Value} (r : Rd) (h : Good k cs) : Good k (putAt cs (moreOffs k) (intsV (Rd.ints (moreOffs k).length r).1)) := by
  refine good_put h (moreOffs_ok k).1 (moreOffs_ok k).2.1 (by simp [intsV, Rd.ints_length]) (ok_int ?_ (Rd.ints_length _ _))
  unfold moreOffs
  repeat' split
  all_goals (intro o ho; simp at ho <;> omega)
theorem good_texts {k : Int} {cs : List Value} (r : Rd) (h : Good k cs) : Good k (putAt cs (textOffs k) (strsV (Rd.strs (textOffs k).length r).1)) := by
  refine good_put h (textOffs_ok k).1 (textOffs_ok k).2.1 (by simp [strsV, Rd.strs_length]) (ok_str ?_ (Rd.strs_length _ _))
  unfold textOffs
  repeat' split
  all_goals (intro o ho; simp at ho <;> omega)
theorem good_init (k : Int) (s : ByteArray) : Good k ((reqZ0.cells.toList.set 0 (.int .i64 k)).set 1 (.string s)) := by
  refine ⟨rfl, fun j hj => ?_, rfl⟩
  have : j = 0 ∨ j = 1 ∨ j = 2 ∨ j = 3 ∨ j = 4 ∨ j = 5 ∨ j = 6 ∨ j = 7 ∨ j = 8 ∨ j = 9 ∨ j = 10 ∨ j = 11 ∨ j = 12 ∨ j = 13 ∨ j = 14 ∨ j = 15 ∨ j = 16 ∨ j = 17 := by omega
  rcases this with rfl | rfl | rfl | rfl | rfl | rfl | rfl | rfl | rfl | rfl | rfl | rfl | rfl | rfl | rfl | rfl | rfl | rfl <;> first
    | (unfold okAt; rw [if_pos (by omega)]; exact ⟨_, rfl⟩)
    | (unfold okAt; rw [if_neg (by omega)]; exact ⟨_, rfl⟩)
theorem good_shape {k : Int} {cs : List Value} (h : Good k cs) : ∃ q : ReqD, cs = q.cells.toList ∧ q.kind = k := by
  have i0 := h.k0
  obtain ⟨x1, i1⟩ := okAt_str (h.ty 1 (by omega)) (by omega)
  obtain ⟨x2, i2⟩ := okAt_int (h.ty 2 (by omega)) (by omega)
  obtain ⟨x3, i3⟩ := okAt_int (h.ty 3 (by omega)) (by omega)
  obtain ⟨x4, i4⟩ := okAt_int (h.ty 4 (by omega)) (by omega)
  obtain ⟨x5, i5⟩ := okAt_int (h.ty 5 (by omega)) (by omega)
  obtain ⟨x6, i6⟩ := okAt_str (h.ty 6 (by omega)) (by omega)
  obtain ⟨x7, i7⟩ := okAt_str (h.ty 7 (by omega)) (by omega)
  obtain ⟨x8, i8⟩ := okAt_str (h.ty 8 (by omega)) (by omega)
  obtain ⟨x9, i9⟩ := okAt_int (h.ty 9 (by omega)) (by omega)
  obtain ⟨x10, i10⟩ := okAt_int (h.ty 10 (by omega)) (by omega)
  obtain ⟨x11, i11⟩ := okAt_int (h.ty 11 (by omega)) (by omega)
  obtain ⟨x12, i12⟩ := okAt_int (h.ty 12 (by omega)) (by omega)
  obtain ⟨x13, i13⟩ := okAt_int (h.ty 13 (by omega)) (by omega)
  obtain ⟨x14, i14⟩ := okAt_int (h.ty 14 (by omega)) (by omega)
  obtain ⟨x15, i15⟩ := okAt_int (h.ty 15 (by omega)) (by omega)
  obtain ⟨x16, i16⟩ := okAt_int (h.ty 16 (by omega)) (by omega)
  obtain ⟨x17, i17⟩ := okAt_int (h.ty 17 (by omega)) (by omega)
  refine ⟨⟨k, x1, x2, x3, x4, x5, x6, x7, ⟨x8, x9, x10, x11, x12, x13, x14, x15, x16, x17⟩⟩, ?_, rfl⟩
  apply List.ext_getElem?
  intro j
  by_cases hj : j < 18
  · have : j = 0 ∨ j = 1 ∨ j = 2 ∨ j = 3 ∨ j = 4 ∨ j = 5 ∨ j = 6 ∨ j = 7 ∨ j = 8 ∨ j = 9 ∨ j = 10 ∨ j = 11 ∨ j = 12 ∨ j = 13 ∨ j = 14 ∨ j = 15 ∨ j = 16 ∨ j = 17 := by omega
    rcases this with rfl | rfl | rfl | rfl | rfl | rfl | rfl | rfl | rfl | rfl | rfl | rfl | rfl | rfl | rfl | rfl | rfl | rfl
    · rw [i0]; rfl
    · rw [i1]; rfl
    · rw [i2]; rfl
    · rw [i3]; rfl
    · rw [i4]; rfl
    · rw [i5]; rfl
    · rw [i6]; rfl
    · rw [i7]; rfl
    · rw [i8]; rfl
    · rw [i9]; rfl
    · rw [i10]; rfl
    · rw [i11]; rfl
    · rw [i12]; rfl
    · rw [i13]; rfl
    · rw [i14]; rfl
    · rw [i15]; rfl
    · rw [i16]; rfl
    · rw [i17]; rfl
  · rw [List.getElem?_eq_none (by rw [h.len]; omega), List.getElem?_eq_none (by show 18 ≤ j; omega)]
theorem putPlan_cells (q : ReqD) (p : PlanD) : putPlan q.cells.toList p = ({ q with plan := p } : ReqD).cells.toList := rfl
end Go.Proofs.Ytehkgcmdndehaaa
