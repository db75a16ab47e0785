/-
  Plain words: what is read without fault is written the same. No program in sight.
-/
import Derived.Test.YtehkgcmdndehaaaAnsM
import Derived.Test.YtehkgcmdndehaaaAnsP
namespace Go.Proofs.Ytehkgcmdndehaaa
set_option linter.unusedSimpArgs false
set_option linter.unusedVariables false
open Go.RowKit

theorem take_dec (r : Rd) (n : Nat) (h : (r.take n).2.cut = false) : r.cut = false ∧ r.bs = (r.take n).1 ++ (r.take n).2.bs := by
  unfold Rd.take at *
  by_cases hc : r.cut = true ∨ r.bs.length < n
  · rw [if_pos hc] at h; cases h
  · simp only [if_neg hc]
    simp only [not_or, Bool.not_eq_true] at hc
    exact ⟨hc.1, (List.take_append_drop n r.bs).symm⟩
theorem byteOf_u8 (x : UInt8) : byteOf (x.toNat : Int) = x := byte_of_nat x _ (by have := x.toNat_lt; omega)
theorem one_dec (r : Rd) (h : r.one.2.cut = false) : r.cut = false ∧ r.bs = byteOf r.one.1 :: r.one.2.bs := by
  have ht := take_dec r 1 h
  have hl := Rd.take_length r 1
  refine ⟨ht.1, ht.2.trans ?_⟩
  unfold Rd.one
  match (r.take 1).1, hl with
  | [x], _ => simp [byteOf_u8]
theorem int_dec (r : Rd) (h : r.int.2.cut = false) : r.cut = false ∧ r.bs = encInt r.int.1 ++ r.int.2.bs := by
  have ht := take_dec r 8 h
  have hl := Rd.take_length r 8
  refine ⟨ht.1, ht.2.trans ?_⟩
  unfold Rd.int
  simp only []
  rw [enc_dec _ hl]
theorem ints_dec : ∀ (n : Nat) (r : Rd), (Rd.ints n r).2.cut = false → r.cut = false ∧ r.bs = encInts (Rd.ints n r).1 ++ (Rd.ints n r).2.bs
  | 0, r, h => ⟨h, rfl⟩
  | n + 1, r, h => by
    have h1 := ints_dec n r.int.2 h
    have h2 := int_dec r h1.1
    refine ⟨h2.1, ?_⟩
    rw [Rd.ints]
    simp only [encInts, List.flatMap_cons]
    rw [List.append_assoc]
    have := h1.2
    rw [encInts] at this
    rw [← this]
    exact h2.2
theorem str_dec (r : Rd) (h : r.str.2.cut = false) : r.cut = false ∧ r.bs = encText (strB r.str.1) ++ r.str.2.bs := by
  have e : r.str = (if (r.one.2.take r.one.1.toNat).2.cut then [] else (r.one.2.take r.one.1.toNat).1, (r.one.2.take r.one.1.toNat).2) := rfl
  have h' : (r.one.2.take r.one.1.toNat).2.cut = false := by rw [e] at h; exact h
  have h2 := take_dec _ _ h'
  have h1 := one_dec r h2.1
  have hl := Rd.take_length r.one.2 r.one.1.toNat
  have e2 : r.str = ((r.one.2.take r.one.1.toNat).1, (r.one.2.take r.one.1.toNat).2) := by rw [e, h']; rfl
  refine ⟨h1.1, ?_⟩
  rw [e2, h1.2]
  have hn : 0 ≤ r.one.1 := by unfold Rd.one; simp only []; omega
  have ht : encText (strB (r.one.2.take r.one.1.toNat).1) = byteOf r.one.1 :: (r.one.2.take r.one.1.toNat).1 := by
    rw [encText, strB_size, hl, strB_toList, Int.toNat_of_nonneg hn]
  rw [ht, List.cons_append, ← h2.2]

theorem three_getD (l : List Int) (h : l.length = 3) : [l.getD 0 0, l.getD 1 0, l.getD 2 0] = l := by
  match l, h with
  | [a, b, c], _ => rfl
theorem eight_nums (bs : List UInt8) (l : List Int) (h : l.length = 8) : (stmtOf bs l).nums = l := by
  match l, h with
  | [a, b, c, d, e, f, g, k], _ => rfl

theorem parse_dec (bs : List UInt8) (h : (parseAns bs).2 = 0) : encAns (parseAns bs).1 = bs := by
  generalize he : Rd.one ⟨bs, false⟩ = e at *
  generalize hl : Rd.ints 3 e.2 = l at *
  generalize hf : l.2.one = f at *
  obtain ⟨f1, fr⟩ := f
  have hll : l.1.length = 3 := by rw [← hl]; exact Rd.ints_length 3 _
  have hf0 : 0 ≤ f1 := by
    have : 0 ≤ l.2.one.1 := by unfold Rd.one; simp only []; omega
    rw [hf] at this
    exact this
  have chain : fr.cut = false → bs = byteOf e.1 :: (encInts l.1 ++ byteOf f1 :: fr.bs) := by
    intro hc
    have h3 := one_dec l.2 (by rw [hf]; exact hc)
    rw [hf] at h3
    have h2 := ints_dec 3 e.2 (by rw [hl]; exact h3.1)
    rw [hl] at h2
    have h1 := one_dec ⟨bs, false⟩ (by rw [he]; exact h2.1)
    rw [he] at h1
    have hb : bs = byteOf e.1 :: e.2.bs := h1.2
    have h3' : l.2.bs = byteOf f1 :: fr.bs := h3.2
    rw [h2.2, h3'] at hb
    exact hb
  by_cases c1 : fr.cut = false ∧ 1 < f1
  · rw [parse_bad bs e l f1 fr he hl hf c1] at h; cases h
  by_cases c2 : f1 = 1
  · subst c2
    have hp := parse_one bs e l fr he hl hf
    rw [hp] at h ⊢
    cases c3 : (Rd.ints 8 fr.str.2).2.cut with
    | true => rw [tail_cut c3] at h; cases h
    | false =>
      by_cases c4 : (stmtOf fr.str.1 (Rd.ints 8 fr.str.2).1).term = 0
      · rw [tail_term c3 rfl c4] at h; cases h
      by_cases c5 : 0 < (Rd.ints 8 fr.str.2).2.bs.length
      · rw [tail_more c3 (fun h => c4 h.2) c5] at h; cases h
      rw [tail_ok c3 (fun h => c4 h.2) c5]
      have h5 := ints_dec 8 fr.str.2 c3
      have h4 := str_dec fr h5.1
      have hnil : (Rd.ints 8 fr.str.2).2.bs = [] := List.eq_nil_of_length_eq_zero (by omega)
      rw [hnil, List.append_nil] at h5
      have hb := chain h4.1
      have e8 := eight_nums fr.str.1 (Rd.ints 8 fr.str.2).1 (Rd.ints_length 8 _)
      have et : encStmt (stmtOf fr.str.1 (Rd.ints 8 fr.str.2).1) = fr.bs := by
        rw [encStmt, e8, h4.2, h5.2]
        rfl
      unfold encAns
      simp only []
      rw [if_neg c4, three_getD _ hll, et, hb]
      rfl
  · have hp := parse_not bs e l f1 fr he hl hf c2 c1
    rw [hp] at h ⊢
    cases c3 : fr.cut with
    | true => rw [tail_cut c3] at h; cases h
    | false =>
      have hf1 : f1 = 0 := by
        have : ¬ 1 < f1 := fun h => c1 ⟨c3, h⟩
        omega
      by_cases c5 : 0 < fr.bs.length
      · rw [tail_more c3 (fun h => c2 h.1) c5] at h; cases h
      rw [tail_ok c3 (fun h => c2 h.1) c5]
      have hnil : fr.bs = [] := List.eq_nil_of_length_eq_zero (by omega)
      have hb := chain c3
      unfold encAns
      simp only []
      rw [if_pos (show stmtZ.term = 0 from rfl), three_getD _ hll, hb, hnil, hf1]
      rfl
end Go.Proofs.Ytehkgcmdndehaaa
