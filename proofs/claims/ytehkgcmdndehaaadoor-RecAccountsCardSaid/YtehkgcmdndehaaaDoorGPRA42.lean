/-
  Plain law of accounts: what was written is read as it was (statements without a term are none); what was read is written as it stood. No program in sight.
-/
import Derived.Test.YtehkgcmdndehaaaDoorGPRA41
import Derived.Test.YtehkgcmdndehaaaDoorGPRA12
namespace Go.Proofs.YtehkgcmdndehaaaDoor
set_option linter.unusedSimpArgs false
set_option linter.unusedVariables false
open Go.RowKit

theorem many_enc {α : Type} (f : Re → α × Re) (enc : α → List UInt8) (g : α → α) : ∀ (xs : List α) (b : List UInt8), (∀ x ∈ xs, ∀ b, f ⟨enc x ++ b, 0⟩ = (g x, ⟨b, 0⟩)) → manyRd f xs.length ⟨xs.flatMap enc ++ b, 0⟩ = (xs.map g, ⟨b, 0⟩)
  | [], b, _ => rfl
  | x :: xs, b, h => by
    rw [List.length_cons, manyRd, if_pos rfl, List.flatMap_cons, List.append_assoc, h x (List.mem_cons_self ..)]
    simp only
    rw [many_enc f enc g xs b (fun y hy => h y (List.mem_cons_of_mem _ hy))]
    rfl
theorem many_dec {α : Type} (f : Re → α × Re) (enc : α → List UInt8) (G : α → Prop) (hf : ∀ r, (f r).2.err = 0 → r.err = 0 ∧ r.bs = enc (f r).1 ++ (f r).2.bs ∧ G (f r).1) : ∀ (n : Nat) (r : Re), (manyRd f n r).2.err = 0 → r.err = 0 ∧ r.bs = (manyRd f n r).1.flatMap enc ++ (manyRd f n r).2.bs ∧ (manyRd f n r).1.length = n ∧ ∀ x ∈ (manyRd f n r).1, G x
  | 0, r, h => ⟨h, by simp [many_zero], rfl, fun _ h => by cases h⟩
  | n + 1, r, h => by
    by_cases he : r.err = 0
    · have e : manyRd f (n + 1) r = ((f r).1 :: (manyRd f n (f r).2).1, (manyRd f n (f r).2).2) := by rw [manyRd, if_pos he]
      rw [e] at h ⊢
      simp only at h ⊢
      obtain ⟨h1, h2, h3, h4⟩ := many_dec f enc G hf n (f r).2 h
      obtain ⟨_, h5, h6⟩ := hf r h1
      refine ⟨he, ?_, by rw [List.length_cons, h3], fun x hx => ?_⟩
      · rw [h5, h2, List.flatMap_cons, List.append_assoc]
      · rcases List.mem_cons.1 hx with rfl | hx
        · exact h6
        · exact h4 x hx
    · have e : manyRd f (n + 1) r = ([], r) := by rw [manyRd, if_neg he]
      rw [e] at h
      exact absurd h he
theorem byte_len (n : Nat) (h : n ≤ 255) : ((byteOf (n : Int)).toNat : Int) = n := by rw [byteOf_mod]; omega
attribute [local irreducible] Re.ints Re.str manyRd
theorem two_getD (l : List Int) (h : l.length = 2) : [l.getD 0 0, l.getD 1 0] = l := by match l, h with | [a, b], _ => rfl
theorem one_getD (l : List Int) (h : l.length = 1) : [l.getD 0 0] = l := by match l, h with | [a], _ => rfl
theorem three_getD' (l : List Int) (h : l.length = 3) : [l.getD 0 0, l.getD 1 0, l.getD 2 0] = l := by match l, h with | [a, b, c], _ => rfl
theorem lotOf_nums (l : List Int) (h : l.length = 9) : (lotOf l).nums = l := by match l, h with | [a, b, c, d, e, f, g, i, j], _ => rfl
/-- Numbers that fit. -/
structure LotFit (l : LotD) : Prop where
  nums : ∀ n ∈ l.nums, I64 n
structure PartFit (p : PartD) : Prop where
  nums : ∀ n ∈ [p.lot, p.n], I64 n
structure HoldFit (h : HoldD) : Prop where
  nums : I64 h.id ∧ I64 h.over ∧ I64 h.till
  parts : ∀ p ∈ h.parts, PartFit p
  len : h.parts.length ≤ 255
structure AnsFit' (a : AnsD) : Prop where
  err : 0 ≤ a.err ∧ a.err ≤ 255
  nums : ∀ n ∈ [a.left, a.over, a.n], I64 n
  stmt : StmtFit a.stmt
structure EntFit (e : EntryD) : Prop where
  id : I64 e.id
  ans : AnsFit' e.ans
structure AccFit (a : AccD) : Prop where
  name : a.name.size ≤ 255
  key : a.key.size ≤ 255
  plan : PlanFit a.plan
  nums : ∀ n ∈ [a.term, a.frm, a.till], I64 n
  lots : ∀ l ∈ a.lots, LotFit l
  next : ∀ n ∈ [a.next, a.over], I64 n
  holds : ∀ h ∈ a.holds, HoldFit h
  win : ∀ e ∈ a.window, EntFit e
  ll : a.lots.length ≤ 255
  lh : a.holds.length ≤ 255
  lw : a.window.length ≤ 255
theorem lotRd_enc (l : LotD) (h : LotFit l) (b : List UInt8) : lotRd ⟨encLot l ++ b, 0⟩ = (l, ⟨b, 0⟩) := by
  have e := reints_enc l.nums b h.nums
  rw [show l.nums.length = 9 from rfl] at e
  unfold lotRd encLot
  simp only [e]
  rfl
theorem partRd_enc (l : PartD) (h : PartFit l) (b : List UInt8) : partRd ⟨encPart l ++ b, 0⟩ = (l, ⟨b, 0⟩) := by
  have e := reints_enc [l.lot, l.n] b h.nums
  rw [show [l.lot, l.n].length = 2 from rfl] at e
  unfold partRd encPart
  simp only [e]
  rfl
theorem holdRd_enc (h : HoldD) (hf : HoldFit h) (b : List UInt8) : holdRd ⟨encHold h ++ b, 0⟩ = (h, ⟨b, 0⟩) := by
  have e1 := reints_enc [h.id] (byteOf h.parts.length :: (encParts h.parts ++ (encInts [h.over, h.till] ++ b))) (by simp; exact hf.nums.1)
  have e2 := reone_enc (byteOf h.parts.length) (encParts h.parts ++ (encInts [h.over, h.till] ++ b))
  have e3 := many_enc partRd encPart id h.parts (encInts [h.over, h.till] ++ b) (fun x hx b => partRd_enc x (hf.parts x hx) b)
  have e4 := reints_enc [h.over, h.till] b (by simp; exact hf.nums.2)
  rw [byte_len _ hf.len] at e2
  rw [show encHold h ++ b = encInts [h.id] ++ (byteOf h.parts.length :: (encParts h.parts ++ (encInts [h.over, h.till] ++ b))) by simp [encHold]]
  unfold holdRd
  simp only [List.length_cons, List.length_nil, Nat.zero_add] at e1 e4
  simp only [e1, e2]
  rw [show ((h.parts.length : Nat) : Int).toNat = h.parts.length by omega]
  unfold encParts
  simp only [e3, List.map_id, e4]
  rfl
theorem ansRd_enc (a : AnsD) (h : AnsFit' a) (b : List UInt8) : ansRd ⟨encAns a ++ b, 0⟩ = (if a.stmt.term = 0 then { a with stmt := stmtNone } else a, ⟨b, 0⟩) := by
  have hb : ((byteOf a.err).toNat : Int) = a.err := by rw [byteOf_mod]; have := h.err; omega
  unfold ansRd encAns
  rw [List.cons_append, List.cons_append, reone_enc, hb, List.append_assoc]
  simp only
  have e1 := reints_enc [a.left, a.over, a.n] ((if a.stmt.term = 0 then [0] else 1 :: encStmt a.stmt) ++ b) h.nums
  rw [show [a.left, a.over, a.n].length = 3 from rfl] at e1
  simp only [e1]
  by_cases ht : a.stmt.term = 0
  · rw [if_pos ht, if_pos ht]
    have e3 := reone_enc 0 b
    unfold tailRd
    simp only [List.singleton_append, e3]
    rfl
  · rw [if_neg ht, if_neg ht]
    have e3 := reone_enc 1 (encStmt a.stmt ++ b)
    unfold tailRd
    simp only [List.cons_append, e3]
    have e4 := stmtRd_enc a.stmt b h.stmt
    simp only [e4]
    rw [if_neg (by decide), if_pos (by decide), if_neg ht]
    rfl
theorem entryRd_enc (e : EntryD) (h : EntFit e) (b : List UInt8) : entryRd ⟨encEntry e ++ b, 0⟩ = (plainE e, ⟨b, 0⟩) := by
  have e1 := reints_enc [e.id] (encAns e.ans ++ b) (by simp; exact h.id)
  unfold entryRd encEntry
  rw [List.append_assoc]
  simp only [List.length_cons, List.length_nil, Nat.zero_add] at e1
  simp only [e1, ansRd_enc e.ans h.ans b]
  unfold plainE
  split <;> rfl
theorem lens_enc {α : Type} (f : Re → α × Re) (enc : α → List UInt8) (g : α → α) (xs : List α) (b : List UInt8) (hl : xs.length ≤ 255) (h : ∀ x ∈ xs, ∀ b, f ⟨enc x ++ b, 0⟩ = (g x, ⟨b, 0⟩)) :
    manyRd f (Re.one ⟨byteOf xs.length :: (xs.flatMap enc ++ b), 0⟩).1.toNat (Re.one ⟨byteOf xs.length :: (xs.flatMap enc ++ b), 0⟩).2 = (xs.map g, ⟨b, 0⟩) := by
  rw [reone_enc, byte_len _ hl]
  simp only
  rw [show ((xs.length : Nat) : Int).toNat = xs.length by omega]
  exact many_enc f enc g xs b h
theorem accRd_enc (a : AccD) (h : AccFit a) : accRd ⟨encAcc a, 0⟩ = (plainA a, ⟨[], 0⟩) := by
  have e5 := lens_enc entryRd encEntry plainE a.window [] h.lw (fun x hx b => entryRd_enc x (h.win x hx) b)
  have e4 := lens_enc holdRd encHold id a.holds (byteOf a.window.length :: (a.window.flatMap encEntry ++ [])) h.lh (fun x hx b => holdRd_enc x (h.holds x hx) b)
  have e3 := reints_enc [a.next, a.over] (byteOf a.holds.length :: (a.holds.flatMap encHold ++ (byteOf a.window.length :: (a.window.flatMap encEntry ++ [])))) h.next
  have e2 := lens_enc lotRd encLot id a.lots (encInts [a.next, a.over] ++ (byteOf a.holds.length :: (a.holds.flatMap encHold ++ (byteOf a.window.length :: (a.window.flatMap encEntry ++ []))))) h.ll (fun x hx b => lotRd_enc x (h.lots x hx) b)
  rw [List.map_id] at e2 e4
  have e1 := reints_enc [a.term, a.frm, a.till] (encLists a) h.nums
  simp only [List.length_cons, List.length_nil, Nat.zero_add] at e1 e3
  have e0 : encLists a = byteOf a.lots.length :: (a.lots.flatMap encLot ++ (encInts [a.next, a.over] ++ (byteOf a.holds.length :: (a.holds.flatMap encHold ++ (byteOf a.window.length :: (a.window.flatMap encEntry ++ [])))))) := by
    simp [encLists, encLots, encHolds, encEntries]
  have ef : fillRd ⟨encLists a, 0⟩ = ((a.lots, a.next, a.over, a.holds, a.window.map plainE), ⟨[], 0⟩) := by
    rw [e0]
    unfold fillRd lotsRd holdsRd winRd
    simp only [e2, e3, e4, e5]
    rfl
  unfold accRd encAcc
  simp only [List.append_assoc]
  rw [restr_enc _ _ h.name]
  simp only
  rw [restr_enc _ _ h.key]
  simp only
  rw [planRd_enc _ _ h.plan]
  simp only [e1, ef, strB_list]
  rfl
theorem parseAcc_enc (a : AccD) (h : AccFit a) : parseAcc (encAcc a) = (plainA a, 0) := by
  rw [parseAcc_eq, accRd_enc a h]
  rfl

/-- What a reader made. -/
theorem lotRd_dec (r : Re) (h : (lotRd r).2.err = 0) : r.err = 0 ∧ r.bs = encLot (lotRd r).1 ++ (lotRd r).2.bs ∧ True := by
  unfold lotRd at *
  simp only at *
  obtain ⟨h1, h2⟩ := reints_dec 9 _ h
  exact ⟨h1, by rw [encLot, lotOf_nums _ (Re.ints_length _ _)]; exact h2, trivial⟩
theorem partRd_dec (r : Re) (h : (partRd r).2.err = 0) : r.err = 0 ∧ r.bs = encPart (partRd r).1 ++ (partRd r).2.bs ∧ True := by
  unfold partRd at *
  simp only at *
  obtain ⟨h1, h2⟩ := reints_dec 2 _ h
  exact ⟨h1, by rw [encPart, two_getD _ (Re.ints_length _ _)]; exact h2, trivial⟩
theorem one_dec_nat (r : Re) (h : r.one.2.err = 0) : r.err = 0 ∧ r.bs = byteOf (r.one.1.toNat : Nat) :: r.one.2.bs := by
  obtain ⟨h1, h2⟩ := reone_dec r h
  exact ⟨h1, by rw [← (reone_cast r).1]; exact h2⟩
theorem holdRd_dec (r : Re) (h : (holdRd r).2.err = 0) : r.err = 0 ∧ r.bs = encHold (holdRd r).1 ++ (holdRd r).2.bs ∧ (holdRd r).1.parts.length ≤ 255 := by
  unfold holdRd at *
  simp only at *
  obtain ⟨h1, h2⟩ := reints_dec 2 _ h
  obtain ⟨h3, h4, h5, _⟩ := many_dec partRd encPart (fun _ => True) partRd_dec _ _ h1
  obtain ⟨h6, h7⟩ := one_dec_nat _ h3
  obtain ⟨h8, h9⟩ := reints_dec 1 _ h6
  refine ⟨h8, ?_, by rw [h5]; exact (reone_cast _).2⟩
  rw [encHold, h5]
  simp only
  rw [one_getD _ (Re.ints_length _ _), two_getD _ (Re.ints_length _ _), encParts]
  rw [h9, h7, h4, h2]
  simp
theorem ansRd_dec (r : Re) (h : (ansRd r).2.err = 0) : r.err = 0 ∧ r.bs = encAns (ansRd r).1 ++ (ansRd r).2.bs ∧ (ansRd r).1.stmt.name.size ≤ 255 := by
  unfold ansRd at *
  simp only at *
  obtain ⟨q, hq⟩ : ∃ q, q = (Re.ints 3 r.one.2).2 := ⟨_, rfl⟩
  rw [← hq] at h ⊢
  have key : q.err = 0 ∧ q.bs = (if (tailRd q).1.term = 0 then [0] else 1 :: encStmt (tailRd q).1) ++ (tailRd q).2.bs ∧ (tailRd q).1.name.size ≤ 255 := by
    unfold tailRd at *
    split at h
    · rename_i h0
      obtain ⟨h1, h2⟩ := reone_dec q h
      simp only [if_pos h0]
      refine ⟨h1, ?_, by show (0 : Nat) ≤ 255; omega⟩
      rw [if_pos (show stmtZ.term = 0 from rfl), h2, h0]
      rfl
    · rename_i h0
      split at h
      · rename_i h1
        simp only at h
        split at h
        · rename_i h2
          unfold Re.fail at h
          split at h
          · simp at h
          · contradiction
        · rename_i h2
          obtain ⟨h3, h4, h5⟩ := stmtRd_dec _ h
          obtain ⟨h6, h7⟩ := reone_dec q h3
          simp only [if_neg h0, if_pos h1, if_neg h2]
          refine ⟨h6, ?_, h5⟩
          rw [h7, h4, h1]
          rfl
      · rename_i h1
        simp only at h
        unfold Re.fail at h
        split at h
        · simp at h
        · contradiction
  obtain ⟨k1, k2, k3⟩ := key
  rw [hq] at k1
  obtain ⟨h1, h2⟩ := reints_dec 3 _ k1
  obtain ⟨h3, h4⟩ := reone_dec r h1
  refine ⟨h3, ?_, k3⟩
  rw [encAns]
  simp only
  rw [three_getD' _ (Re.ints_length _ _), h4, h2, ← hq, k2]
  simp
theorem entryRd_dec (r : Re) (h : (entryRd r).2.err = 0) : r.err = 0 ∧ r.bs = encEntry (entryRd r).1 ++ (entryRd r).2.bs ∧ (entryRd r).1.ans.stmt.name.size ≤ 255 := by
  unfold entryRd at *
  simp only at *
  obtain ⟨h1, h2, h3⟩ := ansRd_dec _ h
  obtain ⟨h4, h5⟩ := reints_dec 1 _ h1
  refine ⟨h4, ?_, h3⟩
  rw [encEntry]
  simp only
  rw [one_getD _ (Re.ints_length _ _), h5, h2, List.append_assoc]
/-- What an account that was read is like. -/
structure AccBack (a : AccD) : Prop where
  ll : a.lots.length ≤ 255
  lh : a.holds.length ≤ 255
  lw : a.window.length ≤ 255
  parts : ∀ h ∈ a.holds, h.parts.length ≤ 255
  names : ∀ e ∈ a.window, e.ans.stmt.name.size ≤ 255
theorem accRd_dec (r : Re) (h : (accRd r).2.err = 0) : r.err = 0 ∧ r.bs = encAcc (accRd r).1 ++ (accRd r).2.bs ∧ AccBack (accRd r).1 := by
  unfold accRd at *
  simp only at *
  obtain ⟨q, hq⟩ : ∃ q, q = (Re.ints 3 (planRd r.str.2.str.2).2).2 := ⟨_, rfl⟩
  rw [← hq] at h ⊢
  unfold fillRd lotsRd holdsRd winRd at *
  simp only at *
  obtain ⟨h1, h2, h3, h4⟩ := many_dec entryRd encEntry (fun e => e.ans.stmt.name.size ≤ 255) entryRd_dec _ _ h
  obtain ⟨h5, h6⟩ := one_dec_nat _ h1
  obtain ⟨h7, h8, h9, h10⟩ := many_dec holdRd encHold (fun e => e.parts.length ≤ 255) holdRd_dec _ _ h5
  obtain ⟨h11, h12⟩ := one_dec_nat _ h7
  obtain ⟨h13, h14⟩ := reints_dec 2 _ h11
  obtain ⟨h15, h16, h17, _⟩ := many_dec lotRd encLot (fun _ => True) lotRd_dec _ _ h13
  obtain ⟨h18, h19⟩ := one_dec_nat _ h15
  rw [hq] at h18
  obtain ⟨h20, h21⟩ := reints_dec 3 _ h18
  obtain ⟨h22, h23, _⟩ := planRd_dec _ h20
  obtain ⟨h24, h25, _⟩ := restr_dec _ h22
  obtain ⟨h26, h27, _⟩ := restr_dec _ h24
  refine ⟨h26, ?_, ⟨by rw [h17]; exact (reone_cast _).2, by rw [h9]; exact (reone_cast _).2, by rw [h3]; exact (reone_cast _).2, h10, h4⟩⟩
  rw [encAcc, encLists, encLots, encHolds, encEntries]
  simp only
  rw [h17, h9, h3, three_getD' _ (Re.ints_length _ _), two_getD _ (Re.ints_length _ _)]
  rw [h27, h25, h23, h21, ← hq, h19, h16, h14, h12, h8, h6, h2]
  simp
theorem parseAcc_dec (bs : List UInt8) (h : (parseAcc bs).2 = 0) : encAcc (parseAcc bs).1 = bs ∧ AccBack (parseAcc bs).1 := by
  rw [parseAcc_eq] at *
  split at h
  · exact absurd h ‹_›
  · rename_i hz
    rw [if_neg hz]
    obtain ⟨h1, h2⟩ := planEnd_zero (Decidable.not_not.1 hz)
    obtain ⟨h3, h4, h5⟩ := accRd_dec _ h1
    rw [h2, List.append_nil] at h4
    exact ⟨h4.symm, h5⟩
end Go.Proofs.YtehkgcmdndehaaaDoor

