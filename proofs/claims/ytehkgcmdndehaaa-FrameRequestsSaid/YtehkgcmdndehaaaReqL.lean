/-
  The plain law of requests: what is written is read, what is read is written. No program in sight.
-/
import Derived.Test.YtehkgcmdndehaaaSame
import Derived.Test.YtehkgcmdndehaaaReqP
import Derived.Test.YtehkgcmdndehaaaAnsL
import Derived.Test.YtehkgcmdndehaaaOpenReq
namespace Go.Proofs.Ytehkgcmdndehaaa
set_option linter.unusedSimpArgs false
set_option linter.unusedVariables false
open Go.RowKit

theorem i64_of {n : Int} (h : (Lit.int .i64 n).wf = true) : I64 n := by have := bounds_i64 h; exact ⟨this.1, by omega⟩
theorem strs_enc : ∀ (ss : List ByteArray) (b : List UInt8), ss.any longB = false → Rd.strs ss.length ⟨encTexts ss ++ b, false⟩ = (ss.map (fun s => s.data.toList), ⟨b, false⟩)
  | [], b, _ => rfl
  | s :: r, b, h => by
    simp only [List.any_cons, Bool.or_eq_false_iff] at h
    have hs : s.size ≤ 255 := by have := h.1; simp [longB] at this; omega
    have e : encTexts (s :: r) ++ b = encText s ++ (encTexts r ++ b) := by simp [encTexts]
    rw [e, List.length_cons, Rd.strs, str_enc s _ hs]
    simp only [strs_enc r b h.2]
    rfl
theorem strsV_map (ss : List ByteArray) : strsV (ss.map (fun s => s.data.toList)) = ss.map Value.string := by
  unfold strsV
  rw [List.map_map]
  apply List.map_congr_left
  intro s _
  show Value.string (strB s.data.toList) = _
  rw [strB_data]
theorem plan_of (p : PlanD) : planOf p.name.data.toList p.nums = p := by
  unfold planOf
  rw [strB_data]
  rfl
/-- rec's reading of a plan's bytes. -/
theorem parse_plan_enc (p : PlanD) (hn : ∀ n ∈ p.nums, I64 n) (hs : p.name.size ≤ 255) : parsePlan (encPlan p) = (p, 0) := by
  have e : (⟨encPlan p, 0⟩ : Re) = reOf ⟨encPlan p, false⟩ := rfl
  have e1 : Rd.str ⟨encPlan p, false⟩ = (p.name.data.toList, ⟨encInts p.nums, false⟩) := str_enc _ _ hs
  have e2 : Rd.ints 9 ⟨encInts p.nums, false⟩ = (p.nums, ⟨[], false⟩) := by
    have := ints_enc p.nums [] hn
    rwa [List.append_nil] at this
  have e3 : planRd ⟨encPlan p, 0⟩ = (p, reOf ⟨[], false⟩) := by
    rw [e]; unfold planRd; rw [re_str, e1]
    simp only [re_ints, e2, plan_of]
  rw [parsePlan_eq, e3]
  simp [re_end, endE]
/-- A request that fits. -/
def ReqFit (q : ReqD) : Prop := (∀ n ∈ q.nums, I64 n) ∧ (∀ n ∈ q.more, I64 n) ∧ (∀ n ∈ q.plan.nums, I64 n)
theorem fit_of_ok (q : ReqD) (h : ReqOk q) : ReqFit q := by
  obtain ⟨_, _, h2, h3, h4, h5, _, _, _, h9, h10, h11, h12, h13, h14, h15, h16, h17⟩ := h
  have k2 := i64_of h2; have k3 := i64_of h3; have k4 := i64_of h4; have k5 := i64_of h5; have k9 := i64_of h9; have k10 := i64_of h10
  have k11 := i64_of h11; have k12 := i64_of h12; have k13 := i64_of h13; have k14 := i64_of h14; have k15 := i64_of h15; have k16 := i64_of h16; have k17 := i64_of h17
  refine ⟨fun n hn => ?_, fun n hn => ?_, fun n hn => ?_⟩
  · unfold ReqD.nums at hn
    repeat' split at hn
    all_goals
      (simp at hn <;> (rcases hn with rfl | rfl | rfl <;> assumption))
  · unfold ReqD.more at hn
    repeat' split at hn
    all_goals
      (simp at hn <;> (subst hn; assumption))
  · unfold PlanD.nums at hn
    simp at hn
    rcases hn with rfl | rfl | rfl | rfl | rfl | rfl | rfl | rfl | rfl <;> assumption
theorem kind_byte {k : Int} (h : kindB k = true) : ((byteOf k).toNat : Int) = k := by
  rw [byteOf_mod]
  have := kind_ten h
  omega
/-- What was written is read. -/
theorem parse_bytes (q : ReqD) (hk : kindB q.kind = true) (hl : q.long = false) (hf : ReqFit q) : parseReqC q.bytes = ((plainQ q).cells.toList, 0) := by
  obtain ⟨f1, f2, f3⟩ := hf
  have hl' := hl
  unfold ReqD.long at hl'
  simp only [Bool.or_eq_false_iff] at hl'
  have hkey : q.key.size ≤ 255 := by have := hl'.1; simp [longB] at this; omega
  obtain ⟨R, hR⟩ : ∃ R, R = (if q.kind = 16 then encPlan q.plan else []) := ⟨_, rfl⟩
  have eb : q.bytes = byteOf q.kind :: (encText q.key ++ (encInts q.nums ++ (encTexts q.texts ++ (encInts q.more ++ R)))) := by
    rw [hR]; unfold ReqD.bytes; simp only [List.cons_append, List.append_assoc]
  have ht : q.texts.any longB = false := by
    by_cases h16 : q.kind = 16
    · have : q.texts = [] := by unfold ReqD.texts; simp [h16]
      rw [this]; rfl
    · have := hl'.2; rwa [if_neg h16] at this
  rw [parseReqC_eq, eb, one_enc, kind_byte hk]
  simp only []
  rw [prKind_eq, if_neg (by rw [hk]; simp), prKey_eq, str_enc _ _ hkey]
  simp only []
  rw [prNums_eq, (nums_places q).1, ints_enc _ _ f1]
  simp only []
  rw [prTexts_eq, (texts_places q).1, strs_enc _ _ ht]
  simp only []
  rw [prMore_eq, (more_places q).1, ints_enc _ _ f2]
  simp only []
  rw [strsV_map, strB_data]
  rw [← plainC_eq]
  have hC : plainC q = (fun cs => if q.kind = 16 then putPlan cs q.plan else cs) (putAt (putAt (putAt ((reqZ0.cells.toList.set 0 (.int .i64 q.kind)).set 1 (.string q.key)) (numOffs q.kind) (intsV q.nums)) (textOffs q.kind) (q.texts.map Value.string)) (moreOffs q.kind) (intsV q.more)) := by
    unfold plainC; rw [if_pos hk]; rfl
  rw [hC]
  simp only []
  by_cases h16 : q.kind = 16
  · have hn : q.plan.name.size ≤ 255 := by have := hl'.2; simp [h16, longB] at this; omega
    rw [if_pos h16, prEnd_eq, if_pos ⟨h16, rfl⟩, hR, if_pos h16]
    simp only [parse_plan_enc q.plan f3 hn]
    simp
  · rw [if_neg h16, prEnd_end _ _ _ h16, hR, if_neg h16]
    simp [endE]
/-- The plain request has the same bytes, and is the same. -/
theorem plainQ_plain (q : ReqD) : plainQ (plainQ q) = plainQ q := by
  cases hk : kindB q.kind with
  | false =>
    have e : plainQ q = { reqZ0 with kind := q.kind } := by unfold plainQ; rw [if_neg (by rw [hk]; decide)]
    rw [e]
    unfold plainQ
    rw [if_neg (by show ¬ kindB q.kind = true; rw [hk]; decide)]
  | true =>
    obtain ⟨k, key, id, n, ttl, of, name, secret, plan⟩ := q
    rcases kind_ten hk with rfl | rfl | rfl | rfl | rfl | rfl | rfl | rfl | rfl | rfl <;> rfl
theorem eqP_refl (p : PlanD) : eqP p p = true := by simp [eqP]
theorem eqR_refl (q : ReqD) : eqR q q = true := by simp [eqR, eqP_refl]
theorem same_refl (q : ReqD) : sameB q q = true := by rw [← same_eq]; exact eqR_refl _
theorem same_plain (q : ReqD) : sameB (plainQ q) q = true := by rw [← same_eq, plainQ_plain]; exact eqR_refl _

theorem strs_dec : ∀ (n : Nat) (r : Rd), (Rd.strs n r).2.cut = false → r.cut = false ∧ r.bs = encTexts ((Rd.strs n r).1.map strB) ++ (Rd.strs n r).2.bs
  | 0, r, h => ⟨h, rfl⟩
  | n + 1, r, h => by
    have h2 := strs_dec n r.str.2 h
    have h1 := str_dec r h2.1
    refine ⟨h1.1, ?_⟩
    rw [h1.2, h2.2]
    show _ = encTexts (strB r.str.1 :: (Rd.strs n r.str.2).1.map strB) ++ _
    simp [encTexts, Rd.strs]
theorem one_le (r : Rd) : 0 ≤ r.one.1 ∧ r.one.1 ≤ 255 := by
  unfold Rd.one
  have := ((r.take 1).1.getD 0 0).toNat_lt
  simp only []
  omega
theorem str_len (r : Rd) (h : r.str.2.cut = false) : (strB r.str.1).size ≤ 255 := by
  have hb := one_le r
  rw [strB_size]
  unfold Rd.str at h ⊢
  simp only [] at h ⊢
  rw [if_neg (by rw [h]; decide), Rd.take_length]
  omega
theorem strs_len : ∀ (n : Nat) (r : Rd), (Rd.strs n r).2.cut = false → ((Rd.strs n r).1.map strB).any longB = false
  | 0, r, h => rfl
  | n + 1, r, h => by
    have h2 := strs_dec n r.str.2 h
    have h3 := str_len r h2.1
    have h4 := strs_len n r.str.2 h
    show (longB (strB r.str.1) || ((Rd.strs n r.str.2).1.map strB).any longB) = false
    rw [h4, Bool.or_false]
    simp [longB]; omega
theorem endE_zero {r : Rd} (h : endE r = 0) : r.cut = false ∧ r.bs = [] := by
  unfold endE at h
  cases hc : r.cut with
  | true => rw [hc] at h; simp at h
  | false =>
    rw [hc] at h
    simp at h
    exact ⟨rfl, h⟩
theorem nine_nums (bs : List UInt8) (l : List Int) (h : l.length = 9) : (planOf bs l).nums = l := by
  match l, h with
  | [a, b, c, d, e, f, g, k, m], _ => rfl
theorem bytes_kinds (k : Int) (s : List UInt8) (i1 : List Int) (t1 : List (List UInt8)) (m1 : List Int) (hk : kindB k = true) (h16 : ¬ k = 16) (l2 : i1.length = (numOffs k).length) (l3 : t1.length = (textOffs k).length) (l4 : m1.length = (moreOffs k).length)
    (hkey : longB (strB s) = false) (c2 : (t1.map strB).any longB = false) :
    ∃ Q : ReqD, putAt (putAt (putAt ((reqZ0.cells.toList.set 0 (Value.int .i64 k)).set 1 (.string (strB s))) (numOffs k) (intsV i1)) (textOffs k) (strsV t1)) (moreOffs k) (intsV m1) = Q.cells.toList ∧ kindB Q.kind = true ∧ Q.long = false ∧
      Q.bytes = byteOf k :: (encText (strB s) ++ (encInts i1 ++ (encTexts (t1.map strB) ++ (encInts m1 ++ [])))) := by
  rcases kind_ten hk with e | e | e | e | e | e | e | e | e | e
  · subst e
    match i1, t1, m1, l2, l3, l4, c2 with
    | [a, b, c], [], [], _, _, _, c2 =>
      refine ⟨ReqD.mk 1 (strB s) a b c 0 ⟨#[]⟩ ⟨#[]⟩ plan0, rfl, rfl, ?_, ?_⟩
      · show (longB (strB s) || ([] : List ByteArray).any longB) = false
        rw [hkey]; exact c2
      · show byteOf 1 :: encText (strB s) ++ encInts [a, b, c] ++ encTexts [] ++ encInts [] ++ [] = _
        simp
  · subst e
    match i1, t1, m1, l2, l3, l4, c2 with
    | [a, b, c], [], [], _, _, _, c2 =>
      refine ⟨ReqD.mk 2 (strB s) a c 0 b ⟨#[]⟩ ⟨#[]⟩ plan0, rfl, rfl, ?_, ?_⟩
      · show (longB (strB s) || ([] : List ByteArray).any longB) = false
        rw [hkey]; exact c2
      · show byteOf 2 :: encText (strB s) ++ encInts [a, b, c] ++ encTexts [] ++ encInts [] ++ [] = _
        simp
  · subst e
    match i1, t1, m1, l2, l3, l4, c2 with
    | [a, b], [], [], _, _, _, c2 =>
      refine ⟨ReqD.mk 3 (strB s) a 0 0 b ⟨#[]⟩ ⟨#[]⟩ plan0, rfl, rfl, ?_, ?_⟩
      · show (longB (strB s) || ([] : List ByteArray).any longB) = false
        rw [hkey]; exact c2
      · show byteOf 3 :: encText (strB s) ++ encInts [a, b] ++ encTexts [] ++ encInts [] ++ [] = _
        simp
  · subst e
    match i1, t1, m1, l2, l3, l4, c2 with
    | [a, b, c], [], [], _, _, _, c2 =>
      refine ⟨ReqD.mk 4 (strB s) a b c 0 ⟨#[]⟩ ⟨#[]⟩ plan0, rfl, rfl, ?_, ?_⟩
      · show (longB (strB s) || ([] : List ByteArray).any longB) = false
        rw [hkey]; exact c2
      · show byteOf 4 :: encText (strB s) ++ encInts [a, b, c] ++ encTexts [] ++ encInts [] ++ [] = _
        simp
  · subst e
    match i1, t1, m1, l2, l3, l4, c2 with
    | [], [], [], _, _, _, c2 =>
      refine ⟨ReqD.mk 5 (strB s) 0 0 0 0 ⟨#[]⟩ ⟨#[]⟩ plan0, rfl, rfl, ?_, ?_⟩
      · show (longB (strB s) || ([] : List ByteArray).any longB) = false
        rw [hkey]; exact c2
      · show byteOf 5 :: encText (strB s) ++ encInts [] ++ encTexts [] ++ encInts [] ++ [] = _
        simp
  · exact absurd e h16
  · subst e
    match i1, t1, m1, l2, l3, l4, c2 with
    | [], [x, y, z], [g], _, _, _, c2 =>
      refine ⟨ReqD.mk 17 (strB s) 0 0 0 0 (strB x) (strB y) { plan0 with name := strB z, version := g }, rfl, rfl, ?_, ?_⟩
      · show (longB (strB s) || ([strB x, strB y, strB z] : List ByteArray).any longB) = false
        rw [hkey]; exact c2
      · show byteOf 17 :: encText (strB s) ++ encInts [] ++ encTexts [strB x, strB y, strB z] ++ encInts [g] ++ [] = _
        simp
  · subst e
    match i1, t1, m1, l2, l3, l4, c2 with
    | [], [x, y], [g], _, _, _, c2 =>
      refine ⟨ReqD.mk 18 (strB s) 0 0 0 0 (strB x) ⟨#[]⟩ { plan0 with name := strB y, version := g }, rfl, rfl, ?_, ?_⟩
      · show (longB (strB s) || ([strB x, strB y] : List ByteArray).any longB) = false
        rw [hkey]; exact c2
      · show byteOf 18 :: encText (strB s) ++ encInts [] ++ encTexts [strB x, strB y] ++ encInts [g] ++ [] = _
        simp
  · subst e
    match i1, t1, m1, l2, l3, l4, c2 with
    | [a], [], [], _, _, _, c2 =>
      refine ⟨ReqD.mk 19 (strB s) 0 a 0 0 ⟨#[]⟩ ⟨#[]⟩ plan0, rfl, rfl, ?_, ?_⟩
      · show (longB (strB s) || ([] : List ByteArray).any longB) = false
        rw [hkey]; exact c2
      · show byteOf 19 :: encText (strB s) ++ encInts [a] ++ encTexts [] ++ encInts [] ++ [] = _
        simp
  · subst e
    match i1, t1, m1, l2, l3, l4, c2 with
    | [], [x], [g], _, _, _, c2 =>
      refine ⟨ReqD.mk 20 (strB s) 0 g 0 0 (strB x) ⟨#[]⟩ plan0, rfl, rfl, ?_, ?_⟩
      · show (longB (strB s) || ([strB x] : List ByteArray).any longB) = false
        rw [hkey]; exact c2
      · show byteOf 20 :: encText (strB s) ++ encInts [] ++ encTexts [strB x] ++ encInts [g] ++ [] = _
        simp
theorem bytes_plan (s : List UInt8) (ps : List UInt8) (pi : List Int) (hkey : longB (strB s) = false) (hp : longB (strB ps) = false) (l6 : pi.length = 9) :
    kindB 16 = true ∧ (ReqD.mk 16 (strB s) 0 0 0 0 ⟨#[]⟩ ⟨#[]⟩ (planOf ps pi)).long = false ∧ (ReqD.mk 16 (strB s) 0 0 0 0 ⟨#[]⟩ ⟨#[]⟩ (planOf ps pi)).bytes = byteOf 16 :: (encText (strB s) ++ (encText (strB ps) ++ encInts pi)) := by
  refine ⟨by decide, ?_, ?_⟩
  · show (longB (strB s) || [strB ps].any longB) = false
    rw [hkey]
    simp [hp]
  · show byteOf 16 :: encText (strB s) ++ encInts [] ++ encTexts [] ++ encInts [] ++ encPlan (planOf ps pi) = _
    unfold encPlan
    rw [nine_nums _ _ l6]
    simp [encInts, encTexts, planOf]
theorem plan_cells0 (s : List UInt8) : putAt (putAt (putAt ((reqZ0.cells.toList.set 0 (Value.int .i64 16)).set 1 (.string (strB s))) (numOffs 16) (intsV [])) (textOffs 16) (strsV [])) (moreOffs 16) (intsV []) = (ReqD.mk 16 (strB s) 0 0 0 0 ⟨#[]⟩ ⟨#[]⟩ plan0).cells.toList := rfl
theorem no_nums (l : List Int) (h : l.length = (numOffs 16).length) : l = [] := List.eq_nil_of_length_eq_zero h
theorem no_texts (l : List (List UInt8)) (h : l.length = (textOffs 16).length) : l = [] := List.eq_nil_of_length_eq_zero h
theorem no_more (l : List Int) (h : l.length = (moreOffs 16).length) : l = [] := List.eq_nil_of_length_eq_zero h
theorem bytes_16 (b s : List UInt8) (r : Rd)
    (h : (prEnd 16 (putAt (putAt (putAt ((reqZ0.cells.toList.set 0 (Value.int .i64 16)).set 1 (.string (strB s))) (numOffs 16) (intsV [])) (textOffs 16) (strsV [])) (moreOffs 16) (intsV [])) r).2 = 0)
    (hb : r.cut = false → (strB s).size ≤ 255 ∧ b = byteOf 16 :: (encText (strB s) ++ (encInts [] ++ (encTexts ([].map strB) ++ (encInts [] ++ r.bs))))) :
    ∃ Q : ReqD, (prEnd 16 (putAt (putAt (putAt ((reqZ0.cells.toList.set 0 (Value.int .i64 16)).set 1 (.string (strB s))) (numOffs 16) (intsV [])) (textOffs 16) (strsV [])) (moreOffs 16) (intsV [])) r).1 = Q.cells.toList ∧ kindB Q.kind = true ∧ Q.long = false ∧ Q.bytes = b := by
  rw [plan_cells0] at h ⊢
  obtain ⟨ps, hps⟩ : ∃ ps, ps = r.str := ⟨_, rfl⟩
  obtain ⟨pi, hpi⟩ : ∃ pi, pi = Rd.ints 9 ps.2 := ⟨_, rfl⟩
  have d5 := str_dec r
  have s5 := str_len r
  have d6 := ints_dec 9 ps.2
  have l6 := Rd.ints_length 9 ps.2
  rw [← hps] at d5 s5
  rw [← hpi] at d6 l6
  have e := plan_end (ReqD.mk 16 (strB s) 0 0 0 0 ⟨#[]⟩ ⟨#[]⟩ plan0).cells.toList r (ReqD.mk 16 (strB s) 0 0 0 0 ⟨#[]⟩ ⟨#[]⟩ plan0) rfl ps pi hps.symm hpi.symm _ rfl
  rw [e] at h ⊢
  clear hps hpi e
  by_cases hz : endE pi.2 = 0
  · have hz2 := endE_zero hz
    have e6 := d6 hz2.1
    have e5 := d5 e6.1
    obtain ⟨c1, c3⟩ := hb e5.1
    rw [if_pos hz] at h ⊢
    obtain ⟨p1, p2, p3⟩ := bytes_plan s ps.1 pi.1 (by simp [longB]; omega) (by have := s5 e6.1; simp [longB]; omega) l6
    refine ⟨ReqD.mk 16 (strB s) 0 0 0 0 ⟨#[]⟩ ⟨#[]⟩ (planOf ps.1 pi.1), rfl, p1, p2, ?_⟩
    rw [c3, e5.2, e6.2, hz2.2]
    refine p3.trans ?_
    simp [encInts, encTexts]
  · rw [if_neg hz] at h; exact absurd h hz
/-- What was read is written. -/
theorem bytes_parse (b : List UInt8) (h : (parseReqC b).2 = 0) : ∃ Q : ReqD, (parseReqC b).1 = Q.cells.toList ∧ kindB Q.kind = true ∧ Q.long = false ∧ Q.bytes = b := by
  rw [parseReqC_eq] at h ⊢
  have d0 := one_dec ⟨b, false⟩
  generalize Rd.one ⟨b, false⟩ = o at *
  obtain ⟨k, r1⟩ := o
  simp only [] at h d0 ⊢
  rw [prKind_eq] at h ⊢
  by_cases hbad : r1.cut = false ∧ kindB k = false
  · rw [if_pos hbad] at h; cases h
  rw [if_neg hbad] at h ⊢
  rw [prKey_eq, prNums_eq, prTexts_eq, prMore_eq] at h ⊢
  have d1 := str_dec r1
  have s1 := str_len r1
  generalize r1.str = s at *
  have d2 := ints_dec (numOffs k).length s.2
  have l2 := Rd.ints_length (numOffs k).length s.2
  generalize Rd.ints (numOffs k).length s.2 = i at *
  have d3 := strs_dec (textOffs k).length i.2
  have l3 := Rd.strs_length (textOffs k).length i.2
  have s3 := strs_len (textOffs k).length i.2
  generalize Rd.strs (textOffs k).length i.2 = t at *
  have d4 := ints_dec (moreOffs k).length t.2
  have l4 := Rd.ints_length (moreOffs k).length t.2
  generalize Rd.ints (moreOffs k).length t.2 = m at *
  have chain : m.2.cut = false → kindB k = true ∧ (strB s.1).size ≤ 255 ∧ (t.1.map strB).any longB = false ∧ b = byteOf k :: (encText (strB s.1) ++ (encInts i.1 ++ (encTexts (t.1.map strB) ++ (encInts m.1 ++ m.2.bs)))) := fun hc => by
    have e4 := d4 hc
    have e3 := d3 e4.1
    have e2 := d2 e3.1
    have e1 := d1 e2.1
    have e0 := d0 e1.1
    refine ⟨?_, s1 e2.1, s3 e4.1, ?_⟩
    · cases hk : kindB k with
      | true => rfl
      | false => exact absurd ⟨e1.1, hk⟩ hbad
    · rw [← e4.2, ← e3.2, ← e2.2, ← e1.2]
      exact e0.2
  by_cases h16 : k = 16
  · subst h16
    have n0 : i.1 = [] := no_nums _ l2
    have n1 : t.1 = [] := no_texts _ l3
    have n2 : m.1 = [] := no_more _ l4
    rw [n0, n1, n2] at h ⊢
    exact bytes_16 b s.1 m.2 h (fun hc => by
      obtain ⟨_, c1, _, c3⟩ := chain hc
      rw [n0, n1, n2] at c3
      exact ⟨c1, c3⟩)
  · rw [prEnd_end _ _ _ h16] at h ⊢
    by_cases hz : endE m.2 = 0
    · have hz2 := endE_zero hz
      obtain ⟨hk, c1, c2, c3⟩ := chain hz2.1
      rw [if_pos hz] at h ⊢
      rw [hz2.2] at c3
      obtain ⟨Q, q1, q2, q3, q4⟩ := bytes_kinds k s.1 i.1 t.1 m.1 hk h16 l2 l3 l4 (by simp [longB]; omega) c2
      exact ⟨Q, q1, q2, q3, q4.trans c3.symm⟩
    · rw [if_neg hz] at h; exact absurd h hz
end Go.Proofs.Ytehkgcmdndehaaa
namespace Go.Proofs.Ytehkgcmdndehaaa
set_option linter.unusedSimpArgs false
set_option linter.unusedVariables false
open Go.RowKit

set_option maxHeartbeats 3200000 in
set_option maxRecDepth 100000 in
theorem fr_enc_key (q : ReqD) (w : World) (hk : kindB q.kind = true) (hl : longB q.key = true) :
    Calls Try.prog 13 #[q.value] w (EncNo w 5) := by
  have hkey : (255 : Int) < (q.key.size : Int) := by simp [longB] at hl; omega
  clear hl
  unfold ReqD.value
  go_enter Try.func13, Try.ntmps13
  go_upto_region 1 with (fail)
  go_step
  refine wpList_load_row rfl 25 _ rfl w.heap.size rfl 25 _ (0,0) _ (heap_alloc_new _ _) Try.underlying25 (by kernel_rfl) (by kernel_rfl) ?_
  refine wpList_build_at _ rfl 74 _ rfl q.row (by kernel_rfl) ?_
  have h2 : q.row[2]? = some (.int .i64 q.kind) := rfl
  go_wp2_with (go_at_call 33; refine (fr_kind _ _).mono ?_; rintro e w' ⟨rfl, rfl⟩)
  have hB0 := below_alloc2 w (.cells q.cells 25) (.cells q.row 74)
  have hblk := heap_alloc2_new w (.cells q.cells 25) (.cells q.row 74)
  generalize (w.alloc (.cells q.cells 25)).alloc (.cells q.row 74) = W at *
  have hrl : w.heap.size < w.heap.size + 1 := by omega
  generalize w.heap.size + 1 = rb at *
  clear h2
  have HC : Hid (∀ o v, q.row[o]? = some v → W.cell? ⟨rb, o, none⟩ = some v) := fun o v h => by rw [cell_of_row W _ _ _ _ _ hblk]; exact h
  have HF : Hid (∀ o, W.frozen? ⟨rb, o, none⟩ = false) := fun o => frozen_of_row W _ _ _ _ hblk
  have hrW : rb < W.heap.size := (Array.getElem?_eq_some_iff.1 hblk).1
  clear hblk
  have h2 : W.cell? ⟨rb, 2, none⟩ = some (.int .i64 q.kind) := HC.out 2 _ rfl
  have h3 : W.cell? ⟨rb, 3, none⟩ = some (.string q.key) := HC.out 3 _ rfl
  refine (fr_texts rb q.kind W h2).mono ?_
  rintro e w1 ⟨ao, rfl, hB1, hP1⟩
  have hsz1 := hB1.size
  have h2' := (hB1.cell (p := ⟨rb, 2, none⟩) hrW).trans h2
  have h3' := (hB1.cell (p := ⟨rb, 3, none⟩) hrW).trans h3
  have hrw1 : rb < w1.heap.size := by omega
  have hne1 : w1.heap.size ≠ rb := by omega
  have BB : Hid (Below w.heap.size w w1) := Lib.hid (hB0.trans (hB1.mono hB0.size))
  clear h2 h3 hP1 HC HF
  by_cases h16 : q.kind = 16
  · have hke : (q.kind == 16) = true := by simp [h16]
    clear h16
    go_wp2
    go_ret2
    exact ⟨rfl, BB.out.trans ((below_alloc _ _).mono BB.out.size)⟩
  · have hke : (q.kind == 16) = false := by simp [h16]
    clear h16
    go_wp2
    go_ret2
    exact ⟨rfl, BB.out⟩

set_option maxHeartbeats 3200000 in
set_option maxRecDepth 100000 in
theorem fr_enc_texts (q : ReqD) (w : World) (hk : kindB q.kind = true) (h16 : ¬ q.kind = 16) (hl : longB q.key = false) (ht : q.texts.any longB = true) :
    Calls Try.prog 13 #[q.value] w (EncNo w 5) := by
  have hkey : ¬ (255 : Int) < (q.key.size : Int) := by simp [longB] at hl; omega
  have HT : Hid (q.texts.any longB = true) := Lib.hid ht
  clear hl ht
  unfold ReqD.value
  go_enter Try.func13, Try.ntmps13
  go_upto_region 1 with (fail)
  go_step
  refine wpList_load_row rfl 25 _ rfl w.heap.size rfl 25 _ (0,0) _ (heap_alloc_new _ _) Try.underlying25 (by kernel_rfl) (by kernel_rfl) ?_
  refine wpList_build_at _ rfl 74 _ rfl q.row (by kernel_rfl) ?_
  have h2 : q.row[2]? = some (.int .i64 q.kind) := rfl
  go_wp2_with (go_at_call 33; refine (fr_kind _ _).mono ?_; rintro e w' ⟨rfl, rfl⟩)
  have hB0 := below_alloc2 w (.cells q.cells 25) (.cells q.row 74)
  have hblk := heap_alloc2_new w (.cells q.cells 25) (.cells q.row 74)
  generalize (w.alloc (.cells q.cells 25)).alloc (.cells q.row 74) = W at *
  have hrl : w.heap.size < w.heap.size + 1 := by omega
  generalize w.heap.size + 1 = rb at *
  clear h2
  have HC : Hid (∀ o v, q.row[o]? = some v → W.cell? ⟨rb, o, none⟩ = some v) := fun o v h => by rw [cell_of_row W _ _ _ _ _ hblk]; exact h
  have HF : Hid (∀ o, W.frozen? ⟨rb, o, none⟩ = false) := fun o => frozen_of_row W _ _ _ _ hblk
  have hrW : rb < W.heap.size := (Array.getElem?_eq_some_iff.1 hblk).1
  clear hblk
  have h2 : W.cell? ⟨rb, 2, none⟩ = some (.int .i64 q.kind) := HC.out 2 _ rfl
  have h3 : W.cell? ⟨rb, 3, none⟩ = some (.string q.key) := HC.out 3 _ rfl
  refine (fr_texts rb q.kind W h2).mono ?_
  rintro e w1 ⟨ao, rfl, hB1, hP1⟩
  have TP := texts_places q
  have hTL : (textOffs q.kind).length = q.texts.length := TP.1
  have HTx : Hid (TextsAt w1 ao q.texts) := Lib.hid (fun k s hs => by
    obtain ⟨o, ho⟩ : ∃ o, (textOffs q.kind)[k]? = some o := ⟨_, List.getElem?_eq_getElem (by rw [hTL]; exact (List.getElem?_eq_some_iff.1 hs).1)⟩
    obtain ⟨nb, h1, h3, h4, h5⟩ := hP1 k o ho
    exact ⟨nb, _, h1, h5, (hB1.cell (p := ⟨rb, o, none⟩) hrW).trans (HC.out o _ (TP.2 k o s ho hs).1)⟩)
  have HP1 := Lib.hid (And.intro TP hP1)
  rw [hTL]
  clear TP hP1 hTL
  have hsz1 := hB1.size
  have h2' := (hB1.cell (p := ⟨rb, 2, none⟩) hrW).trans h2
  have h3' := (hB1.cell (p := ⟨rb, 3, none⟩) hrW).trans h3
  have hr0 : RowAt w1 rb (.slice none 0 0) [] := ⟨(hB1.cell (p := ⟨rb, 0, none⟩) hrW).trans (show W.cell? _ = some (.slice none 0 0) from HC.out 0 _ rfl), (hB1.frozen (p := ⟨rb, 0, none⟩) hrW).trans (HF.out 0), World.ownsRow_nil _ _ _ _⟩
  have HR0 := Lib.hid hr0
  clear hr0 h2 h3
  have BB : Hid (Below w.heap.size w w1) := Lib.hid (hB0.trans (hB1.mono hB0.size))
  go_wp2_with fail
  refine (fr_contains ao q.texts q.texts.length w1 (by have := texts_short q; omega) HTx.out).mono ?_
  rintro e w' ⟨rfl, rfl⟩
  rw [HT.out]
  go_wp2
  go_ret2
  exact ⟨rfl, BB.out⟩

set_option maxHeartbeats 3200000 in
set_option maxRecDepth 100000 in
theorem fr_enc_name (q : ReqD) (w : World) (hk : kindB q.kind = true) (h16 : q.kind = 16) (hl : longB q.key = false) (ht : [q.plan.name].any longB = true) :
    Calls Try.prog 13 #[q.value] w (EncNo w 5) := by
  have hkey : ¬ (255 : Int) < (q.key.size : Int) := by simp [longB] at hl; omega
  have HTP : Hid ([q.plan.name].any longB = true) := Lib.hid ht
  have H16 := Lib.hid h16
  have hke : (q.kind == 16) = true := by simp [h16]
  clear hl ht h16
  unfold ReqD.value
  go_enter Try.func13, Try.ntmps13
  go_upto_region 1 with (fail)
  go_step
  refine wpList_load_row rfl 25 _ rfl w.heap.size rfl 25 _ (0,0) _ (heap_alloc_new _ _) Try.underlying25 (by kernel_rfl) (by kernel_rfl) ?_
  refine wpList_build_at _ rfl 74 _ rfl q.row (by kernel_rfl) ?_
  have h2 : q.row[2]? = some (.int .i64 q.kind) := rfl
  go_wp2_with (go_at_call 33; refine (fr_kind _ _).mono ?_; rintro e w' ⟨rfl, rfl⟩)
  have hB0 := below_alloc2 w (.cells q.cells 25) (.cells q.row 74)
  have hblk := heap_alloc2_new w (.cells q.cells 25) (.cells q.row 74)
  generalize (w.alloc (.cells q.cells 25)).alloc (.cells q.row 74) = W at *
  have hrl : w.heap.size < w.heap.size + 1 := by omega
  generalize w.heap.size + 1 = rb at *
  clear h2
  have HC : Hid (∀ o v, q.row[o]? = some v → W.cell? ⟨rb, o, none⟩ = some v) := fun o v h => by rw [cell_of_row W _ _ _ _ _ hblk]; exact h
  have HF : Hid (∀ o, W.frozen? ⟨rb, o, none⟩ = false) := fun o => frozen_of_row W _ _ _ _ hblk
  have hrW : rb < W.heap.size := (Array.getElem?_eq_some_iff.1 hblk).1
  clear hblk
  have h2 : W.cell? ⟨rb, 2, none⟩ = some (.int .i64 q.kind) := HC.out 2 _ rfl
  have h3 : W.cell? ⟨rb, 3, none⟩ = some (.string q.key) := HC.out 3 _ rfl
  refine (fr_texts rb q.kind W h2).mono ?_
  rintro e w1 ⟨ao, rfl, hB1, hP1⟩
  clear hP1
  have hsz1 := hB1.size
  have h2' := (hB1.cell (p := ⟨rb, 2, none⟩) hrW).trans h2
  have h3' := (hB1.cell (p := ⟨rb, 3, none⟩) hrW).trans h3
  have hr0 : RowAt w1 rb (.slice none 0 0) [] := ⟨(hB1.cell (p := ⟨rb, 0, none⟩) hrW).trans (show W.cell? _ = some (.slice none 0 0) from HC.out 0 _ rfl), (hB1.frozen (p := ⟨rb, 0, none⟩) hrW).trans (HF.out 0), World.ownsRow_nil _ _ _ _⟩
  have HR0 := Lib.hid hr0
  clear hr0 h2 h3
  have hrw0 : rb < w1.heap.size := by omega
  have hne0 : w1.heap.size ≠ rb := by omega
  go_wp2_with fail
  have HTx : TextsAt (w1.alloc (.cells #[.pointer (some ⟨rb, 10, none⟩)] 78)) (some ⟨w1.heap.size, 0, none⟩) [q.plan.name] := fun k s hs => by
    match k, hs with
    | 0, hs =>
      cases hs
      exact ⟨w1.heap.size, ⟨rb, 10, none⟩, rfl, by rw [World.cell?_alloc_at _ _ _ _ rfl]; rfl, by rw [World.cell?_alloc_past _ _ _ (by show rb < _; omega)]; exact (hB1.cell (p := ⟨rb, 10, none⟩) hrW).trans (show W.cell? _ = some (.string q.plan.name) from HC.out 10 _ rfl)⟩
    | _ + 1, hs => simp at hs
  refine (fr_contains (some ⟨w1.heap.size, 0, none⟩) [q.plan.name] 1 _ (by simp) HTx).mono ?_
  rintro e w' ⟨rfl, rfl⟩
  clear HTx
  rw [HTP.out]
  have BB : Hid (Below w.heap.size w (w1.alloc (.cells #[.pointer (some ⟨rb, 10, none⟩)] 78))) := Lib.hid ((hB0.trans (hB1.mono hB0.size)).trans ((below_alloc _ _).mono (by have := hB0.size; omega)))
  go_wp2
  go_ret2
  exact ⟨rfl, BB.out⟩
/-- EncodeRequest of frame, at every request. -/
def FrEncPost (w : World) (q : ReqD) (e : Ending) (w' : World) : Prop := if kindB q.kind = false then EncNo w 3 e w' else if q.long = true then EncNo w 5 e w' else EncOk w q.bytes e w'
theorem fr_enc (q : ReqD) (w : World) : Calls Try.prog 13 #[q.value] w (FrEncPost w q) := by
  cases hk : kindB q.kind with
  | false => exact (fr_enc_bad q w hk).mono fun e w' h => by unfold FrEncPost; rw [if_pos hk]; exact h
  | true =>
    cases hl : q.long with
    | true =>
      have : Calls Try.prog 13 #[q.value] w (EncNo w 5) := by
        unfold ReqD.long at hl
        cases hkl : longB q.key with
        | true => exact fr_enc_key q w hk hkl
        | false =>
          rw [hkl, Bool.false_or] at hl
          by_cases h16 : q.kind = 16
          · rw [if_pos h16] at hl; exact fr_enc_name q w hk h16 hkl hl
          · rw [if_neg h16] at hl; exact fr_enc_texts q w hk h16 hkl hl
      exact this.mono fun e w' h => by unfold FrEncPost; rw [if_neg (by rw [hk]; decide), if_pos hl]; exact h
    | false =>
      have : Calls Try.prog 13 #[q.value] w (EncOk w q.bytes) := by
        by_cases h16 : q.kind = 16
        · exact fr_enc_plan q w hk h16 hl
        · exact fr_enc_ok q w hk h16 hl
      exact this.mono fun e w' h => by unfold FrEncPost; rw [if_neg (by rw [hk]; decide), if_neg (by rw [hl]; decide)]; exact h
end Go.Proofs.Ytehkgcmdndehaaa
