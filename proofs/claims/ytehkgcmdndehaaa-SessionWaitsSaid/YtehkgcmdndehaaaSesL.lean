/-
  The plain law of sessions: no program in sight.
-/
import Derived.Test.YtehkgcmdndehaaaSesK
import Derived.Test.YtehkgcmdndehaaaFrm
namespace Go.Proofs.Ytehkgcmdndehaaa
set_option linter.unusedSimpArgs false
set_option linter.unusedVariables false
open Go.RowKit

theorem frameN_cat (a z : List UInt8) (h : ¬ a.length < 2) : frameN (a ++ z) = frameN a := by
  match a, h with
  | x :: y :: r, _ => rfl
  | [x], h => simp at h
  | [], h => simp at h
theorem feed_cat_n : ∀ (n : Nat) (a z : List UInt8), a.length < n → feedAll (a ++ z) = ((feedAll a).1 ++ (feedSt (feedAll a).2.1 (feedAll a).2.2 z).1, (feedSt (feedAll a).2.1 (feedAll a).2.2 z).2)
  | 0, a, z, h => by omega
  | n + 1, a, z, h => by
    by_cases h1 : a.length < 2
    · rw [feedAll_few a h1]; simp [feedSt]
    have hc := frameN_cat a z h1
    have h1' : ¬ (a ++ z).length < 2 := by rw [List.length_append]; omega
    by_cases h2 : frameN a = 0 ∨ 512 < frameN a
    · rw [feedAll_bad a h1 h2, feedAll_bad (a ++ z) h1' (by rw [hc]; exact h2)]; simp [feedSt]
    by_cases h3 : a.length < 2 + frameN a
    · rw [feedAll_wait a h1 h2 h3]; simp [feedSt]
    rw [feedAll_item a h1 h2 h3, feedAll_item (a ++ z) h1' (by rw [hc]; exact h2) (by rw [hc, List.length_append]; omega), hc]
    have e1 : (a ++ z).drop (2 + frameN a) = a.drop (2 + frameN a) ++ z := List.drop_append_of_le_length (by omega)
    have e2 : ((a ++ z).drop 2).take (frameN a) = (a.drop 2).take (frameN a) := by
      rw [List.drop_append_of_le_length (by omega), List.take_append_of_le_length (by rw [List.length_drop]; omega)]
    rw [e1, e2, feed_cat_n n (a.drop (2 + frameN a)) z (by rw [List.length_drop]; omega)]
    rfl
/-- Bytes behind bytes. -/
theorem feed_cat (a z : List UInt8) : feedAll (a ++ z) = ((feedAll a).1 ++ (feedSt (feedAll a).2.1 (feedAll a).2.2 z).1, (feedSt (feedAll a).2.1 (feedAll a).2.2 z).2) := feed_cat_n _ a z (Nat.lt_succ_self _)
theorem feed_nil : feedAll [] = ([], [], false) := feedAll_few [] (by decide)
/-- One byte more. -/
theorem feed_step (b : List UInt8) (k : Nat) (x : UInt8) (h : b[k]? = some x) : feedAll (b.take (k + 1)) = ((feedAll (b.take k)).1 ++ (feedSt (feedAll (b.take k)).2.1 (feedAll (b.take k)).2.2 [x]).1, (feedSt (feedAll (b.take k)).2.1 (feedAll (b.take k)).2.2 [x]).2) := by
  obtain ⟨hk, h⟩ := List.getElem?_eq_some_iff.1 h
  rw [List.take_succ_eq_append_getElem hk, h]
  exact feed_cat _ _
/-- What waits is not more than what came. -/
theorem feed_le : ∀ (n : Nat) (a : List UInt8), a.length < n → (feedAll a).2.1.length ≤ a.length
  | 0, a, h => by omega
  | n + 1, a, h => by
    by_cases h1 : a.length < 2
    · rw [feedAll_few a h1]; exact Nat.le_refl _
    by_cases h2 : frameN a = 0 ∨ 512 < frameN a
    · rw [feedAll_bad a h1 h2]; simp
    by_cases h3 : a.length < 2 + frameN a
    · rw [feedAll_wait a h1 h2 h3]; exact Nat.le_refl _
    rw [feedAll_item a h1 h2 h3]
    have := feed_le n (a.drop (2 + frameN a)) (by rw [List.length_drop]; omega)
    rw [List.length_drop] at this
    show (feedAll (a.drop (2 + frameN a))).2.1.length ≤ _
    omega
theorem feed_rest_le (a : List UInt8) : (feedAll a).2.1.length ≤ a.length := feed_le _ a (Nat.lt_succ_self _)
theorem feed_many : ∀ (n : Nat) (a : List UInt8), a.length < n → (feedAll a).1.length ≤ a.length
  | 0, a, h => by omega
  | n + 1, a, h => by
    by_cases h1 : a.length < 2
    · rw [feedAll_few a h1]; simp
    by_cases h2 : frameN a = 0 ∨ 512 < frameN a
    · rw [feedAll_bad a h1 h2]; simp; omega
    by_cases h3 : a.length < 2 + frameN a
    · rw [feedAll_wait a h1 h2 h3]; simp
    rw [feedAll_item a h1 h2 h3]
    have := feed_many n (a.drop (2 + frameN a)) (by rw [List.length_drop]; omega)
    rw [List.length_drop] at this
    show (feedAll (a.drop (2 + frameN a))).1.length + 1 ≤ _
    omega
theorem feed_items_le (a : List UInt8) : (feedAll a).1.length ≤ a.length := feed_many _ a (Nat.lt_succ_self _)
theorem feed_brk_n : ∀ (n : Nat) (a : List UInt8), a.length < n → (feedAll a).2.2 = true → (feedAll a).2.1 = []
  | 0, a, h => by omega
  | n + 1, a, h => by
    by_cases h1 : a.length < 2
    · rw [feedAll_few a h1]; intro h; cases h
    by_cases h2 : frameN a = 0 ∨ 512 < frameN a
    · rw [feedAll_bad a h1 h2]; intro _; rfl
    by_cases h3 : a.length < 2 + frameN a
    · rw [feedAll_wait a h1 h2 h3]; intro h; cases h
    rw [feedAll_item a h1 h2 h3]
    exact feed_brk_n n (a.drop (2 + frameN a)) (by rw [List.length_drop]; omega)
theorem byteOf_nat (n : Nat) : (byteOf n).toNat = n % 256 := by have := byteOf_mod n; omega
theorem frameN_frame (zs rest : List UInt8) (h : zs.length ≤ 512) : frameN (frameB zs ++ rest) = zs.length := by
  show (byteOf ((zs.length : Int) / 256)).toNat * 256 + (byteOf (zs.length : Int)).toNat = zs.length
  rw [show (zs.length : Int) / 256 = ((zs.length / 256 : Nat) : Int) by omega, byteOf_nat, byteOf_nat]
  omega
theorem frameB_length (zs : List UInt8) : (frameB zs).length = 2 + zs.length := by simp [frameB]; omega
/-- A whole frame. -/
theorem feed_frame (zs rest : List UInt8) (h0 : 1 ≤ zs.length) (h1 : zs.length ≤ 512) : feedAll (frameB zs ++ rest) = (itemCells (parseReqC zs) :: (feedAll rest).1, (feedAll rest).2) := by
  have hn := frameN_frame zs rest h1
  have hl := frameB_length zs
  rw [feedAll_item (frameB zs ++ rest) (by rw [List.length_append]; omega) (by rw [hn]; omega) (by rw [hn, List.length_append]; omega), hn]
  have e1 : (frameB zs ++ rest).drop (2 + zs.length) = rest := by rw [← hl]; simp
  have e2 : ((frameB zs ++ rest).drop 2).take zs.length = zs := by
    show (zs ++ rest).take zs.length = zs
    simp
  rw [e1, e2]
/-- Frames. -/
theorem feed_frames : ∀ (l : List (List UInt8)) (rest : List UInt8), (∀ zs ∈ l, 1 ≤ zs.length ∧ zs.length ≤ 512) → feedAll (l.flatMap frameB ++ rest) = (l.map (fun zs => itemCells (parseReqC zs)) ++ (feedAll rest).1, (feedAll rest).2)
  | [], rest, _ => rfl
  | zs :: l, rest, h => by
    have hz := h zs List.mem_cons_self
    rw [List.flatMap_cons, List.append_assoc, feed_frame zs _ hz.1 hz.2, feed_frames l rest (fun x hx => h x (List.mem_cons_of_mem _ hx))]
    rfl
/-- A frame that is not whole. -/
theorem feed_part (zs : List UInt8) (k : Nat) (h0 : 1 ≤ zs.length) (h1 : zs.length ≤ 512) (hk : k < 2 + zs.length) : feedAll ((frameB zs).take k) = ([], (frameB zs).take k, false) := by
  have hl := frameB_length zs
  have hlk : ((frameB zs).take k).length = k := by rw [List.length_take]; omega
  by_cases h2 : k < 2
  · exact feedAll_few _ (by omega)
  · have hn : frameN ((frameB zs).take k) = zs.length := by
      have e := frameN_cat ((frameB zs).take k) ((frameB zs).drop k) (by omega)
      rw [List.take_append_drop] at e
      rw [← e]
      have := frameN_frame zs [] h1
      rwa [List.append_nil] at this
    exact feedAll_wait _ (by omega) (by rw [hn]; omega) (by rw [hn]; omega)
/-- The request that shows, of a key. -/
def showQ (key : ByteArray) : ReqD := { reqZ with kind := 5, key := key }
theorem showQ_bytes (key : ByteArray) : (showQ key).bytes = 5 :: encText key := by
  have : (showQ key).bytes = byteOf 5 :: encText key ++ encInts [] ++ encTexts [] ++ encInts [] ++ [] := rfl
  rw [this]
  simp [encInts, encTexts]
  decide
theorem Rd.take_ok (bs : List UInt8) (n : Nat) (h : n ≤ bs.length) : Rd.take ⟨bs, false⟩ n = (bs.take n, ⟨bs.drop n, false⟩) := by
  unfold Rd.take
  rw [if_neg (by simp; omega)]
theorem parse_show (key : ByteArray) (h : key.size ≤ 255) : parseReqC (5 :: encText key) = ((showQ key).cells.toList, 0) := by
  have h1 : Rd.one ⟨5 :: encText key, false⟩ = (5, ⟨encText key, false⟩) := by
    unfold Rd.one; rw [Rd.take_ok _ _ (by simp)]; rfl
  have hb : (byteOf (key.size : Int)).toNat = key.size := by rw [byteOf_nat]; omega
  have h2 : Rd.one ⟨encText key, false⟩ = ((key.size : Int), ⟨key.data.toList, false⟩) := by
    unfold Rd.one; rw [Rd.take_ok _ _ (by rw [encText_length]; omega)]
    show ((((byteOf (key.size : Int)).toNat : Nat) : Int), _) = _
    rw [hb]; rfl
  have hkl : key.data.toList.length = key.size := Array.length_toList
  have h3 : Rd.str ⟨encText key, false⟩ = (key.data.toList, ⟨[], false⟩) := by
    unfold Rd.str
    rw [h2]
    simp only [Int.toNat_natCast]
    rw [Rd.take_ok _ _ (by omega), List.take_of_length_le (Nat.le_of_eq hkl), List.drop_of_length_le (Nat.le_of_eq hkl)]
    rfl
  rw [parseReqC_eq, h1, prKind_eq, if_neg (fun h => absurd (show kindB 5 = false from h.2) (by decide)), prKey_eq, h3, prNums_eq]
  show prTexts 5 _ ⟨[], false⟩ = _
  rw [prTexts_eq]
  show prMore 5 _ ⟨[], false⟩ = _
  rw [prMore_eq]
  show prEnd 5 _ ⟨[], false⟩ = _
  rw [prEnd_eq, if_neg (by decide), if_neg (by decide), if_neg (by decide)]
  rw [show numOffs 5 = [] from rfl, show textOffs 5 = [] from rfl, show moreOffs 5 = [] from rfl, putAt_nil, putAt_nil, putAt_nil, strB_data]
  rfl
theorem showQ_long (key : ByteArray) (h : key.size ≤ 255) : (showQ key).long = false := by
  unfold ReqD.long
  show (longB key || ([] : List ByteArray).any longB) = false
  simp [longB]; omega
end Go.Proofs.Ytehkgcmdndehaaa
