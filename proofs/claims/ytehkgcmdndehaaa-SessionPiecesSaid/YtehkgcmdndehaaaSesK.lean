/-
  A session's calls: New, Broken, Waits, Feed whether broken or not.
-/
/-
  The plain law of sessions: no program in sight.
-/
/-
  Chapter 19's example: a frame in two pieces.
-/
import Derived.Test.YtehkgcmdndehaaaFeed
import Derived.Test.YtehkgcmdndehaaaFrm
import Derived.Test.YtehkgcmdndehaaaOpenB
namespace Go.Proofs.Ytehkgcmdndehaaa
set_option linter.unusedSimpArgs false
set_option linter.unusedVariables false
open Go.RowKit
attribute [local irreducible] feedAll feedL parseReqC itemCells frameN

def NewPost (w : World) (e : Ending) (w' : World) : Prop := e = .returned (.pointer (some ⟨w.heap.size, 0, none⟩)) ∧ SesAt w' w.heap.size 0 (.slice none 0 0) [] false ∧ Below w.heap.size w w'
set_option maxHeartbeats 400000 in
set_option maxRecDepth 100000 in
theorem ses_new (w : World) : Calls Try.prog 23 #[] w (NewPost w) := by
  go_enter Try.func23, Try.ntmps23
  go_upto_region 1 with (fail)
  go_step
  refine wpList_build_at _ rfl 112 _ rfl #[.int .u32 0, .int .i32 0, .int .u32 0, .slice none 0 0, .bool false] (by kernel_rfl) ?_
  have hblk := heap_alloc_new w (.cells #[.int .u32 0, .int .i32 0, .int .u32 0, .slice none 0 0, .bool false] 112)
  have F : Hid (NewPost w (.returned (.pointer (some ⟨w.heap.size, 0, none⟩))) (w.alloc (.cells #[.int .u32 0, .int .i32 0, .int .u32 0, .slice none 0 0, .bool false] 112))) := Lib.hid
    ⟨rfl, ⟨by rw [cell_of_row _ _ _ _ _ _ hblk]; rfl, by rw [cell_of_row _ _ _ _ _ _ hblk]; rfl, by rw [cell_of_row _ _ _ _ _ _ hblk]; rfl, by rw [cell_of_row _ _ _ _ _ _ hblk]; rfl, fun o => frozen_of_row _ _ _ _ _ hblk, by simp, OwnB.nil _ _⟩, below_alloc _ _⟩
  clear hblk
  go_wp2
  go_ret
  exact F.out

set_option maxHeartbeats 400000 in
set_option maxRecDepth 100000 in
theorem ses_broken {w : World} {b : Nat} {d : Int} {v : Value} {bs : List UInt8} {brk : Bool} (h : SesAt w b d v bs brk) :
    Calls Try.prog 25 #[.pointer (some ⟨b, 0, none⟩)] w fun e w' => e = .returned (.bool brk) ∧ w = w' := by
  have c4 := h.c4
  clear h
  go_enter Try.func25, Try.ntmps25
  go_wp2
  go_ret
  exact ⟨rfl, rfl⟩
set_option maxHeartbeats 400000 in
set_option maxRecDepth 100000 in
theorem ses_waits {w : World} {b : Nat} {d : Int} {v : Value} {bs : List UInt8} {brk : Bool} (h : SesAt w b d v bs brk) :
    Calls Try.prog 26 #[.pointer (some ⟨b, 0, none⟩)] w fun e w' => e = .returned (.int .i64 bs.length) ∧ w = w' := by
  obtain ⟨a, c, rfl⟩ := (Reads.of_own h.own).len
  have c3 := h.c3
  clear h
  go_enter Try.func26, Try.ntmps26
  go_wp2
  go_ret
  exact ⟨rfl, rfl⟩

/-- What a session answers to bytes zs. -/
def feedSt (bs : List UInt8) (brk : Bool) (zs : List UInt8) : List (List Value) × List UInt8 × Bool := if brk = true then ([], bs, true) else feedAll (bs ++ zs)
theorem feedSt_ok (bs zs : List UInt8) : feedSt bs false zs = feedAll (bs ++ zs) := rfl
theorem feedSt_brk (bs zs : List UInt8) : feedSt bs true zs = ([], bs, true) := rfl
set_option maxHeartbeats 1600000 in
set_option maxRecDepth 100000 in
theorem ses_feed_broken (b : Nat) (v : Value) (bs : List UInt8) (a : Option Addr) (n c : Nat) (W : World) (h : SesAt W b 1 v bs true) :
    Calls Try.prog 24 #[.pointer (some ⟨b, 0, none⟩), .slice a n c] W (FeedPost W b v [] bs true) := by
  have hmf : ∀ (fn : Fn) (first cap : Array Value) (w : World), (Instr.makeFunc fn first cap).run Try.prog w = .ok (.func fn first cap) w := fun _ _ _ _ => rfl
  have H := Lib.hid h
  clear h
  go_enter Try.func24, Try.ntmps24
  go_upto_region 1 with (fail)
  have hBa := below_alloc W (.cells #[.pointer (some ⟨b, 0, none⟩)] 50)
  have hp0 : (W.alloc (.cells #[.pointer (some ⟨b, 0, none⟩)] 50)).cell? ⟨W.heap.size, 0, none⟩ = some (.pointer (some ⟨b, 0, none⟩)) := by rw [World.cell?_alloc_at _ _ _ _ rfl]; rfl
  generalize W.alloc (.cells #[.pointer (some ⟨b, 0, none⟩)] 50) = W0 at *
  have X0 : Hid (SesAt W0 b 1 v bs true ∧ Below W.heap.size W W0 ∧ W.heap.size ≠ b ∧ v.ownBlock ≠ some W.heap.size ∧ W.heap.size < W0.heap.size) := Lib.hid ⟨H.out.on hBa, hBa, by have := H.out.lt; omega, fun e => by have := H.out.own.lt _ e; omega, World.block_lt_of_cell? W0 _ hp0⟩
  have P0 := Lib.hid hp0
  clear hBa
  generalize hpl : W.heap.size = pl at *
  have HPL := Lib.hid hpl
  clear hpl
  go_upto_region 2 with (go_at_call 51; refine (ses_once ⟨pl, 0, none⟩ X0.out.1 (.inl rfl) P0.out X0.out.2.2.1).mono ?_; rintro e w1 ⟨v1, rfl, hs, hf⟩; have X1 := Lib.hid (And.intro hs hf); clear hs hf)
  have k0 : w1.cell? ⟨pl, 0, none⟩ = some (.pointer (some ⟨b, 0, none⟩)) := (X1.out.2.cell (a := ⟨pl, 0, none⟩) X0.out.2.2.2.2 X0.out.2.2.1 X0.out.2.2.2.1).trans P0.out
  have c4 := X1.out.1.c4
  have F : Hid (FeedPost W b v [] bs true (.returned (.slice none 0 0)) w1) := Lib.hid ⟨v1, _, rfl, X1.out.1, (Fed.of_below (by rw [HPL.out]; exact X0.out.2.1)).trans X1.out.2, World.ownsRow_nil _ _ _ _⟩
  clear hp0
  go_wp2
  go_ret
  exact F.out
theorem ses_feed2 (b : Nat) (d : Int) (v : Value) (bs : List UInt8) (brk : Bool) (vb : Value) (zs : List UInt8) (W : World) (h : SesAt W b d v bs brk) (hd : d = 1 ∨ (d = 0 ∧ v = .slice none 0 0 ∧ bs = [] ∧ brk = false)) (hz : Reads W vb zs) (hvb : vb.ownBlock ≠ some b ∧ ∀ k, vb.ownBlock = some k → v.ownBlock ≠ some k) (hl : (bs ++ zs).length ≤ 1000000) :
    Calls Try.prog 24 #[.pointer (some ⟨b, 0, none⟩), vb] W (FeedPost W b v (feedSt bs brk zs).1 (feedSt bs brk zs).2.1 (feedSt bs brk zs).2.2) := by
  cases brk with
  | true =>
    have hd1 : d = 1 := by rcases hd with h | h; (· exact h); · cases h.2.2.2
    subst hd1
    obtain ⟨a, c, rfl⟩ := hz.len
    exact ses_feed_broken b v bs a _ c W h
  | false => exact ses_feed b d v bs vb zs W h (hd.imp id fun h => ⟨h.1, h.2.1, h.2.2.1⟩) hz hvb hl
/-- A session's block and bytes lie from block b on. -/
theorem Fed.below {w w' : World} {b : Nat} {v v' : Value} {d : Int} {bs : List UInt8} {brk : Bool} (h : Fed w w' b v v') (hs : SesAt w b d v bs brk) : Below b w w' :=
  ⟨h.os, h.tape, h.output, h.size, fun k hk => h.block k (by have := hs.lt; omega) (by omega) (fun e => by have := hs.own.lt k e; omega)⟩
theorem Fed.other {w w' : World} {b : Nat} {v v' : Value} (h : Fed w w' b v v') {k : Nat} (hk : k < w.heap.size) (hv : v.ownBlock ≠ some k) : v'.ownBlock ≠ some k := by
  intro e
  rcases h.new with h' | h' | ⟨m, h', hm⟩
  · exact hv (h'.symm.trans e)
  · rw [h'] at e; cases e
  · rw [h'] at e; cases e; omega
/-- Each item has nineteen cells. -/
theorem feed_19 (bs : List UInt8) : ∀ x ∈ (feedAll bs).1, x.length = 19 := by
  have h : ∀ (n : Nat) (bs : List UInt8), bs.length < n → ∀ x ∈ (feedAll bs).1, x.length = 19 := by
    intro n
    induction n with
    | zero => intro bs h; omega
    | succ n ih =>
      intro bs hn x hx
      by_cases h1 : bs.length < 2
      · rw [feedAll_few bs h1] at hx; cases hx
      by_cases h2 : frameN bs = 0 ∨ 512 < frameN bs
      · rw [feedAll_bad bs h1 h2] at hx
        simp at hx
        subst hx
        rfl
      by_cases h3 : bs.length < 2 + frameN bs
      · rw [feedAll_wait bs h1 h2 h3] at hx; cases hx
      rw [feedAll_item bs h1 h2 h3] at hx
      rcases List.mem_cons.1 hx with rfl | hx
      · obtain ⟨q, hq⟩ := parseReqC_shape ((bs.drop 2).take (frameN bs))
        rw [show ∀ p, itemCells p = p.1 ++ [.int .i64 p.2] from fun p => by unfold itemCells; rfl, hq]
        rfl
      · exact ih _ (by rw [List.length_drop]; omega) x hx
  exact h _ bs (Nat.lt_succ_self _)
theorem feedSt_19 (bs : List UInt8) (brk : Bool) (zs : List UInt8) : ∀ x ∈ (feedSt bs brk zs).1, x.length = 19 := by
  cases brk with
  | true => intro x hx; rw [feedSt_brk] at hx; cases hx
  | false => exact feed_19 _
/-- A cell of an item in a row of items. -/
theorem items_at : ∀ (xs : List (List Value)) (i j : Nat) (x : List Value), (∀ x ∈ xs, x.length = 19) → xs[i]? = some x → j < 19 → (itemsV xs)[i * 19 + j]? = x[j]?
  | [], i, j, x, _, h, _ => by simp at h
  | y :: ys, 0, j, x, hl, h, hj => by
    simp at h
    subst h
    have hy : y.length = 19 := hl y List.mem_cons_self
    rw [show itemsV (y :: ys) = y ++ itemsV ys from rfl, Nat.zero_mul, Nat.zero_add, List.getElem?_append_left (by omega)]
  | y :: ys, i + 1, j, x, hl, h, hj => by
    have hy : y.length = 19 := hl y List.mem_cons_self
    rw [show itemsV (y :: ys) = y ++ itemsV ys from rfl, List.getElem?_append_right (by omega), hy, show (i + 1) * 19 + j - 19 = i * 19 + j by omega]
    exact items_at ys i j x (fun x hx => hl x (List.mem_cons_of_mem _ hx)) (by simpa using h) hj
end Go.Proofs.Ytehkgcmdndehaaa

namespace Go.Proofs.Ytehkgcmdndehaaa
set_option linter.unusedSimpArgs false
set_option linter.unusedVariables false
open Go.RowKit

theorem frameN_cat (a z : List UInt8) (h : ¬ a.length < 2) : frameN (a ++ z) = frameN a := by
  match a, h with
  | x :: y :: r, _ => rfl
  | [x], h => simp at h
  | [], h => simp at h
theorem feed_cat_n : ∀ (n : Nat) (a z : List UInt8), a.length < n → feedAll (a ++ z) = ((feedAll a).1 ++ (feedSt (feedAll a).2.1 (feedAll a).2.2 z).1, (feedSt (feedAll a).2.1 (feedAll a).2.2 z).2)
  | 0, a, z, h => by omega
  | n + 1, a, z, h => by
    by_cases h1 : a.length < 2
    · rw [feedAll_few a h1]; simp [feedSt]
    have hc := frameN_cat a z h1
    have h1' : ¬ (a ++ z).length < 2 := by rw [List.length_append]; omega
    by_cases h2 : frameN a = 0 ∨ 512 < frameN a
    · rw [feedAll_bad a h1 h2, feedAll_bad (a ++ z) h1' (by rw [hc]; exact h2)]; simp [feedSt]
    by_cases h3 : a.length < 2 + frameN a
    · rw [feedAll_wait a h1 h2 h3]; simp [feedSt]
    rw [feedAll_item a h1 h2 h3, feedAll_item (a ++ z) h1' (by rw [hc]; exact h2) (by rw [hc, List.length_append]; omega), hc]
    have e1 : (a ++ z).drop (2 + frameN a) = a.drop (2 + frameN a) ++ z := List.drop_append_of_le_length (by omega)
    have e2 : ((a ++ z).drop 2).take (frameN a) = (a.drop 2).take (frameN a) := by
      rw [List.drop_append_of_le_length (by omega), List.take_append_of_le_length (by rw [List.length_drop]; omega)]
    rw [e1, e2, feed_cat_n n (a.drop (2 + frameN a)) z (by rw [List.length_drop]; omega)]
    rfl
/-- Bytes behind bytes. -/
theorem feed_cat (a z : List UInt8) : feedAll (a ++ z) = ((feedAll a).1 ++ (feedSt (feedAll a).2.1 (feedAll a).2.2 z).1, (feedSt (feedAll a).2.1 (feedAll a).2.2 z).2) := feed_cat_n _ a z (Nat.lt_succ_self _)
theorem feed_nil : feedAll [] = ([], [], false) := feedAll_few [] (by decide)
/-- One byte more. -/
theorem feed_step (b : List UInt8) (k : Nat) (x : UInt8) (h : b[k]? = some x) : feedAll (b.take (k + 1)) = ((feedAll (b.take k)).1 ++ (feedSt (feedAll (b.take k)).2.1 (feedAll (b.take k)).2.2 [x]).1, (feedSt (feedAll (b.take k)).2.1 (feedAll (b.take k)).2.2 [x]).2) := by
  obtain ⟨hk, h⟩ := List.getElem?_eq_some_iff.1 h
  rw [List.take_succ_eq_append_getElem hk, h]
  exact feed_cat _ _
/-- What waits is not more than what came. -/
theorem feed_le : ∀ (n : Nat) (a : List UInt8), a.length < n → (feedAll a).2.1.length ≤ a.length
  | 0, a, h => by omega
  | n + 1, a, h => by
    by_cases h1 : a.length < 2
    · rw [feedAll_few a h1]; exact Nat.le_refl _
    by_cases h2 : frameN a = 0 ∨ 512 < frameN a
    · rw [feedAll_bad a h1 h2]; simp
    by_cases h3 : a.length < 2 + frameN a
    · rw [feedAll_wait a h1 h2 h3]; exact Nat.le_refl _
    rw [feedAll_item a h1 h2 h3]
    have := feed_le n (a.drop (2 + frameN a)) (by rw [List.length_drop]; omega)
    rw [List.length_drop] at this
    show (feedAll (a.drop (2 + frameN a))).2.1.length ≤ _
    omega
theorem feed_rest_le (a : List UInt8) : (feedAll a).2.1.length ≤ a.length := feed_le _ a (Nat.lt_succ_self _)
theorem feed_many : ∀ (n : Nat) (a : List UInt8), a.length < n → (feedAll a).1.length ≤ a.length
  | 0, a, h => by omega
  | n + 1, a, h => by
    by_cases h1 : a.length < 2
    · rw [feedAll_few a h1]; simp
    by_cases h2 : frameN a = 0 ∨ 512 < frameN a
    · rw [feedAll_bad a h1 h2]; simp; omega
    by_cases h3 : a.length < 2 + frameN a
    · rw [feedAll_wait a h1 h2 h3]; simp
    rw [feedAll_item a h1 h2 h3]
    have := feed_many n (a.drop (2 + frameN a)) (by rw [List.length_drop]; omega)
    rw [List.length_drop] at this
    show (feedAll (a.drop (2 + frameN a))).1.length + 1 ≤ _
    omega
theorem feed_items_le (a : List UInt8) : (feedAll a).1.length ≤ a.length := feed_many _ a (Nat.lt_succ_self _)
theorem feed_brk_n : ∀ (n : Nat) (a : List UInt8), a.length < n → (feedAll a).2.2 = true → (feedAll a).2.1 = []
  | 0, a, h => by omega
  | n + 1, a, h => by
    by_cases h1 : a.length < 2
    · rw [feedAll_few a h1]; intro h; cases h
    by_cases h2 : frameN a = 0 ∨ 512 < frameN a
    · rw [feedAll_bad a h1 h2]; intro _; rfl
    by_cases h3 : a.length < 2 + frameN a
    · rw [feedAll_wait a h1 h2 h3]; intro h; cases h
    rw [feedAll_item a h1 h2 h3]
    exact feed_brk_n n (a.drop (2 + frameN a)) (by rw [List.length_drop]; omega)
theorem byteOf_nat (n : Nat) : (byteOf n).toNat = n % 256 := by have := byteOf_mod n; omega
theorem frameN_frame (zs rest : List UInt8) (h : zs.length ≤ 512) : frameN (frameB zs ++ rest) = zs.length := by
  show (byteOf ((zs.length : Int) / 256)).toNat * 256 + (byteOf (zs.length : Int)).toNat = zs.length
  rw [show (zs.length : Int) / 256 = ((zs.length / 256 : Nat) : Int) by omega, byteOf_nat, byteOf_nat]
  omega
theorem frameB_length (zs : List UInt8) : (frameB zs).length = 2 + zs.length := by simp [frameB]; omega
/-- A whole frame. -/
theorem feed_frame (zs rest : List UInt8) (h0 : 1 ≤ zs.length) (h1 : zs.length ≤ 512) : feedAll (frameB zs ++ rest) = (itemCells (parseReqC zs) :: (feedAll rest).1, (feedAll rest).2) := by
  have hn := frameN_frame zs rest h1
  have hl := frameB_length zs
  rw [feedAll_item (frameB zs ++ rest) (by rw [List.length_append]; omega) (by rw [hn]; omega) (by rw [hn, List.length_append]; omega), hn]
  have e1 : (frameB zs ++ rest).drop (2 + zs.length) = rest := by rw [← hl]; simp
  have e2 : ((frameB zs ++ rest).drop 2).take zs.length = zs := by
    show (zs ++ rest).take zs.length = zs
    simp
  rw [e1, e2]
/-- Frames. -/
theorem feed_frames : ∀ (l : List (List UInt8)) (rest : List UInt8), (∀ zs ∈ l, 1 ≤ zs.length ∧ zs.length ≤ 512) → feedAll (l.flatMap frameB ++ rest) = (l.map (fun zs => itemCells (parseReqC zs)) ++ (feedAll rest).1, (feedAll rest).2)
  | [], rest, _ => rfl
  | zs :: l, rest, h => by
    have hz := h zs List.mem_cons_self
    rw [List.flatMap_cons, List.append_assoc, feed_frame zs _ hz.1 hz.2, feed_frames l rest (fun x hx => h x (List.mem_cons_of_mem _ hx))]
    rfl
/-- A frame that is not whole. -/
theorem feed_part (zs : List UInt8) (k : Nat) (h0 : 1 ≤ zs.length) (h1 : zs.length ≤ 512) (hk : k < 2 + zs.length) : feedAll ((frameB zs).take k) = ([], (frameB zs).take k, false) := by
  have hl := frameB_length zs
  have hlk : ((frameB zs).take k).length = k := by rw [List.length_take]; omega
  by_cases h2 : k < 2
  · exact feedAll_few _ (by omega)
  · have hn : frameN ((frameB zs).take k) = zs.length := by
      have e := frameN_cat ((frameB zs).take k) ((frameB zs).drop k) (by omega)
      rw [List.take_append_drop] at e
      rw [← e]
      have := frameN_frame zs [] h1
      rwa [List.append_nil] at this
    exact feedAll_wait _ (by omega) (by rw [hn]; omega) (by rw [hn]; omega)
/-- The request that shows, of a key. -/
def showQ (key : ByteArray) : ReqD := { reqZ with kind := 5, key := key }
theorem showQ_bytes (key : ByteArray) : (showQ key).bytes = 5 :: encText key := by
  have : (showQ key).bytes = byteOf 5 :: encText key ++ encInts [] ++ encTexts [] ++ encInts [] ++ [] := rfl
  rw [this]
  simp [encInts, encTexts]
  decide
theorem Rd.take_ok (bs : List UInt8) (n : Nat) (h : n ≤ bs.length) : Rd.take ⟨bs, false⟩ n = (bs.take n, ⟨bs.drop n, false⟩) := by
  unfold Rd.take
  rw [if_neg (by simp; omega)]
theorem parse_show (key : ByteArray) (h : key.size ≤ 255) : parseReqC (5 :: encText key) = ((showQ key).cells.toList, 0) := by
  have h1 : Rd.one ⟨5 :: encText key, false⟩ = (5, ⟨encText key, false⟩) := by
    unfold Rd.one; rw [Rd.take_ok _ _ (by simp)]; rfl
  have hb : (byteOf (key.size : Int)).toNat = key.size := by rw [byteOf_nat]; omega
  have h2 : Rd.one ⟨encText key, false⟩ = ((key.size : Int), ⟨key.data.toList, false⟩) := by
    unfold Rd.one; rw [Rd.take_ok _ _ (by rw [encText_length]; omega)]
    show ((((byteOf (key.size : Int)).toNat : Nat) : Int), _) = _
    rw [hb]; rfl
  have hkl : key.data.toList.length = key.size := Array.length_toList
  have h3 : Rd.str ⟨encText key, false⟩ = (key.data.toList, ⟨[], false⟩) := by
    unfold Rd.str
    rw [h2]
    simp only [Int.toNat_natCast]
    rw [Rd.take_ok _ _ (by omega), List.take_of_length_le (Nat.le_of_eq hkl), List.drop_of_length_le (Nat.le_of_eq hkl)]
    rfl
  rw [parseReqC_eq, h1, prKind_eq, if_neg (fun h => absurd (show kindB 5 = false from h.2) (by decide)), prKey_eq, h3, prNums_eq]
  show prTexts 5 _ ⟨[], false⟩ = _
  rw [prTexts_eq]
  show prMore 5 _ ⟨[], false⟩ = _
  rw [prMore_eq]
  show prEnd 5 _ ⟨[], false⟩ = _
  rw [prEnd_eq, if_neg (by decide), if_neg (by decide), if_neg (by decide)]
  rw [show numOffs 5 = [] from rfl, show textOffs 5 = [] from rfl, show moreOffs 5 = [] from rfl, putAt_nil, putAt_nil, putAt_nil, strB_data]
  rfl
theorem showQ_long (key : ByteArray) (h : key.size ≤ 255) : (showQ key).long = false := by
  unfold ReqD.long
  show (longB key || ([] : List ByteArray).any longB) = false
  simp [longB]; omega
end Go.Proofs.Ytehkgcmdndehaaa

namespace Go.Proofs.Ytehkgcmdndehaaa
set_option linter.unusedSimpArgs false
set_option linter.unusedVariables false
open Go.RowKit
attribute [local irreducible] feedAll feedL parseReqC itemCells frameN feedSt

theorem own_len {w : World} {base : Nat} {e : TypeId} {size : Nat} {v : Value} {n : Nat} {xs : List Value} (h : w.ownsRow base e size v n xs) : ∃ a c, v = .slice a n c := by
  rcases h.2 with ⟨rfl, rfl⟩ | ⟨g, cap, cur, rfl, _⟩
  · exact ⟨none, 0, rfl⟩
  · exact ⟨_, _, rfl⟩
theorem items_cells {w : World} {base : Nat} {out : Value} {xs : List (List Value)} (h : w.ownsRow base 56 19 out xs.length (itemsV xs)) (h19 : ∀ x ∈ xs, x.length = 19) (hn : 0 < xs.length) :
    ∃ g cap, out = .slice (some ⟨g, 0, none⟩) xs.length cap ∧ base ≤ g ∧ g < w.heap.size ∧ xs.length ≤ cap ∧ ∀ (i j : Nat) (x : List Value) (u : Value), xs[i]? = some x → x[j]? = some u → w.cell? ⟨g, i * 19 + j, none⟩ = some u := by
  have hl := h.lt
  rcases h.2 with ⟨rfl, h0⟩ | ⟨g, cap, cur, rfl, hb, hg, hc, _⟩
  · omega
  · refine ⟨g, cap, rfl, hb, (hl g rfl).2, hc, fun i j x u hi hj => ?_⟩
    have hx := h19 x (List.mem_of_getElem? hi)
    have hj19 : j < 19 := by have := (List.getElem?_eq_some_iff.1 hj).1; omega
    have := h.cells (g := g) rfl (i * 19 + j) u (by rw [items_at xs i j x h19 hi hj19]; exact hj)
    rwa [Addr.add_lit, Nat.zero_add] at this
/-- A literal of bytes. -/
theorem reads_lit (w : World) (n : Nat) (cs : Array Value) (bs : List UInt8) (h : cs.toList = bcells bs) (hn : n = bs.length) (hm : n ≤ 1000) : Reads (w.alloc (.cells cs 5)) (.slice (some ⟨w.heap.size, 0, none⟩) n n) bs := by
  subst hn
  exact Reads.of_own (own_lit w w.heap.size bs.length cs bs h rfl (Nat.le_refl _) (by unfold maxLen; omega))

theorem frame_k : frameB [5, 1, 107] = [0, 3, 5, 1, 107] := by decide
theorem feed_k1 : feedSt [] false [0, 3, 5] = ([], [0, 3, 5], false) := by
  rw [feedSt_ok]
  have := feed_part [5, 1, 107] 3 (by decide) (by decide) (by decide)
  rw [frame_k] at this
  exact this
theorem feed_k2 : feedSt [0, 3, 5] false [1, 107] = ([itemCells ((showQ ⟨#[107]⟩).cells.toList, 0)], [], false) := by
  rw [feedSt_ok]
  have := feed_frame [5, 1, 107] [] (by decide) (by decide)
  rw [frame_k, feed_nil, show ([5, 1, 107] : List UInt8) = 5 :: encText ⟨#[107]⟩ by decide, parse_show _ (by decide)] at this
  exact this
theorem itemCells_eq (p : List Value × Int) : itemCells p = p.1 ++ [.int .i64 p.2] := by unfold itemCells; rfl

set_option maxHeartbeats 1600000 in
set_option maxRecDepth 100000 in
theorem l19_known (w : World) : Calls Try.prog 21 #[] w (TrueBelow w) := by
  go_enter Try.func21, Try.ntmps21
  go_upto_region 4 with (go_at_call 23; refine (ses_new _).mono ?_; rintro e w1 ⟨rfl, hS, hB⟩; have X1 := Lib.hid (And.intro hS hB); clear hS hB)
  have hne1 : Hid (w.heap.size < w1.heap.size) := Lib.hid X1.out.1.lt
  generalize hb : w.heap.size = b at *
  have HB := Lib.hid hb
  clear hb
  have R1 : Hid (Reads (w1.alloc (.cells #[.int .u8 0, .int .u8 3, .int .u8 5] 5)) (.slice (some ⟨w1.heap.size, 0, none⟩) 3 3) [0, 3, 5]) := Lib.hid (reads_lit w1 3 _ _ rfl rfl (by decide))
  have A1 : Hid (SesAt (w1.alloc (.cells #[.int .u8 0, .int .u8 3, .int .u8 5] 5)) b 0 (.slice none 0 0) [] false) := Lib.hid (X1.out.1.on (below_alloc _ _))
  go_upto_region 5 with (go_at_call 24; refine (ses_feed2 b 0 (.slice none 0 0) [] false _ [0, 3, 5] _ A1.out (.inr ⟨rfl, rfl, rfl, rfl⟩) R1.out ⟨fun e => by have := hne1.out; injection e with e; exact absurd (show w1.heap.size = b from e) (by omega), fun k _ e => by cases e⟩ (by decide)).mono ?_; rintro e w2 ⟨v2, o2, rfl, hs, hf, ho⟩; rw [feed_k1] at hs ho; have X2 := Lib.hid (And.intro hs (And.intro hf ho)); clear hs hf ho)
  obtain ⟨a2, c2, ho2⟩ := own_len X2.out.2.2
  subst ho2
  have R2 : Hid (Reads (w2.alloc (.cells #[.int .u8 1, .int .u8 107] 5)) (.slice (some ⟨w2.heap.size, 0, none⟩) 2 2) [1, 107]) := Lib.hid (reads_lit w2 2 _ _ rfl rfl (by decide))
  have A2 : Hid (SesAt (w2.alloc (.cells #[.int .u8 1, .int .u8 107] 5)) b 1 v2 [0, 3, 5] false) := Lib.hid (X2.out.1.on (below_alloc _ _))
  have N2 : Hid (∀ k, v2.ownBlock = some k → k < w2.heap.size) := Lib.hid (fun k hk => (X2.out.1.own.lt k hk).2)
  go_upto_region 6 with (go_at_call 24; refine (ses_feed2 b 1 v2 [0, 3, 5] false _ [1, 107] _ A2.out (.inl rfl) R2.out ⟨fun e => by have := X2.out.1.lt; injection e with e; exact absurd (show w2.heap.size = b from e) (by omega), fun k hk e => by have := N2.out k e; injection hk with hk; exact absurd (show w2.heap.size = k from hk) (by omega)⟩ (by decide)).mono ?_; rintro e w3 ⟨v3, o3, rfl, hs, hf, ho⟩; rw [feed_k2] at hs ho; have X3 := Lib.hid (And.intro hs (And.intro hf ho)); clear hs hf ho)
  obtain ⟨g, cap, ho3, hg, hg2, hcap, hcells⟩ := items_cells X3.out.2.2 (by have h := feedSt_19 [0, 3, 5] false [1, 107]; rw [feed_k2] at h; exact h) (by decide)
  subst ho3
  have k18 : w3.cell? ⟨g, 18, none⟩ = some (.int .i64 0) := hcells 0 18 _ _ rfl (by rw [itemCells_eq]; rfl)
  have k1 : w3.cell? ⟨g, 1, none⟩ = some (.string ⟨#[107]⟩) := hcells 0 1 _ _ rfl (by rw [itemCells_eq]; rfl)
  have hc1 : 1 ≤ cap := hcap
  have F : Hid (Below b w w3) := Lib.hid ((((X1.out.2.trans ((below_alloc w1 _).mono (by have := hne1.out; omega))).trans (X2.out.2.1.below A1.out)).trans ((below_alloc w2 _).mono (by have := X2.out.1.lt; omega))).trans (X3.out.2.1.below A2.out))
  clear hcells hg hg2 hcap
  go_wp2
  go_ret
  exact ⟨ret_bool (by first | rfl | simp), by rw [HB.out]; exact F.out⟩
end Go.Proofs.Ytehkgcmdndehaaa
