import Derived.Test.YtehkgcmdndehaaaAnsR
import Derived.Deep.DeepCutAuto
import Derived.Deep.CutBlock
import Derived.Deep.DeepMust
namespace Go.Proofs.Ytehkgcmdndehaaa
set_option linter.unusedSimpArgs false
set_option linter.unusedVariables false
open Go.RowKit

def AnsD.value (a : AnsD) : Value := .agg a.cells

theorem stmt_nums_at (a : AnsD) (k : Nat) (n : Int) (h : a.stmt.nums[k]? = some n) : a.cells[5 + k]? = some (.int .i64 n) := by
  match k, h with
  | 0, h => simp [StmtD.nums] at h; subst h; rfl
  | 1, h => simp [StmtD.nums] at h; subst h; rfl
  | 2, h => simp [StmtD.nums] at h; subst h; rfl
  | 3, h => simp [StmtD.nums] at h; subst h; rfl
  | 4, h => simp [StmtD.nums] at h; subst h; rfl
  | 5, h => simp [StmtD.nums] at h; subst h; rfl
  | 6, h => simp [StmtD.nums] at h; subst h; rfl
  | 7, h => simp [StmtD.nums] at h; subst h; rfl
  | k + 8, h => simp [StmtD.nums] at h
theorem stmt_offs_at (off k : Nat) (h : k < 8) : [off + 1, off + 2, off + 3, off + 4, off + 5, off + 6, off + 7, off + 8][k]? = some (off + 1 + k) := by
  match k, h with
  | 0, _ => rfl
  | 1, _ => simp; try omega
  | 2, _ => simp; try omega
  | 3, _ => simp; try omega
  | 4, _ => simp; try omega
  | 5, _ => simp; try omega
  | 6, _ => simp; try omega
  | 7, _ => simp; try omega

set_option maxHeartbeats 1600000 in
set_option maxRecDepth 100000 in
theorem fr_enc_ans (a : AnsD) (w : World) (hn : a.stmt.name.size ≤ 3000) :
    Calls Try.prog 16 #[a.value] w (BytesPost w (encAns a)) := by
  unfold AnsD.value
  go_enter Try.func16, Try.ntmps16
  go_upto_region 2 with (fail)
  have hB0 := below_alloc2 w (.cells a.cells 38) (.cells #[.slice none 0 0, .bool false] 72)
  have hr0 : RowAt ((w.alloc (.cells a.cells 38)).alloc (.cells #[.slice none 0 0, .bool false] 72)) (w.heap.size + 1) (.slice none 0 0) [] := RowAt.new _ _ _ _ (by simp) rfl
  have hC : ∀ o v, a.cells[o]? = some v → ((w.alloc (.cells a.cells 38)).alloc (.cells #[.slice none 0 0, .bool false] 72)).cell? ⟨w.heap.size, o, none⟩ = some v := fun o v h => by
    rw [World.cell?_alloc_past _ _ _ (by show w.heap.size < _; simp), cell_of_row _ _ _ _ _ _ (heap_alloc_new _ _)]; exact h
  have hrW : w.heap.size + 1 < ((w.alloc (.cells a.cells 38)).alloc (.cells #[.slice none 0 0, .bool false] 72)).heap.size := by simp
  generalize (w.alloc (.cells a.cells 38)).alloc (.cells #[.slice none 0 0, .bool false] 72) = W at *
  generalize hab : w.heap.size = ab at *
  have HAB := Lib.hid hab
  have HC := Lib.hid hC
  have hne : ab ≠ ab + 1 := by omega
  have hrl : ab < ab + 1 := by omega
  generalize ab + 1 = rb at *
  clear hab hC
  have HR0 := Lib.hid hr0
  clear hr0
  have h0 : W.cell? ⟨ab, 0, none⟩ = some (.int .i64 a.err) := HC.out 0 _ rfl
  have hf1 : Fits (([] : List UInt8).length + 1) := fits_of _ (by simp)
  go_upto_region 3 with (go_at_call 37; refine (frow_byte rb _ [] a.err _ HR0.out hrW hf1).mono ?_; rintro e w2 ⟨v2, rfl, hrow2, hput2⟩)
  have P2 := Lib.hid hput2
  have R2 := Lib.hid hrow2
  have hs2 : W.heap.size ≤ w2.heap.size := hput2.size
  have hr2 : rb < w2.heap.size := by omega
  have habW : ab < W.heap.size := by omega
  have hkA : ∀ o v, a.cells[o]? = some v → w2.cell? ⟨ab, o, none⟩ = some v := fun o v h => (hput2.cell (a := ⟨ab, o, none⟩) habW (fun e => hne e) (fun e => by cases e)).trans (HC.out o v h)
  have k1 : w2.cell? ⟨ab, 1, none⟩ = some (.int .i64 a.left) := hkA 1 _ rfl
  have k2 : w2.cell? ⟨ab, 2, none⟩ = some (.int .i64 a.over) := hkA 2 _ rfl
  have k3 : w2.cell? ⟨ab, 3, none⟩ = some (.int .i64 a.n) := hkA 3 _ rfl
  have HK2 := Lib.hid hkA
  have ho2 : v2.ownBlock ≠ some ab := hput2.other habW (fun e => by cases e)
  clear hput2 hrow2 h0 HC hkA
  have hf2 : Fits (([] ++ [byteOf a.err]).length + 8 * [a.left, a.over, a.n].length) := fits_of _ (by simp)
  go_upto_region 4 with (go_at_call 40; refine (frow_ints rb w2.heap.size 3 _ _ v2 _ [a.left, a.over, a.n] w2 _ R2.out hr2 hf2 (by simp) rfl (below_alloc _ _) (Nat.le_refl _) (heap_alloc_new _ _) rfl).mono ?_; rintro e w3 ⟨v3, rfl, hrow3, hput3⟩)
  have P3 := Lib.hid (P2.out.trans hput3)
  have R3 := Lib.hid hrow3
  have hs3 : w2.heap.size ≤ w3.heap.size := hput3.size
  have hr3 : rb < w3.heap.size := by omega
  have hab2 : ab < w2.heap.size := by omega
  have hkA : ∀ o v, a.cells[o]? = some v → w3.cell? ⟨ab, o, none⟩ = some v := fun o v h => (hput3.cell (a := ⟨ab, o, none⟩) hab2 (fun e => hne e) ho2).trans (HK2.out o v h)
  have ho3 : v3.ownBlock ≠ some ab := hput3.other hab2 ho2
  have k5 : w3.cell? ⟨ab, 5, none⟩ = some (.int .i64 a.stmt.term) := hkA 5 _ rfl
  have HK3 := Lib.hid hkA
  clear hput3 hrow3 k1 k2 k3 hkA R2 P2 HK2 hf2 hf1
  generalize hz3 : [] ++ [byteOf a.err] ++ encInts [a.left, a.over, a.n] = z3 at *
  have hlen3 : z3.length ≤ 257 := by rw [← hz3]; simp [encInts_length]
  have Z3 := Lib.hid hz3
  clear hz3
  by_cases ht : a.stmt.term = 0
  · have HT := Lib.hid ht
    have htb : (a.stmt.term == 0) = true := by simp [ht]
    clear ht
    have hf3 : Fits (z3.length + 1) := fits_of _ (by omega)
    go_upto_region 6 with (go_at_call 37; refine (frow_byte rb _ z3 0 _ R3.out hr3 hf3).mono ?_; rintro e w4 ⟨v4, rfl, hrow4, hput4⟩)
    have hc4 := hrow4.cell
    have fin : BytesPost w (encAns a) (.returned v4) w4 := by
      refine ⟨v4, rfl, ?_, ?_⟩
      · have e : z3 ++ [byteOf 0] = encAns a := by rw [← Z3.out, encAns, if_pos HT.out]; rfl
        have := hrow4.own
        rw [e] at this
        exact ownsRow_base this (by have := HAB.out; omega)
      · exact (P3.out.trans hput4).below_new rfl (by rw [HAB.out]; exact hB0) (by have := HAB.out; omega) (by have := HAB.out; omega)
    have F := Lib.hid fin
    clear fin hrow4 hput4
    go_wp2
    go_ret
    exact F.out
  · have HT := Lib.hid ht
    have htb : (a.stmt.term == 0) = false := by simp [ht]
    clear ht
    have hf3 : Fits (z3.length + 1) := fits_of _ (by omega)
    go_upto_region 8 with (go_at_call 37; refine (frow_byte rb _ z3 1 _ R3.out hr3 hf3).mono ?_; rintro e w4 ⟨v4, rfl, hrow4, hput4⟩)
    have P4 := Lib.hid (P3.out.trans hput4)
    have R4 := Lib.hid hrow4
    have hs4 : w3.heap.size ≤ w4.heap.size := hput4.size
    have hr4 : rb < w4.heap.size := by omega
    have hab3 : ab < w3.heap.size := by omega
    have hkA : ∀ o v, a.cells[o]? = some v → w4.cell? ⟨ab, o, none⟩ = some v := fun o v h => (hput4.cell (a := ⟨ab, o, none⟩) hab3 (fun e => hne e) ho3).trans (HK3.out o v h)
    have ho4 : v4.ownBlock ≠ some ab := hput4.other hab3 ho3
    have k4 : w4.cell? ⟨ab, 4, none⟩ = some (.string a.stmt.name) := hkA 4 _ rfl
    have HK4 := Lib.hid hkA
    clear hput4 hrow4 k5 hkA R3 P3 HK3 hf3 hr3 ho3
    have hf4 : Fits ((z3 ++ [byteOf 1]).length + (encTexts [a.stmt.name]).length) := fits_of _ (by simp [encTexts, encText_length]; omega)
    go_upto_region 9 with (go_at_call 38; refine (frow_texts rb w4.heap.size 1 _ _ v4 _ [a.stmt.name] w4 _ R4.out hr4 hf4 (by simp) rfl (below_alloc _ _) (Nat.le_refl _) (heap_alloc_new _ _) rfl).mono ?_; rintro e w5 ⟨v5, rfl, hrow5, hput5⟩)
    have P5 := Lib.hid (P4.out.trans hput5)
    have R5 := Lib.hid hrow5
    have hs5 : w4.heap.size ≤ w5.heap.size := hput5.size
    have hr5 : rb < w5.heap.size := by omega
    have hab4 : ab < w4.heap.size := by omega
    have hkA : ∀ o v, a.cells[o]? = some v → w5.cell? ⟨ab, o, none⟩ = some v := fun o v h => (hput5.cell (a := ⟨ab, o, none⟩) hab4 (fun e => hne e) ho4).trans (HK4.out o v h)
    have ho5 : v5.ownBlock ≠ some ab := hput5.other hab4 ho4
    have HK5 := Lib.hid hkA
    clear hput5 hrow5 k4 hkA R4 P4 HK4 hf4 hr4 ho4
    have hlen5 : (z3 ++ [byteOf 1] ++ encTexts [a.stmt.name]).length ≤ 5000 := by simp [encTexts, encText_length]; omega
    generalize hz5 : z3 ++ [byteOf 1] ++ encTexts [a.stmt.name] = z5 at *
    have Z5 := Lib.hid hz5
    clear hz5
    go_upto_block 0 with (go_at_call 43; refine (fr_statement ab 4 w5).mono ?_; rintro e w6 ⟨ao, rfl, hB6, hP6⟩)
    have hs6 := hB6.size
    have hr6 : rb < w6.heap.size := by omega
    have hab5 : ab < w5.heap.size := by omega
    have hab6 : ab < w6.heap.size := by omega
    have RB := Lib.hid (R5.out.of_below hr5 hB6)
    have PB := Lib.hid (P5.out.trans (Puts.of_below hB6 hr5))
    have hkA : ∀ o v, a.cells[o]? = some v → w6.cell? ⟨ab, o, none⟩ = some v := fun o v h => (hB6.cell (p := ⟨ab, o, none⟩) hab5).trans (HK5.out o v h)
    have HK6 := Lib.hid hkA
    have HP := Lib.hid hP6
    have ownA : Hid (∀ k, v5.ownBlock = some k → k < w5.heap.size) := Lib.hid (fun k h => (R5.out.own.lt k h).2)
    have HO5 := Lib.hid ho5
    have hnl : a.stmt.nums.length = 8 := rfl
    clear hkA HK5 hP6 hB6 R5 P5 ho5
    go_wp2
    go_loopg [5, 42] 8 (fun g s5 s42 wr => ∃ (k : Nat) (vr : Value), k + g = 8 ∧ s42 = .int .i64 k ∧ RowAt wr rb vr (z5 ++ encInts (a.stmt.nums.take k)) ∧ Puts w6 wr rb v5 vr)
    case atStart => exact ⟨0, v5, by omega, rfl, by simpa [encInts] using RB.out, Puts.refl _ _ _⟩
    case round =>
      obtain ⟨k, vr, hkg, rfl, hrow, hput⟩ := hrel
      have hsz := hput.size
      cases gk with
      | zero =>
        have hk : ¬ ((k : Int) < 8) := by omega
        have hc := hrow.cell
        have fin : BytesPost w (encAns a) (.returned vr) wr := by
          refine ⟨vr, rfl, ?_, ?_⟩
          · have e : z5 ++ encInts (a.stmt.nums.take k) = encAns a := by
              rw [← Z5.out, ← Z3.out, encAns, if_neg HT.out, List.take_of_length_le (by omega), encStmt, show byteOf 1 = 1 from rfl]
              simp [encTexts]
            have := hrow.own
            rw [e] at this
            exact ownsRow_base this (by have := HAB.out; omega)
          · exact (PB.out.trans hput).below_new rfl (by rw [HAB.out]; exact hB0) (by have := HAB.out; omega) (by have := HAB.out; omega)
        have F := Lib.hid fin
        clear fin hrow hput
        go_wp2
        go_ret
        exact F.out
      | succ g =>
        have hk : (k : Int) < 8 := by omega
        have hk8 : k < 8 := by omega
        obtain ⟨n, hn⟩ : ∃ n, a.stmt.nums[k]? = some n := ⟨_, List.getElem?_eq_getElem (by omega)⟩
        obtain ⟨nb, rfl, hnb1, hnb2, hcp⟩ := HP.out k _ (stmt_offs_at 4 k hk8)
        have hcp' := (hput.cell (a := ⟨nb, k, none⟩) hnb2 (by show nb ≠ rb; omega) (fun e => by have := ownA.out nb e; omega)).trans hcp
        have hcn : wr.cell? ⟨ab, 4 + 1 + k, none⟩ = some (.int .i64 n) := (hput.cell (a := ⟨ab, 4 + 1 + k, none⟩) hab6 (fun e => hne e) HO5.out).trans (HK6.out _ _ (stmt_nums_at a k n hn))
        have hrb : rb < wr.heap.size := by omega
        have HTk := Lib.hid (encInts_take a.stmt.nums k n hn)
        have hfit : Fits ((z5 ++ encInts (a.stmt.nums.take k)).length + 8 * [n].length) := fits_of _ (by have h1 := encInts_take_length a.stmt.nums k; rw [List.length_append, List.length_singleton]; omega)
        have HR2 := Lib.hid (And.intro hrow hput)
        clear hrow hput hn hcp
        go_wp2_with (go_at_call 40; go_must (refine (frow_ints rb wr.heap.size 1 _ _ vr _ [n] wr _ HR2.out.1 hrb hfit (by simp) rfl (below_alloc _ _) (Nat.le_refl _) (heap_alloc_new _ _) rfl).mono ?_); rintro e w7 ⟨v7, rfl, hrow3, hput3⟩; have X := Lib.hid (And.intro hrow3 hput3); clear hrow3 hput3)
        go_roundg g
        case measure => omega
        case rel =>
          refine ⟨k + 1, _, by omega, by first | rfl | go_num, ?_, HR2.out.2.trans X.out.2⟩
          rw [HTk.out, ← List.append_assoc]
          have := X.out.1
          simpa [encInts] using this
end Go.Proofs.Ytehkgcmdndehaaa
