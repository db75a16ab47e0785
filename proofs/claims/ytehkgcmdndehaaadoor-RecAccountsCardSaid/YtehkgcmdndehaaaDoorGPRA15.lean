/-
  Equality of plans and of statements, as the walk spells it; rec.SamePlan.
-/
/-
  rec.Number and the document's Number: sixteen hex digits.
-/
import Derived.Test.YtehkgcmdndehaaaDoorGPRA08
import Derived.Test.YtehkgcmdndehaaaDoorGPRA14
import Derived.Test.YtehkgcmdndehaaaDoorGPRA02
import Derived.Test.YtehkgcmdndehaaaDoorGPRA10
import Derived.Lib.Strings
namespace Go.Proofs.YtehkgcmdndehaaaDoor
set_option linter.unusedSimpArgs false
set_option linter.unusedVariables false
open Go.RowKit

set_option maxHeartbeats 1600000 in
set_option maxRecDepth 100000 in
theorem rr_write_stmt (rb : Nat) (v : Value) (xs : List UInt8) (p : StmtD) (w : World) (hr : RowAt w rb v xs) (hb : rb < w.heap.size) (hl : Fits (xs.length + (encStmt p).length))
    (hname : w.cell? ⟨rb, 12, none⟩ = some (.string p.name)) (hnums : ∀ k n, p.nums[k]? = some n → w.cell? ⟨rb, 13 + k, none⟩ = some (.int .i64 n)) :
    Calls Tryd.prog 30 #[.pointer (some ⟨rb, 0, none⟩), .int .i64 1] w (PutPost w rb v (xs ++ encStmt p)) := by
  have HR := Lib.hid hr
  have HN := Lib.hid hnums
  have hl1 : Fits (xs.length + (encText p.name).length) := hl.le (by rw [encStmt, List.length_append]; omega)
  clear hr hnums
  go_enter Tryd.func30, Tryd.ntmps30
  go_wp2
  go_region_with (go_at_call 54; refine (rrow_text rb v xs p.name _ HR.out.drew (by simpa using hb) hl1).mono ?_; rintro e w1 ⟨v1, rfl, hrow1, hput1⟩)
  replace hput1 := Puts.from_below hb (Below.refl _ _).drew hput1
  go_wp2_with fail
  refine (rr_numbers rb 1 _).mono ?_
  rintro e w2 ⟨ao, rfl, hB2, hP⟩
  obtain ⟨offs, ho⟩ : ∃ o, o = recOffs 1 := ⟨_, rfl⟩
  rw [← ho] at hP ⊢
  have h9 : offs.length = p.nums.length := by rw [ho]; rfl
  have hoff : ∀ k, offs[k]? = if k < 8 then some (13 + k) else none := fun k => by
    rw [ho]; match k with
    | 0 | 1 | 2 | 3 | 4 | 5 | 6 | 7 => rfl
    | k + 8 => rw [if_neg (by omega)]; simp [recOffs]
  have O := Lib.hid (And.intro h9 (And.intro hoff hP))
  clear h9 hoff hP ho
  have hB12 := hput1
  have R2 := Lib.hid (hrow1.of_below (by have := hput1.size; omega) hB2)
  have hs1 := hput1.size
  have hs2 := hB2.size
  have hlt1 := Lib.hid (fun k h => hrow1.own.lt k h)
  clear hB12
  go_wp2
  go_loopg [7, 157] offs.length (fun g s7 s157 wr => ∃ (k : Nat) (vr : Value), k + g = offs.length ∧ s157 = .int .i64 k ∧ RowAt wr rb vr (xs ++ encText p.name ++ encInts (p.nums.take k)) ∧ Puts w2 wr rb v1 vr)
  case atStart => exact ⟨0, v1, by omega, rfl, by simpa [encInts] using R2.out, Puts.refl _ _ _⟩
  case round =>
    obtain ⟨k, vr, hkg, rfl, hrow, hput⟩ := hrel
    have hsz := hput.size
    cases gk with
    | zero =>
      have hk : ¬ ((k : Int) < (offs.length : Int)) := by omega
      have F := Lib.hid (And.intro hrow hput)
      clear hrow hput
      go_wp2
      go_end0
      refine ⟨vr, rfl, ?_, ?_⟩
      · have := F.out.1
        rw [List.take_of_length_le (by have := O.out.1; omega)] at this
        rw [encStmt, ← List.append_assoc]
        exact this
      · exact (hput1.trans (Puts.of_below hB2 (by omega))).trans F.out.2
    | succ g =>
      have hk : (k : Int) < (offs.length : Int) := by omega
      have hk9 : k < 8 := by have := O.out.1; simp [StmtD.nums] at this; omega
      obtain ⟨n, hn⟩ : ∃ n, p.nums[k]? = some n := ⟨_, List.getElem?_eq_getElem (by have := O.out.1; omega)⟩
      obtain ⟨nb, rfl, hnb1, hnb2, hcp⟩ := O.out.2.2 k (13 + k) (by rw [O.out.2.1, if_pos hk9])
      have hcp' := (hput.cell (a := ⟨nb, k, none⟩) hnb2 (by show nb ≠ rb; omega) (fun e => by have := hlt1.out nb e; omega)).trans hcp
      have hcn : wr.cell? ⟨rb, 13 + k, none⟩ = some (.int .i64 n) :=
        ((hput.row (13 + k) (by omega)).trans (hB2.cell (p := ⟨rb, 13 + k, none⟩) (by show rb < _; omega))).trans ((hput1.row (13 + k) (by omega)).trans (HN.out k n hn))
      have hrb : rb < wr.heap.size := by omega
      have HT := Lib.hid (encInts_take p.nums k n hn)
      have hfit : Fits ((xs ++ encText p.name ++ encInts (p.nums.take k)).length + 8 * [n].length) := hl.le (by
        have := encInts_take_length p.nums k
        simp only [List.length_append, encStmt, encInts_length, List.length_singleton] at this ⊢
        have := O.out.1
        simp only [List.length_take]
        omega)
      have HR2 := Lib.hid (And.intro hrow hput)
      clear hrow hput hn hcp
      go_wp2
      go_region_with (go_at_call 56; go_must (refine (rrow_ints rb wr.heap.size 1 _ _ vr _ [n] wr _ HR2.out.1 hrb hfit (by simp) rfl (below_alloc _ _).drew (Nat.le_refl _) (heap_alloc_new _ _) rfl).mono ?_); rintro e w3 ⟨v3, rfl, hrow3, hput3⟩)
      all_goals have X := Lib.hid (And.intro hrow3 hput3)
      all_goals clear hrow3 hput3
      all_goals go_wp2
      all_goals go_roundg g
      all_goals first
        | (case measure => omega)
        | skip
      all_goals
        refine ⟨k + 1, _, by omega, by first | rfl | go_num, ?_, HR2.out.2.trans X.out.2⟩
        rw [HT.out, ← List.append_assoc]
        have := X.out.1
        simpa [encInts] using this
def StmtD.value (s : StmtD) : Value := .agg #[.string s.name, .int .i64 s.term, .int .i64 s.frm, .int .i64 s.till, .int .i64 s.granted, .int .i64 s.consumed, .int .i64 s.expired, .int .i64 s.rolled, .int .i64 s.over]

set_option maxHeartbeats 1600000 in
set_option maxRecDepth 100000 in
theorem rr_encodeStmt (p : StmtD) (w : World) (hl : Fits (encStmt p).length) :
    Calls Tryd.prog 11 #[p.value] w (BytesPost w (encStmt p)) := by
  unfold StmtD.value
  go_enter Tryd.func11, Tryd.ntmps11
  go_wp2_with fail
  refine (rr_write_stmt (w.heap.size + 1) (.slice none 0 0) [] p _ (RowAt.new _ _ _ _ (by simp) (by (repeat rw [Array.getElem?_setIfInBounds_ne (by decide)]); exact zrec0)) (by simp) (by simpa using hl) ?hn ?hs).mono ?_
  case hn => rw [World.cell?_alloc_at _ _ _ _ (by simp)]; simp [Array.getElem?_setIfInBounds, Tryd.zeroCells79_size]
  case hs =>
    intro k n hn
    rw [World.cell?_alloc_at _ _ _ _ (by simp)]
    match k, hn with
    | 0, hn | 1, hn | 2, hn | 3, hn | 4, hn | 5, hn | 6, hn | 7, hn => cases hn; simp [Array.getElem?_setIfInBounds, Tryd.zeroCells79_size]
    | k + 8, hn => simp [StmtD.nums] at hn
  rintro e w1 ⟨v, rfl, hrow, hput⟩
  have hc := hrow.cell
  have F := Lib.hid (And.intro hrow hput)
  clear hrow hput
  go_wp2
  go_ret
  refine ⟨v, rfl, ownsRow_base (base := w.heap.size + 1 + 1) F.out.1.own (by omega), F.out.2.below_new rfl (below_alloc2 _ _ _) (by omega) (by simp; omega)⟩
end Go.Proofs.YtehkgcmdndehaaaDoor

namespace Go.Proofs.YtehkgcmdndehaaaDoor
set_option linter.unusedSimpArgs false
set_option linter.unusedVariables false
open Go.RowKit

def eqPl (x y : PlanD) : Bool :=
  if x.name.toList = y.name.toList then if x.version = y.version then if x.allowance = y.allowance then if x.kind = y.kind then if x.anchor = y.anchor then if x.days = y.days then if x.cap = y.cap then if x.mode = y.mode then if x.burst = y.burst then if x.rate = y.rate then true else false else false else false else false else false else false else false else false else false else false
theorem eqPl_refl (x : PlanD) : eqPl x x = true := by simp [eqPl]
theorem eqPl_iff (x y : PlanD) : eqPl x y = true ↔ x = y := by
  constructor
  · intro h
    obtain ⟨a0, a1, a2, a3, a4, a5, a6, a7, a8, a9⟩ := x
    obtain ⟨b0, b1, b2, b3, b4, b5, b6, b7, b8, b9⟩ := y
    unfold eqPl at h
    simp only [Bool.if_false_right, Bool.and_eq_true, decide_eq_true_eq, and_true] at h
    obtain ⟨h0, rfl, rfl, rfl, rfl, rfl, rfl, rfl, rfl, rfl⟩ := h
    rw [Lib.toList_data, Lib.toList_data] at h0
    congr 1
    cases a0; cases b0
    simpa using h0
  · rintro rfl; exact eqPl_refl _
set_option maxRecDepth 100000 in
theorem eql_eqPl (x y : PlanD) (w : World) : (binOp .eql 26 (.agg x.cells) (.agg y.cells)).run Tryd.prog w = .ok (.bool (eqPl x y)) w := by
  unfold PlanD.cells eqPl
  go_simp
  (repeat split) <;> simp [*]
set_option maxRecDepth 100000 in
theorem neq_eqPl (x y : PlanD) (w : World) : (binOp .neq 26 (.agg x.cells) (.agg y.cells)).run Tryd.prog w = .ok (.bool (!eqPl x y)) w := by
  unfold PlanD.cells eqPl
  go_simp
  (repeat split) <;> simp [*]
def eqSt (x y : StmtD) : Bool :=
  if x.name.toList = y.name.toList then if x.term = y.term then if x.frm = y.frm then if x.till = y.till then if x.granted = y.granted then if x.consumed = y.consumed then if x.expired = y.expired then if x.rolled = y.rolled then if x.over = y.over then true else false else false else false else false else false else false else false else false else false
theorem eqSt_refl (x : StmtD) : eqSt x x = true := by simp [eqSt]
theorem eqSt_iff (x y : StmtD) : eqSt x y = true ↔ x = y := by
  constructor
  · intro h
    obtain ⟨a0, a1, a2, a3, a4, a5, a6, a7, a8⟩ := x
    obtain ⟨b0, b1, b2, b3, b4, b5, b6, b7, b8⟩ := y
    unfold eqSt at h
    simp only [Bool.if_false_right, Bool.and_eq_true, decide_eq_true_eq, and_true] at h
    obtain ⟨h0, rfl, rfl, rfl, rfl, rfl, rfl, rfl, rfl⟩ := h
    rw [Lib.toList_data, Lib.toList_data] at h0
    congr 1
    cases a0; cases b0
    simpa using h0
  · rintro rfl; exact eqSt_refl _
set_option maxRecDepth 100000 in
theorem eql_eqSt (x y : StmtD) (w : World) : (binOp .eql 28 (.agg x.cells) (.agg y.cells)).run Tryd.prog w = .ok (.bool (eqSt x y)) w := by
  unfold StmtD.cells eqSt
  go_simp
  (repeat split) <;> simp [*]
set_option maxRecDepth 100000 in
theorem neq_eqSt (x y : StmtD) (w : World) : (binOp .neq 28 (.agg x.cells) (.agg y.cells)).run Tryd.prog w = .ok (.bool (!eqSt x y)) w := by
  unfold StmtD.cells eqSt
  go_simp
  (repeat split) <;> simp [*]

def BoolPost (w : World) (b : Bool) (e : Ending) (w' : World) : Prop := e = .returned (.bool b) ∧ Below w.heap.size w w'
set_option maxHeartbeats 1600000 in
set_option maxRecDepth 100000 in
theorem rr_samePlan (p q : PlanD) (w : World) : Calls Tryd.prog 16 #[.agg p.cells, .agg q.cells] w (BoolPost w (eqPl p q)) := by
  go_enter Tryd.func16, Tryd.ntmps16
  go_upto_region 1 with (fail)
  have h1 := heap_alloc_new w (.cells p.cells 26)
  have h2 := heap_alloc2_new w (.cells p.cells 26) (.cells q.cells 26)
  have h1' : ((w.alloc (.cells p.cells 26)).alloc (.cells q.cells 26)).heap[w.heap.size]? = some (.cells p.cells 26 (0, 0)) := ((below_alloc _ _).block _ (by simp)).trans h1
  have hB := below_alloc2 w (.cells p.cells 26) (.cells q.cells 26)
  have he := eql_eqPl p q
  generalize (w.alloc (.cells p.cells 26)).alloc (.cells q.cells 26) = W at *
  clear h1
  have X := Lib.hid (And.intro h1' (And.intro h2 hB))
  clear h1' h2 hB
  go_wp2_with (first
    | (refine wpList_load_row rfl 26 (.tmp 2) rfl w.heap.size rfl 26 p.cells (0, 0) _ X.out.1 Tryd.underlying26 (by kernel_rfl) (by kernel_rfl) ?_)
    | (refine wpList_load_row rfl 26 (.tmp 3) rfl (w.heap.size + 1) rfl 26 q.cells (0, 0) _ X.out.2.1 Tryd.underlying26 (by kernel_rfl) (by kernel_rfl) ?_))
  go_ret
  exact ⟨rfl, X.out.2.2⟩
end Go.Proofs.YtehkgcmdndehaaaDoor

namespace Go.Proofs.YtehkgcmdndehaaaDoor
set_option linter.unusedSimpArgs false
set_option linter.unusedVariables false
open Go.RowKit

theorem hexK (n : Nat) : ∀ m, n < 16 ^ (m + 1) → ∃ K, K ≤ m ∧ (∀ k, k < K → 16 ≤ n / 16 ^ k) ∧ n / 16 ^ K < 16
  | 0, h => ⟨0, Nat.le_refl _, fun k hk => absurd hk (by omega), by simpa using h⟩
  | m + 1, h => by
    by_cases h1 : n < 16 ^ (m + 1)
    · obtain ⟨K, hK, h2, h3⟩ := hexK n m h1
      exact ⟨K, by omega, h2, h3⟩
    · refine ⟨m + 1, Nat.le_refl _, fun k hk => ?_, ?_⟩
      · rw [Nat.le_div_iff_mul_le (Nat.pow_pos (by omega)), Nat.mul_comm, ← Nat.pow_succ]
        exact Nat.le_trans (Nat.pow_le_pow_right (by omega) (by omega)) (Nat.le_of_not_lt h1)
      · rw [Nat.div_lt_iff_lt_mul (Nat.pow_pos (by omega)), Nat.mul_comm, ← Nat.pow_succ]
        exact h
theorem lows_length : ∀ k n, (lows k n).length = k
  | 0, _ => rfl
  | k + 1, n => by simp [lows, lows_length k n]
theorem lows_pad (n K : Nat) (h : n / 16 ^ K < 16) : ∀ j, lows (K + 1 + j) n = List.replicate j 48 ++ lows (K + 1) n
  | 0 => rfl
  | j + 1 => by
    show dig (n / 16 ^ (K + 1 + j) % 16) :: lows (K + 1 + j) n = _
    rw [lows_pad n K h j]
    have : n / 16 ^ (K + 1 + j) = 0 := by
      rw [Nat.add_assoc, Nat.pow_add, ← Nat.div_div_eq_div_mul, Nat.div_eq_of_lt]
      exact Nat.lt_of_lt_of_le h (by
        have : 16 ^ 1 ≤ 16 ^ (1 + j) := Nat.pow_le_pow_right (by omega) (by omega)
        omega)
    rw [this]
    rfl
theorem fmtI (n K : Nat) (hn : n < 2 ^ 64) (hK : K ≤ 15) (hlo : ∀ k, k < K → 16 ≤ n / 16 ^ k) (hhi : n / 16 ^ K < 16) (w : World) (ht : w.cell? ⟨3, 15, none⟩ = some (.int .u8 4)) :
    Calls Tryd.prog 47 #[.int .u64 n, .int .i64 16] w fun e w' => e = .returned (.string (strB (lows (K + 1) n))) ∧ Below w.heap.size w w' := by
  have H := Lib.hid (fmt16 n K hn hK hlo hhi w ht)
  clear hn hlo hhi ht
  go_enter Tryd.func47, Tryd.ntmps47
  go_wp2_with (go_at_call 70; refine H.out.mono ?_; rintro e w' ⟨rfl, hB⟩; have HB := Lib.hid hB; clear hB)
  go_ret
  exact ⟨rfl, HB.out⟩
theorem fmtU (n K : Nat) (hn : n < 2 ^ 64) (hK : K ≤ 15) (hlo : ∀ k, k < K → 16 ≤ n / 16 ^ k) (hhi : n / 16 ^ K < 16) (w : World) (ht : w.cell? ⟨3, 15, none⟩ = some (.int .u8 4)) :
    Calls Tryd.prog 28 #[.int .u64 n, .int .i64 16] w fun e w' => e = .returned (.string (strB (lows (K + 1) n))) ∧ Below w.heap.size w w' := by
  have H := Lib.hid (fmtI n K hn hK hlo hhi w ht)
  clear hn hlo hhi ht
  go_enter Tryd.func28, Tryd.ntmps28
  go_wp2_with (go_at_call 47; refine H.out.mono ?_; rintro e w' ⟨rfl, hB⟩; have HB := Lib.hid hB; clear hB)
  go_ret
  exact ⟨rfl, HB.out⟩
theorem strB_append (a b : List UInt8) : strB (a ++ b) = strB a ++ strB b := by
  apply ByteArray.ext
  rw [ByteArray.data_append]
  show (a ++ b).toArray = a.toArray ++ b.toArray
  simp
set_option maxRecDepth 100000 in
theorem num_rec (n : Nat) (hn : n < 2 ^ 63) (w : World) (ht : w.cell? ⟨3, 15, none⟩ = some (.int .u8 4)) :
    Calls Tryd.prog 8 #[.int .i64 n] w fun e w' => e = .returned (.string (strB (lows 16 n))) ∧ Below w.heap.size w w' := by
  obtain ⟨K, hK, hlo, hhi⟩ := hexK n 15 (Nat.lt_of_lt_of_le hn (by decide))
  have H := Lib.hid (fmtU n K (by omega) hK hlo hhi w ht)
  have HP := Lib.hid (lows_pad n K hhi (15 - K))
  have HL : Hid ((strB (lows (K + 1) n)).size = K + 1) := Lib.hid (by show (lows (K + 1) n).toArray.size = K + 1; simp [lows_length])
  clear hlo hhi ht
  have hn0 : (n : Int) < 9223372036854775808 := by omega
  clear hn
  go_enter Tryd.func8, Tryd.ntmps8
  go_upto_region 2 with (go_at_call 28; refine H.out.mono ?_; rintro e w1 ⟨rfl, hB⟩; have HB := Lib.hid hB; clear hB)
  obtain ⟨z, hz⟩ : ∃ z, z + (K + 1) = 16 := ⟨15 - K, by omega⟩
  have hs : (((strB (lows (K + 1) n)).size : Nat) : Int) = (K : Int) + 1 := by rw [HL.out]; rfl
  have HS : Hid (zeros z ++ strB (lows (K + 1) n) = strB (lows 16 n)) := Lib.hid (by
    have := HP.out
    rw [show K + 1 + (15 - K) = 16 by omega, show 15 - K = z by omega] at this
    rw [this, strB_append]
    congr 1)
  generalize strB (lows (K + 1) n) = sv at *
  have hz2 : (16 : Int) - ((K : Int) + 1) = (z : Int) := by omega
  have HZ : Hid (z ≤ 15) := Lib.hid (by omega)
  have hz3 : (16 : Int) - (sv.size : Int) = (z : Int) := by rw [hs]; exact hz2
  have hcat : ¬ 9223372036854775807 < (zeros z).size + sv.size := by
    have h1 : (zeros z).size = z := by show (Array.replicate z (48 : UInt8)).size = z; simp
    have := HL.out
    omega
  clear hz hs hz2 hK hn0
  go_wp2_with (go_at_call 29; refine (rep_zeros z HZ.out _).mono ?_; rintro e w' ⟨rfl, rfl⟩)
  go_ret
  exact ⟨by rw [← HS.out]; first | rfl | (congr 2), HB.out⟩
end Go.Proofs.YtehkgcmdndehaaaDoor

