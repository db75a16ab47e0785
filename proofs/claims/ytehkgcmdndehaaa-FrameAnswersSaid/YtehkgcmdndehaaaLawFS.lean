import Derived.Test.YtehkgcmdndehaaaLaw18
namespace Go.Proofs.Ytehkgcmdndehaaa
set_option linter.unusedSimpArgs false
set_option linter.unusedVariables false
open Go.RowKit

theorem below_drewN {B : Nat} {w w' : World} (h : Below B w w') (n : Nat) : Below B w (w'.drewN n) := ⟨h.os, h.tape, h.output, h.size, h.block⟩
theorem bytes_size (q : ReqD) : q.bytes.length = 2 + q.key.size + 8 * q.nums.length + (encTexts q.texts).length + 8 * q.more.length + (if q.kind = 16 then q.plan.name.size + 73 else 0) := by
  unfold ReqD.bytes
  split
  · simp only [List.length_append, List.length_cons, List.cons_append, encText_length, encInts_length, encPlan_length]; omega
  · simp only [List.length_append, List.length_cons, List.cons_append, encText_length, encInts_length, List.length_nil]; omega
theorem ReqOk.sizes {q : ReqD} (h : ReqOk q) : q.key.size ≤ 140737488351232 ∧ q.name.size ≤ 140737488351232 ∧ q.secret.size ≤ 140737488351232 ∧ q.plan.name.size ≤ 140737488351232 := by
  obtain ⟨_, h1, _, _, _, _, h2, h3, h4, _⟩ := h
  exact ⟨h1, h2, h3, h4⟩
theorem bytes_head (q : ReqD) : q.bytes[0]? = some (byteOf q.kind) := by unfold ReqD.bytes; rfl

theorem bytes_size1 (q : ReqD) (h : q.kind = 1) : q.bytes.length = 2 + q.key.size + 24 := by
  rw [bytes_size]; simp only [ReqD.nums, ReqD.texts, ReqD.more, h]; simp [encTexts, encText]; try omega
theorem bytes_size4 (q : ReqD) (h : q.kind = 4) : q.bytes.length = 2 + q.key.size + 24 := by
  rw [bytes_size]; simp only [ReqD.nums, ReqD.texts, ReqD.more, h]; simp [encTexts, encText]; try omega
theorem bytes_size2 (q : ReqD) (h : q.kind = 2) : q.bytes.length = 2 + q.key.size + 24 := by
  rw [bytes_size]; simp only [ReqD.nums, ReqD.texts, ReqD.more, h]; simp [encTexts, encText]; try omega
theorem bytes_size3 (q : ReqD) (h : q.kind = 3) : q.bytes.length = 2 + q.key.size + 16 := by
  rw [bytes_size]; simp only [ReqD.nums, ReqD.texts, ReqD.more, h]; simp [encTexts, encText]; try omega
theorem bytes_size5 (q : ReqD) (h : q.kind = 5) : q.bytes.length = 2 + q.key.size := by
  rw [bytes_size]; simp only [ReqD.nums, ReqD.texts, ReqD.more, h]; simp [encTexts, encText]; try omega
theorem bytes_size16 (q : ReqD) (h : q.kind = 16) : q.bytes.length = 2 + q.key.size + 1 + q.plan.name.size + 72 := by
  rw [bytes_size]; simp only [ReqD.nums, ReqD.texts, ReqD.more, h]; simp [encTexts, encText]; try omega
theorem bytes_size17 (q : ReqD) (h : q.kind = 17) : q.bytes.length = 2 + q.key.size + 3 + q.name.size + q.secret.size + q.plan.name.size + 8 := by
  rw [bytes_size]; simp only [ReqD.nums, ReqD.texts, ReqD.more, h]; simp [encTexts, encText]; try omega
theorem bytes_size18 (q : ReqD) (h : q.kind = 18) : q.bytes.length = 2 + q.key.size + 2 + q.name.size + q.plan.name.size + 8 := by
  rw [bytes_size]; simp only [ReqD.nums, ReqD.texts, ReqD.more, h]; simp [encTexts, encText]; try omega
theorem bytes_size19 (q : ReqD) (h : q.kind = 19) : q.bytes.length = 2 + q.key.size + 8 := by
  rw [bytes_size]; simp only [ReqD.nums, ReqD.texts, ReqD.more, h]; simp [encTexts, encText]; try omega
theorem bytes_size20 (q : ReqD) (h : q.kind = 20) : q.bytes.length = 2 + q.key.size + 1 + q.name.size + 8 := by
  rw [bytes_size]; simp only [ReqD.nums, ReqD.texts, ReqD.more, h]; simp [encTexts, encText]; try omega

set_option maxHeartbeats 3200000 in
set_option maxRecDepth 100000 in
theorem frameSizes_small (q : ReqD) (hq : ReqOk q) (w : World) (hf : q.few = true) (h1 : q.key.size ≤ 255) (h2 : q.name.size ≤ 255) (h3 : q.secret.size ≤ 255) (h4 : q.plan.name.size ≤ 255) :
    Calls Try.prog 3 #[.agg q.cells] w (TrueBelow w) := by
  have hlong : q.long = false := by
    unfold ReqD.long
    have hb : ∀ s : ByteArray, s.size ≤ 255 → longB s = false := fun s h => by simp [longB]; omega
    simp only [Bool.or_eq_false_iff]
    refine ⟨hb _ h1, ?_⟩
    split
    · simp [hb _ h4]
    · unfold ReqD.texts
      split
      · simp [hb _ h2, hb _ h3, hb _ h4]
      · split
        · simp [hb _ h2, hb _ h4]
        · split <;> simp [hb _ h2]
  have c0 : q.cells[0]? = some (.int .i64 q.kind) := rfl
  have c1 : q.cells[1]? = some (.string q.key) := rfl
  have c6 : q.cells[6]? = some (.string q.name) := rfl
  have c7 : q.cells[7]? = some (.string q.secret) := rfl
  have c8 : q.cells[8]? = some (.string q.plan.name) := rfl
  have HL := Lib.hid hlong
  have HQ := Lib.hid hq
  clear hlong hq
  go_enter Try.func3, Try.ntmps3
  go_wp2_with fail
  refine (l18_known _).mono ?_
  rintro e w1 ⟨rfl, hB1⟩
  have hB01 := (below_alloc w (.cells q.cells 25)).trans (hB1.mono (by simp))
  have hblk : w1.heap[w.heap.size]? = some (.cells q.cells 25 (0, 0)) := (hB1.block w.heap.size (by simp)).trans (heap_alloc_new _ _)
  have HB1 := Lib.hid hblk
  have hlt1 : w.heap.size < w1.heap.size := (Array.getElem?_eq_some_iff.1 hblk).1
  clear hblk hB1
  generalize hrb : w.heap.size = rb at *
  have RB := Lib.hid hrb
  clear hrb
  have HF := Lib.hid hf
  clear hf
  go_wp2_with (refine wpList_load_row rfl 25 _ rfl rb rfl 25 _ (0,0) _ HB1.out Try.underlying25 (by kernel_rfl) (by kernel_rfl) ?_)
  refine (l18_few q HQ.out _).mono ?_
  rintro e w2 ⟨rfl, hB2⟩
  rw [HF.out]
  have HB2 := Lib.hid ((hB2.block rb hlt1).trans HB1.out)
  have hlt2 : rb < w2.heap.size := Nat.lt_of_lt_of_le hlt1 hB2.size
  have hB02 : Below rb w w2 := hB01.trans (hB2.mono (by omega))
  have d : ∀ j v, q.cells[j]? = some v → w2.cell? ⟨rb, j, none⟩ = some v := fun j v h => by rw [cell_of_row w2 _ _ _ _ _ HB2.out]; exact h
  have d0 := d 0 _ c0
  have d1 := d 1 _ c1
  have d6 := d 6 _ c6
  have d7 := d 7 _ c7
  have d8 := d 8 _ c8
  have D := Lib.hid d
  clear d hB2 HB1 hB01
  have i1 : ¬ (255 : Int) < (q.key.size : Int) := by omega
  have i2 : ¬ (255 : Int) < (q.name.size : Int) := by omega
  have i3 : ¬ (255 : Int) < (q.secret.size : Int) := by omega
  have i4 : ¬ (255 : Int) < (q.plan.name.size : Int) := by omega
  clear c0 c1 c6 c7 c8
  go_wp2_with (refine wpList_load_row rfl 25 _ rfl rb rfl 25 _ (0,0) _ HB2.out Try.underlying25 (by kernel_rfl) (by kernel_rfl) ?_)
  cases hk : kindB q.kind with
  | false =>
    have HK := Lib.hid hk
    refine (fr_enc_bad q w2 hk).mono ?_
    rintro e w3 ⟨rfl, hB3⟩
    have hB03 := hB02.trans (hB3.mono (by omega))
    have d0 := (hB3.cell (p := ⟨rb, 0, none⟩) hlt2).trans d0
    have d1 := (hB3.cell (p := ⟨rb, 1, none⟩) hlt2).trans d1
    have hn : ∀ k : Int, kindB k = true → ¬ q.kind = k := fun k h e => by rw [e, h] at hk; cases hk
    have n1 := hn 1 rfl
    have n2 := hn 2 rfl
    have n3 := hn 3 rfl
    have n4 := hn 4 rfl
    have n5 := hn 5 rfl
    have n16 := hn 16 rfl
    have n17 := hn 17 rfl
    have n18 := hn 18 rfl
    have n19 := hn 19 rfl
    have n20 := hn 20 rfl
    clear hn hk hB3 hB02 d6 d7 d8 hlt1 hlt2
    go_wp2
    go_ret
    exact ⟨rfl, by rw [RB.out]; exact hB03⟩
  | true =>
    have hcases : q.kind = 1 ∨ q.kind = 2 ∨ q.kind = 3 ∨ q.kind = 4 ∨ q.kind = 5 ∨ q.kind = 16 ∨ q.kind = 17 ∨ q.kind = 18 ∨ q.kind = 19 ∨ q.kind = 20 := by simp [kindB] at hk; omega
    have enc : Calls Try.prog 13 #[.agg q.cells] w2 (EncOk w2 q.bytes) := by
      by_cases h16 : q.kind = 16
      · exact fr_enc_plan q w2 hk h16 HL.out
      · exact fr_enc_ok q w2 hk h16 HL.out
    refine enc.mono ?_
    clear enc
    rintro e w3 ⟨v, rfl, hown, hB3⟩
    have hB03 := hB02.trans (hB3.mono (by omega))
    have d0 := (hB3.cell (p := ⟨rb, 0, none⟩) hlt2).trans d0
    have d1 := (hB3.cell (p := ⟨rb, 1, none⟩) hlt2).trans d1
    have d6 := (hB3.cell (p := ⟨rb, 6, none⟩) hlt2).trans d6
    have d7 := (hB3.cell (p := ⟨rb, 7, none⟩) hlt2).trans d7
    have d8 := (hB3.cell (p := ⟨rb, 8, none⟩) hlt2).trans d8
    have hpos : 0 < q.bytes.length := by rw [bytes_size]; omega
    obtain ⟨g, cap, rfl, hg1, hg2⟩ := hown.form hpos
    have hb0 : w3.cell? ⟨g, 0, none⟩ = some (.int .u8 ((byteOf q.kind).toNat : Int)) := hown.cells (g := g) rfl 0 _ (by simp [bcells, bytes_head])
    have hm := byteOf_mod q.kind
    have hsz := ReqOk.sizes HQ.out
    clear hown hB3 hB02 hk
    generalize hL : q.bytes.length = L at *
    generalize hT : (byteOf q.kind).toNat = T at *
    have HLL := Lib.hid hL
    clear hL hT
    rcases hcases with h | h | h | h | h | h | h | h | h | h
    · have hs := bytes_size1 q h
      rw [HLL.out] at hs
      have k1 : 1 ≤ q.kind := by omega
      have k2 : q.kind ≤ 1 := by omega
      have t1 : (T : Int) ≤ q.kind := by omega
      have t2 : q.kind ≤ (T : Int) := by omega
      have l1 : ((L : Int) == 2 + (q.key.size : Int) + 24) = true := by simp; omega
      have l2 : ((T : Int) == q.kind) = true := by simp; omega
      clear h hs hm
      go_wp2
      go_quiet (fail)
      go_wp2
      go_ret
      exact ⟨ret_bool (by simp), by rw [RB.out]; exact below_drewN hB03 _⟩
    · have hs := bytes_size2 q h
      rw [HLL.out] at hs
      have k1 : 2 ≤ q.kind := by omega
      have k2 : q.kind ≤ 2 := by omega
      have t1 : (T : Int) ≤ q.kind := by omega
      have t2 : q.kind ≤ (T : Int) := by omega
      have l1 : ((L : Int) == 2 + (q.key.size : Int) + 24) = true := by simp; omega
      have l2 : ((T : Int) == q.kind) = true := by simp; omega
      clear h hs hm
      go_wp2
      go_quiet (fail)
      go_wp2
      go_ret
      exact ⟨ret_bool (by simp), by rw [RB.out]; exact below_drewN hB03 _⟩
    · have hs := bytes_size3 q h
      rw [HLL.out] at hs
      have k1 : 3 ≤ q.kind := by omega
      have k2 : q.kind ≤ 3 := by omega
      have t1 : (T : Int) ≤ q.kind := by omega
      have t2 : q.kind ≤ (T : Int) := by omega
      have l1 : ((L : Int) == 2 + (q.key.size : Int) + 16) = true := by simp; omega
      have l2 : ((T : Int) == q.kind) = true := by simp; omega
      clear h hs hm
      go_wp2
      go_quiet (fail)
      go_wp2
      go_ret
      exact ⟨ret_bool (by simp), by rw [RB.out]; exact below_drewN hB03 _⟩
    · have hs := bytes_size4 q h
      rw [HLL.out] at hs
      have k1 : 4 ≤ q.kind := by omega
      have k2 : q.kind ≤ 4 := by omega
      have t1 : (T : Int) ≤ q.kind := by omega
      have t2 : q.kind ≤ (T : Int) := by omega
      have l1 : ((L : Int) == 2 + (q.key.size : Int) + 24) = true := by simp; omega
      have l2 : ((T : Int) == q.kind) = true := by simp; omega
      clear h hs hm
      go_wp2
      go_quiet (fail)
      go_wp2
      go_ret
      exact ⟨ret_bool (by simp), by rw [RB.out]; exact below_drewN hB03 _⟩
    · have hs := bytes_size5 q h
      rw [HLL.out] at hs
      have k1 : 5 ≤ q.kind := by omega
      have k2 : q.kind ≤ 5 := by omega
      have t1 : (T : Int) ≤ q.kind := by omega
      have t2 : q.kind ≤ (T : Int) := by omega
      have l1 : ((L : Int) == 2 + (q.key.size : Int)) = true := by simp; omega
      have l2 : ((T : Int) == q.kind) = true := by simp; omega
      clear h hs hm
      go_wp2
      go_quiet (fail)
      go_wp2
      go_ret
      exact ⟨ret_bool (by simp), by rw [RB.out]; exact below_drewN hB03 _⟩
    · have hs := bytes_size16 q h
      rw [HLL.out] at hs
      have k1 : 16 ≤ q.kind := by omega
      have k2 : q.kind ≤ 16 := by omega
      have t1 : (T : Int) ≤ q.kind := by omega
      have t2 : q.kind ≤ (T : Int) := by omega
      have l1 : ((L : Int) == 2 + (q.key.size : Int) + 1 + (q.plan.name.size : Int) + 72) = true := by simp; omega
      have l2 : ((T : Int) == q.kind) = true := by simp; omega
      clear h hs hm
      go_wp2
      go_quiet (fail)
      go_wp2
      go_ret
      exact ⟨ret_bool (by simp), by rw [RB.out]; exact below_drewN hB03 _⟩
    · have hs := bytes_size17 q h
      rw [HLL.out] at hs
      have k1 : 17 ≤ q.kind := by omega
      have k2 : q.kind ≤ 17 := by omega
      have t1 : (T : Int) ≤ q.kind := by omega
      have t2 : q.kind ≤ (T : Int) := by omega
      have l1 : ((L : Int) == 2 + (q.key.size : Int) + 3 + (q.name.size : Int) + (q.secret.size : Int) + (q.plan.name.size : Int) + 8) = true := by simp; omega
      have l2 : ((T : Int) == q.kind) = true := by simp; omega
      clear h hs hm
      go_wp2
      go_quiet (fail)
      go_wp2
      go_ret
      exact ⟨ret_bool (by simp), by rw [RB.out]; exact below_drewN hB03 _⟩
    · have hs := bytes_size18 q h
      rw [HLL.out] at hs
      have k1 : 18 ≤ q.kind := by omega
      have k2 : q.kind ≤ 18 := by omega
      have t1 : (T : Int) ≤ q.kind := by omega
      have t2 : q.kind ≤ (T : Int) := by omega
      have l1 : ((L : Int) == 2 + (q.key.size : Int) + 2 + (q.name.size : Int) + (q.plan.name.size : Int) + 8) = true := by simp; omega
      have l2 : ((T : Int) == q.kind) = true := by simp; omega
      clear h hs hm
      go_wp2
      go_quiet (fail)
      go_wp2
      go_ret
      exact ⟨ret_bool (by simp), by rw [RB.out]; exact below_drewN hB03 _⟩
    · have hs := bytes_size19 q h
      rw [HLL.out] at hs
      have k1 : 19 ≤ q.kind := by omega
      have k2 : q.kind ≤ 19 := by omega
      have t1 : (T : Int) ≤ q.kind := by omega
      have t2 : q.kind ≤ (T : Int) := by omega
      have l1 : ((L : Int) == 2 + (q.key.size : Int) + 8) = true := by simp; omega
      have l2 : ((T : Int) == q.kind) = true := by simp; omega
      clear h hs hm
      go_wp2
      go_quiet (fail)
      go_wp2
      go_ret
      exact ⟨ret_bool (by simp), by rw [RB.out]; exact below_drewN hB03 _⟩
    · have hs := bytes_size20 q h
      rw [HLL.out] at hs
      have k1 : 20 ≤ q.kind := by omega
      have k2 : q.kind ≤ 20 := by omega
      have t1 : (T : Int) ≤ q.kind := by omega
      have t2 : q.kind ≤ (T : Int) := by omega
      have l1 : ((L : Int) == 2 + (q.key.size : Int) + 1 + (q.name.size : Int) + 8) = true := by simp; omega
      have l2 : ((T : Int) == q.kind) = true := by simp; omega
      clear h hs hm
      go_wp2
      go_quiet (fail)
      go_wp2
      go_ret
      exact ⟨ret_bool (by simp), by rw [RB.out]; exact below_drewN hB03 _⟩

set_option maxHeartbeats 3200000 in
set_option maxRecDepth 100000 in
theorem frameSizes_large (q : ReqD) (hq : ReqOk q) (w : World) (hf : q.few = false ∨ 255 < q.key.size ∨ 255 < q.name.size ∨ 255 < q.secret.size ∨ 255 < q.plan.name.size) :
    Calls Try.prog 3 #[.agg q.cells] w (TrueBelow w) := by
  have HC := Lib.hid hf
  clear hf
  have c0 : q.cells[0]? = some (.int .i64 q.kind) := rfl
  have c1 : q.cells[1]? = some (.string q.key) := rfl
  have c6 : q.cells[6]? = some (.string q.name) := rfl
  have c7 : q.cells[7]? = some (.string q.secret) := rfl
  have c8 : q.cells[8]? = some (.string q.plan.name) := rfl
  have HQ := Lib.hid hq
  clear hq
  go_enter Try.func3, Try.ntmps3
  go_wp2_with fail
  refine (l18_known _).mono ?_
  rintro e w1 ⟨rfl, hB1⟩
  have hB01 := (below_alloc w (.cells q.cells 25)).trans (hB1.mono (by simp))
  have hblk : w1.heap[w.heap.size]? = some (.cells q.cells 25 (0, 0)) := (hB1.block w.heap.size (by simp)).trans (heap_alloc_new _ _)
  have HB1 := Lib.hid hblk
  have hlt1 : w.heap.size < w1.heap.size := (Array.getElem?_eq_some_iff.1 hblk).1
  clear hblk hB1
  generalize hrb : w.heap.size = rb at *
  have RB := Lib.hid hrb
  clear hrb
  go_wp2_with (refine wpList_load_row rfl 25 _ rfl rb rfl 25 _ (0,0) _ HB1.out Try.underlying25 (by kernel_rfl) (by kernel_rfl) ?_)
  refine (l18_few q HQ.out _).mono ?_
  rintro e w2 ⟨rfl, hB2⟩
  have HB2 := Lib.hid ((hB2.block rb hlt1).trans HB1.out)
  have hlt2 : rb < w2.heap.size := Nat.lt_of_lt_of_le hlt1 hB2.size
  have hB02 : Below rb w w2 := hB01.trans (hB2.mono (by omega))
  have d : ∀ j v, q.cells[j]? = some v → w2.cell? ⟨rb, j, none⟩ = some v := fun j v h => by rw [cell_of_row w2 _ _ _ _ _ HB2.out]; exact h
  have d0 := d 0 _ c0
  have d1 := d 1 _ c1
  have d6 := d 6 _ c6
  have d7 := d 7 _ c7
  have d8 := d 8 _ c8
  have D := Lib.hid d
  clear d hB2 HB1 hB01
  clear c0 c1 c6 c7 c8
  have fin : Below w.heap.size w w2 := by rw [RB.out]; exact hB02
  have FIN := Lib.hid fin
  clear fin
  cases hf : q.few with
  | false =>
    go_wp2
    go_ret
    exact ⟨rfl, FIN.out⟩
  | true =>
    by_cases i1 : (255 : Int) < (q.key.size : Int)
    · go_wp2
      go_ret
      exact ⟨rfl, FIN.out⟩
    · by_cases i2 : (255 : Int) < (q.name.size : Int)
      · go_wp2
        go_ret
        exact ⟨rfl, FIN.out⟩
      · by_cases i3 : (255 : Int) < (q.secret.size : Int)
        · go_wp2
          go_ret
          exact ⟨rfl, FIN.out⟩
        · have i4 : (255 : Int) < (q.plan.name.size : Int) := by
            rcases HC.out with h | h | h | h | h
            · rw [hf] at h; cases h
            all_goals omega
          go_wp2
          go_ret
          exact ⟨rfl, FIN.out⟩

theorem frameSizes_walk (q : ReqD) (hq : ReqOk q) (w : World) : Calls Try.prog 3 #[.agg q.cells] w (TrueBelow w) := by
  by_cases h : q.few = false ∨ 255 < q.key.size ∨ 255 < q.name.size ∨ 255 < q.secret.size ∨ 255 < q.plan.name.size
  · exact frameSizes_large q hq w h
  · simp only [not_or, Bool.not_eq_false, Nat.not_lt] at h
    exact frameSizes_small q hq w h.1 h.2.1 h.2.2.1 h.2.2.2.1 h.2.2.2.2

end Go.Proofs.Ytehkgcmdndehaaa
