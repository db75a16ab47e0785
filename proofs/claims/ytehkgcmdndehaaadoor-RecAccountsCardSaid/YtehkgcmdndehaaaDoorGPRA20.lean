/- Part of the proof: merged texts. -/
import Derived.Test.YtehkgcmdndehaaaDoorGPRA19
import Derived.Deep.DeepCutAuto
import Derived.Deep.CutBlock
namespace Go.Proofs.YtehkgcmdndehaaaDoor
set_option linter.unusedSimpArgs false
set_option linter.unusedVariables false
open Go.RowKit

set_option maxHeartbeats 3200000 in
set_option maxRecDepth 100000 in
theorem rw_lot (rb : Nat) (v : Value) (zs : List UInt8) (cs : List Value) (l : LotD) (w : World) (h : RW w rb v zs cs) (hp : ∀ (j : Nat) (u : Value), l.cells.toList[j]? = some u → cs[32 + j]? = some u) (hl : zs.length + 72 ≤ 1000000) :
    Calls Tryd.prog 30 #[.pointer (some ⟨rb, 0, none⟩), .int .i64 3] w (RWPost w rb v (zs ++ encLot l) cs) := by
  obtain ⟨ns, hns⟩ : ∃ ns, ns = l.nums := ⟨_, rfl⟩
  obtain ⟨v1, hv1⟩ : ∃ v1, v1 = v := ⟨_, rfl⟩
  have HN : Hid ((∀ (k : Nat) (n : Int), ns[k]? = some n → cs[32 + k]? = some (.int .i64 n)) ∧ ns.length = 9) := Lib.hid ⟨fun k n hk => hp k _ (by rw [Array.getElem?_toList]; exact lotCells_at l k n (hns ▸ hk)), by rw [hns]; rfl⟩
  have HL : Hid (zs.length + 72 ≤ 1000000) := Lib.hid hl
  have R1 : Hid (RW w rb v1 zs cs) := Lib.hid (hv1 ▸ h)
  have G1 : Hid (Gr w w rb v v1) := Lib.hid (hv1 ▸ Gr.refl _ _ _)
  rw [encLot, ← hns]
  clear h hp hl hns hv1
  go_enter Tryd.func30, Tryd.ntmps30
  go_wp2_with fail
  refine (rr_numbers rb 3 _).mono ?_
  rintro e w2 ⟨ao, rfl, hB2, hP⟩
  obtain ⟨offs, ho⟩ : ∃ o, o = recOffs 3 := ⟨_, rfl⟩
  rw [← ho] at hP ⊢
  have h9 : offs.length = ns.length := by rw [ho, HN.out.2]; rfl
  have hoff : ∀ k : Nat, offs[k]? = if k < 9 then some (34 + k) else none := fun k => by
    rw [ho]; match k with
    | 0 | 1 | 2 | 3 | 4 | 5 | 6 | 7 | 8 => rfl
    | k + 9 => rw [if_neg (by omega)]; simp [recOffs]
  have O := Lib.hid (And.intro h9 (And.intro hoff hP))
  clear h9 hoff hP ho
  have R2 := Lib.hid (R1.out.below hB2)
  have hs2 := hB2.size
  have hlt1 := Lib.hid (fun k h => R1.out.row.own.lt k h)
  have hrlt := R1.out.lt
  have BB2 := Lib.hid hB2
  clear hB2
  go_wp2
  go_loopg [7, 157] offs.length (fun g s7 s157 wr => ∃ (k : Nat) (vr : Value), k + g = offs.length ∧ s157 = .int .i64 k ∧ RW wr rb vr (zs ++ encInts (ns.take k)) cs ∧ Gr w2 wr rb v1 vr)
  case atStart => exact ⟨0, v1, by omega, rfl, by simpa [encInts] using R2.out, Gr.refl _ _ _⟩
  case round =>
    obtain ⟨k, vr, hkg, rfl, hrow, hput⟩ := hrel
    have hsz := hput.size
    cases gk with
    | zero =>
      have hk : ¬ ((k : Int) < (offs.length : Int)) := by omega
      have F : Hid (RW wr rb vr (zs ++ encInts ns) cs) := Lib.hid (by
        rwa [List.take_of_length_le (by have := O.out.1; omega)] at hrow)
      have GF : Hid (Gr w wr rb v vr) := Lib.hid ((G1.out.trans (Gr.of_below BB2.out)).trans hput)
      clear hrow hput
      go_wp2
      go_end0
      exact ⟨vr, rfl, F.out, GF.out⟩
    | succ g =>
      have hk : (k : Int) < (offs.length : Int) := by omega
      have hk9 : k < 9 := by have := O.out.1; have := HN.out.2; omega
      obtain ⟨n, hn⟩ : ∃ n, ns[k]? = some n := ⟨_, List.getElem?_eq_getElem (by have := O.out.1; omega)⟩
      obtain ⟨nb, rfl, hnb1, hnb2, hcp⟩ := O.out.2.2 k (34 + k) (by rw [O.out.2.1, if_pos hk9])
      have hcp' := (hput.cell (a := ⟨nb, k, none⟩) hnb2 (by show nb ≠ rb; omega) (fun e => by have := hlt1.out nb e; omega)).trans hcp
      have hcn : wr.cell? ⟨rb, 34 + k, none⟩ = some (.int .i64 n) := hrow.cell (34 + k) (by omega) (by rw [show 34 + k - 2 = 32 + k by omega]; exact HN.out.1 k n hn)
      have hrb : rb < wr.heap.size := by omega
      have HT := Lib.hid (encInts_take ns k n hn)
      have hfit : (zs ++ encInts (ns.take k)).length + 8 * [n].length ≤ 1000000 := by
        have := encInts_take_length ns k
        have := HL.out
        have := HN.out.2
        simp only [List.length_append, List.length_singleton] at *
        omega
      have HR2 := Lib.hid (And.intro hrow hput)
      clear hrow hput hn hcp
      go_wp2
      go_region_with (go_at_call 56; go_must (refine (rw_ints rb wr.heap.size 1 _ _ vr _ cs [n] wr _ HR2.out.1 hfit (by simp) rfl (below_alloc _ _).drew (Nat.le_refl _) (heap_alloc_new _ _) rfl).mono ?_); rintro e w3 ⟨v3, rfl, hrow3, hput3⟩)
      all_goals have X := Lib.hid (And.intro hrow3 hput3)
      all_goals clear hrow3 hput3
      all_goals go_wp2
      all_goals go_roundg g
      all_goals first
        | (case measure => omega)
        | skip
      all_goals
        refine ⟨k + 1, _, by omega, by first | rfl | go_num, ?_, HR2.out.2.trans X.out.2⟩
        rw [HT.out, ← List.append_assoc]
        have := X.out.1
        simpa [encInts] using this

set_option maxHeartbeats 3200000 in
set_option maxRecDepth 100000 in
theorem rw_told (rb : Nat) (v : Value) (zs : List UInt8) (cs : List Value) (a : AnsD) (w : World) (h : RW w rb v zs cs) (hp : ∀ (j : Nat) (u : Value), a.cells.toList[j]? = some u → cs[19 + j]? = some u) (hl : zs.length + 400 ≤ 1000000) (hn : a.stmt.name.size ≤ 255) :
    Calls Tryd.prog 58 #[.pointer (some ⟨rb, 0, none⟩)] w (RWPost w rb v (zs ++ (if a.stmt.term = 0 then [0] else 1 :: encStmt a.stmt)) (if a.stmt.term = 0 then cs else wrC cs 12 a.stmt.cells.toList)) := by
  have hterm : w.cell? ⟨rb, 26, none⟩ = some (.int .i64 a.stmt.term) := h.cell 26 (by omega) (hp 5 _ rfl)
  have hl2 := h.len
  have R0 := Lib.hid h
  have HP := Lib.hid hp
  have HL := Lib.hid (And.intro hl (And.intro hn hl2))
  clear h hp hl hn hl2
  by_cases ht : a.stmt.term = 0
  · have hb : (a.stmt.term == 0) = true := by rw [ht]; rfl
    rw [if_pos ht, if_pos ht]
    clear ht
    go_enter Tryd.func58, Tryd.ntmps58
    go_wp2_with (go_at_call 55; refine (rw_byte rb v zs cs 0 w R0.out (by have := HL.out.1; omega)).mono ?_; rintro e w1 ⟨v1, rfl, hr1, hg1⟩; have X1 := Lib.hid (And.intro hr1 hg1); clear hr1 hg1)
    go_end0
    exact ⟨v1, rfl, X1.out.1, X1.out.2⟩
  · have hb : (a.stmt.term == 0) = false := by simp [ht]
    rw [if_neg ht, if_neg ht]
    clear ht
    go_enter Tryd.func58, Tryd.ntmps58
    go_upto_region 3 with (go_at_call 55; refine (rw_byte rb v zs cs 1 w R0.out (by have := HL.out.1; omega)).mono ?_; rintro e w1 ⟨v1, rfl, hr1, hg1⟩; have X1 := Lib.hid (And.intro hr1 hg1); clear hr1 hg1)
    clear hterm
    have hrg : w1.rangeAt rb 25 a.stmt.cells.toList := X1.out.1.range 25 (by omega) _ (fun j u hj => by
      rw [show 25 - 2 + j = 19 + (4 + j) by omega]
      refine HP.out (4 + j) u ?_
      match j, hj with
      | 0, hj | 1, hj | 2, hj | 3, hj | 4, hj | 5, hj | 6, hj | 7, hj | 8, hj => exact hj
      | j + 9, hj => simp [StmtD.cells] at hj)
    have HRG := Lib.hid hrg
    clear hrg
    go_upto_region 4 with (first
      | (refine wpList_load_mid rfl 28 (.tmp 21) rfl rb 25 rfl a.stmt.cells.toList _ HRG.out Tryd.underlying28 rfl (by kernel_rfl) ?_)
      | (refine wpList_store_mid rfl 28 (.tmp 24) (.tmp 22) rfl rb 12 a.stmt.cells rfl rfl (X1.out.1.there 12 9 (by omega) (by omega)) (by kernel_rfl) (stmt_one_cells _) ?_))
    change Code.wp _ _ _ _ (w1.setCells rb 12 a.stmt.cells.toList)
    have X2 : Hid (RW (w1.setCells rb 12 a.stmt.cells.toList) rb v1 (zs ++ [byteOf 1]) (wrC cs 12 a.stmt.cells.toList) ∧ Gr w (w1.setCells rb 12 a.stmt.cells.toList) rb v v1) := Lib.hid ⟨X1.out.1.set 12 _ (by omega) (by show 12 + 9 ≤ 81; omega), X1.out.2.trans (Gr.of_setCells _ _)⟩
    generalize w1.setCells rb 12 a.stmt.cells.toList = W2 at *
    clear X1 HRG
    go_wp2_with (go_at_call 30; refine (rw_stmt rb v1 (zs ++ [byteOf 1]) (wrC cs 12 a.stmt.cells.toList) a.stmt W2 X2.out.1 (fun j u hj => by
        rw [show 10 + j = 12 - 2 + j by omega, wrC_in _ _ _ (by have := HL.out.2.2; show 12 - 2 + 9 ≤ cs.length; omega) j (List.getElem?_eq_some_iff.1 hj).1]; exact hj) (by have := HL.out; simp only [List.length_append, List.length_singleton, encStmt, encText_length, encInts_length, StmtD.nums, List.length_cons, List.length_nil]; omega)).mono ?_; rintro e w3 ⟨v3, rfl, hr3, hg3⟩; have X3 := Lib.hid (And.intro hr3 hg3); clear hr3 hg3)
    go_end0
    refine ⟨v3, rfl, ?_, X2.out.2.trans X3.out.2⟩
    have := X3.out.1
    rw [List.append_assoc] at this
    exact this

set_option maxHeartbeats 3200000 in
set_option maxRecDepth 100000 in
theorem rw_ans (rb : Nat) (v : Value) (xs : List UInt8) (cs : List Value) (a : AnsD) (w : World) (h : RW w rb v xs cs) (hp : ∀ (j : Nat) (u : Value), a.cells.toList[j]? = some u → cs[19 + j]? = some u) (hl : xs.length + 500 ≤ 1000000) (hn : a.stmt.name.size ≤ 255) :
    Calls Tryd.prog 30 #[.pointer (some ⟨rb, 0, none⟩), .int .i64 2] w (RWPost w rb v (xs ++ encAns a) (if a.stmt.term = 0 then cs else wrC cs 12 a.stmt.cells.toList)) := by
  have herr : w.cell? ⟨rb, 21, none⟩ = some (.int .i64 a.err) := h.cell 21 (by omega) (hp 0 _ rfl)
  have R0 := Lib.hid h
  have HP := Lib.hid hp
  have HLL := Lib.hid (And.intro hl hn)
  obtain ⟨cs2, hcs2⟩ : ∃ c, c = (if a.stmt.term = 0 then cs else wrC cs 12 a.stmt.cells.toList) := ⟨_, rfl⟩
  rw [← hcs2]
  have HCS := Lib.hid hcs2
  clear h hp hl hn hcs2
  go_enter Tryd.func30, Tryd.ntmps30
  go_wp2
  go_region_with (go_at_call 55; refine (rw_byte rb v xs cs a.err _ (R0.out.below (Below.refl _ _).drew) (by have := HLL.out.1; omega)).mono ?_; rintro e w1 ⟨v1, rfl, hr1, hg1⟩)
  have R1 := Lib.hid hr1
  have G1 : Hid (Gr w w1 rb v v1) := Lib.hid hg1.undrew
  clear hr1 hg1 herr
  obtain ⟨ns, hns⟩ : ∃ ns, ns = [a.left, a.over, a.n] := ⟨_, rfl⟩
  have HN : Hid ((∀ (k : Nat) (n : Int), ns[k]? = some n → cs[20 + k]? = some (.int .i64 n)) ∧ ns.length = 3) := Lib.hid ⟨fun k n hk => by
    rw [hns] at hk
    match k, hk with
    | 0, hk => cases hk; exact HP.out 1 _ rfl
    | 1, hk => cases hk; exact HP.out 2 _ rfl
    | 2, hk => cases hk; exact HP.out 3 _ rfl
    | k + 3, hk => simp at hk, by rw [hns]; rfl⟩
  have HNS := Lib.hid hns
  obtain ⟨zs, hzs⟩ : ∃ zs, zs = xs ++ [byteOf a.err] := ⟨_, rfl⟩
  rw [← hzs] at R1
  have HZS := Lib.hid hzs
  have HL : Hid (zs.length + 72 ≤ 1000000) := Lib.hid (by rw [hzs]; simp only [List.length_append, List.length_singleton]; have := HLL.out.1; omega)
  clear hns hzs
  go_wp2_with fail
  refine (rr_numbers rb 2 _).mono ?_
  rintro e w2 ⟨ao, rfl, hB2, hP⟩
  obtain ⟨offs, ho⟩ : ∃ o, o = recOffs 2 := ⟨_, rfl⟩
  rw [← ho] at hP ⊢
  have h9 : offs.length = ns.length := by rw [ho, HN.out.2]; rfl
  have hoff : ∀ k : Nat, offs[k]? = if k < 3 then some (22 + k) else none := fun k => by
    rw [ho]; match k with
    | 0 | 1 | 2 => rfl
    | k + 3 => rw [if_neg (by omega)]; simp [recOffs]
  have O := Lib.hid (And.intro h9 (And.intro hoff hP))
  clear h9 hoff hP ho
  have R2 := Lib.hid (R1.out.below hB2)
  have hs2 := hB2.size
  have hlt1 := Lib.hid (fun k h => R1.out.row.own.lt k h)
  have hrlt := R1.out.lt
  have BB2 := Lib.hid hB2
  clear hB2
  go_wp2
  go_loopg [7, 157] offs.length (fun g s7 s157 wr => ∃ (k : Nat) (vr : Value), k + g = offs.length ∧ s157 = .int .i64 k ∧ RW wr rb vr (zs ++ encInts (ns.take k)) cs ∧ Gr w2 wr rb v1 vr)
  case atStart => exact ⟨0, v1, by omega, rfl, by simpa [encInts] using R2.out, Gr.refl _ _ _⟩
  case round =>
    obtain ⟨k, vr, hkg, rfl, hrow, hput⟩ := hrel
    have hsz := hput.size
    cases gk with
    | zero =>
      have hk : ¬ ((k : Int) < (offs.length : Int)) := by omega
      have F : Hid (RW wr rb vr (zs ++ encInts ns) cs) := Lib.hid (by
        rwa [List.take_of_length_le (by have := O.out.1; omega)] at hrow)
      have GF : Hid (Gr w wr rb v vr) := Lib.hid ((G1.out.trans (Gr.of_below BB2.out)).trans hput)
      clear hrow hput
      go_wp2_with (go_at_call 58; refine (rw_told rb vr (zs ++ encInts ns) cs a wr F.out HP.out (by rw [HZS.out, HNS.out]; simp only [List.length_append, List.length_singleton, encInts_length, List.length_cons, List.length_nil]; have := HLL.out.1; omega) HLL.out.2).mono ?_; rintro e w3 ⟨v3, rfl, hr3, hg3⟩; have X3 := Lib.hid (And.intro hr3 hg3); clear hr3 hg3)
      go_end0
      refine ⟨v3, rfl, ?_, GF.out.trans X3.out.2⟩
      have := X3.out.1
      rw [HZS.out, HNS.out, List.append_assoc, List.append_assoc, ← HCS.out] at this
      exact this
    | succ g =>
      have hk : (k : Int) < (offs.length : Int) := by omega
      have hk9 : k < 3 := by have := O.out.1; have := HN.out.2; omega
      obtain ⟨n, hn⟩ : ∃ n, ns[k]? = some n := ⟨_, List.getElem?_eq_getElem (by have := O.out.1; omega)⟩
      obtain ⟨nb, rfl, hnb1, hnb2, hcp⟩ := O.out.2.2 k (22 + k) (by rw [O.out.2.1, if_pos hk9])
      have hcp' := (hput.cell (a := ⟨nb, k, none⟩) hnb2 (by show nb ≠ rb; omega) (fun e => by have := hlt1.out nb e; omega)).trans hcp
      have hcn : wr.cell? ⟨rb, 22 + k, none⟩ = some (.int .i64 n) := hrow.cell (22 + k) (by omega) (by rw [show 22 + k - 2 = 20 + k by omega]; exact HN.out.1 k n hn)
      have hrb : rb < wr.heap.size := by omega
      have HT := Lib.hid (encInts_take ns k n hn)
      have hfit : (zs ++ encInts (ns.take k)).length + 8 * [n].length ≤ 1000000 := by
        have := encInts_take_length ns k
        have := HL.out
        have := HN.out.2
        simp only [List.length_append, List.length_singleton] at *
        omega
      have HR2 := Lib.hid (And.intro hrow hput)
      clear hrow hput hn hcp
      go_wp2
      go_region_with (go_at_call 56; go_must (refine (rw_ints rb wr.heap.size 1 _ _ vr _ cs [n] wr _ HR2.out.1 hfit (by simp) rfl (below_alloc _ _).drew (Nat.le_refl _) (heap_alloc_new _ _) rfl).mono ?_); rintro e w3 ⟨v3, rfl, hrow3, hput3⟩)
      all_goals have X := Lib.hid (And.intro hrow3 hput3)
      all_goals clear hrow3 hput3
      all_goals go_wp2
      all_goals go_roundg g
      all_goals first
        | (case measure => omega)
        | skip
      all_goals
        refine ⟨k + 1, _, by omega, by first | rfl | go_num, ?_, HR2.out.2.trans X.out.2⟩
        rw [HT.out, ← List.append_assoc]
        have := X.out.1
        simpa [encInts] using this
end Go.Proofs.YtehkgcmdndehaaaDoor

