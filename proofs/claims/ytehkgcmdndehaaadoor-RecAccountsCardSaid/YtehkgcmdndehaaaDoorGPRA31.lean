/- Part of the proof: merged texts. -/
import Derived.Test.YtehkgcmdndehaaaDoorGPRA22
namespace Go.Proofs.YtehkgcmdndehaaaDoor
set_option linter.unusedSimpArgs false
set_option linter.unusedVariables false
open Go.RowKit

set_option maxHeartbeats 3200000 in
set_option maxRecDepth 100000 in
theorem rw_acc (rb : Nat) (v : Value) (xs : List UInt8) (cs : List Value) (a : AccD) (lv hv wv : Value) (hs : List (HoldD × Value)) (w : World) (h : RW w rb v xs cs) (hp : ∀ (j : Nat) (u : Value), (a.cells lv hv wv).toList[j]? = some u → cs[59 + j]? = some u) (hin : AccIn w rb v a lv hv wv hs) (hl : xs.length + (encAcc a).length + 1000 ≤ 1000000) :
    Calls Tryd.prog 30 #[.pointer (some ⟨rb, 0, none⟩), .int .i64 6] w (RWPostA w rb v (xs ++ encAcc a) cs) := by
  have HLL : Hid (xs.length + (encText a.name).length + (encText a.key).length + (encPlan a.plan).length + 24 + (encLists a).length + 1000 ≤ 1000000) := Lib.hid (by
    simp only [encAcc, List.length_append, encInts_length, List.length_cons, List.length_nil] at hl
    omega)
  have c61 : w.cell? ⟨rb, 61, none⟩ = some (.string a.name) := h.cell 61 (by omega) (hp 0 _ rfl)
  have R0 := Lib.hid (And.intro h hin)
  have HP := Lib.hid hp
  have hrb := h.lt
  clear h hp hin hl
  go_enter Tryd.func30, Tryd.ntmps30
  go_wp2
  go_region_with (go_at_call 54; go_must (refine (rw_text rb v xs cs a.name _ (R0.out.1.below (Below.refl _ _).drew) (by have := HLL.out; omega)).mono ?_); rintro e w3 ⟨v3, rfl, hr3, hg3⟩)
  have X3 : Hid (RW w3 rb v3 (xs ++ encText a.name) cs ∧ Gr w w3 rb v v3) := Lib.hid ⟨hr3, hg3.undrew⟩
  clear hr3 hg3 c61
  have c62 : w3.cell? ⟨rb, 62, none⟩ = some (.string a.key) := X3.out.1.cell 62 (by omega) (HP.out 1 _ rfl)
  have hrb3 := X3.out.1.lt
  go_wp2
  go_region_with (go_at_call 54; go_must (refine (rw_text rb v3 _ cs a.key _ (X3.out.1.below (Below.refl _ _).drew) (by rw [List.length_append]; have := HLL.out; omega)).mono ?_); rintro e w4 ⟨v4, rfl, hr4, hg4⟩)
  have X4 : Hid (RW w4 rb v4 (xs ++ encText a.name ++ encText a.key) cs ∧ Gr w w4 rb v v4) := Lib.hid ⟨hr4, X3.out.2.trans hg4.undrew⟩
  clear hr4 hg4 c62 X3 hrb3
  have hrg : w4.rangeAt rb 63 a.plan.cells.toList := X4.out.1.range 63 (by omega) _ (fun j u hj => by
    rw [show 63 - 2 + j = 59 + (2 + j) by omega]
    refine HP.out (2 + j) u ?_
    match j, hj with
    | 0, hj | 1, hj | 2, hj | 3, hj | 4, hj | 5, hj | 6, hj | 7, hj | 8, hj | 9, hj => exact hj
    | j + 10, hj => simp [PlanD.cells] at hj)
  have HRG := Lib.hid hrg
  have hrb4 := X4.out.1.lt
  have hlc := X4.out.1.len
  clear hrg
  go_upto_region 25 with (first
    | (refine wpList_load_mid rfl 26 (.tmp 147) rfl rb 63 rfl a.plan.cells.toList _ HRG.out Tryd.underlying26 rfl (by kernel_rfl) ?_)
    | (refine wpList_store_mid rfl 26 (.tmp 150) (.tmp 148) rfl rb 2 a.plan.cells rfl rfl (X4.out.1.there 2 10 (by omega) (by omega)) (by kernel_rfl) (plan_one_cells _) ?_))
  change Code.wp _ _ _ _ (w4.setCells rb 2 a.plan.cells.toList)
  have X5 : Hid (RW (w4.setCells rb 2 a.plan.cells.toList) rb v4 (xs ++ encText a.name ++ encText a.key) (wrC cs 2 a.plan.cells.toList) ∧ Gr w (w4.setCells rb 2 a.plan.cells.toList) rb v v4 ∧ K59 (wrC cs 2 a.plan.cells.toList) cs ∧ (∀ (j : Nat) (u : Value), a.plan.cells.toList[j]? = some u → (wrC cs 2 a.plan.cells.toList)[j]? = some u)) := Lib.hid
    ⟨X4.out.1.set 2 _ (by omega) (by show 2 + 10 ≤ 81; omega), X4.out.2.trans (Gr.of_setCells _ _), fun j hj => wrC_out _ _ _ (by show 2 - 2 + 10 ≤ cs.length; omega) j (.inr (by show 2 - 2 + 10 ≤ j; omega)), fun j u hj => by
      rw [show j = 2 - 2 + j by omega, wrC_in _ _ _ (by show 2 - 2 + 10 ≤ cs.length; omega) j (List.getElem?_eq_some_iff.1 hj).1]; exact hj⟩
  generalize w4.setCells rb 2 a.plan.cells.toList = W5 at *
  generalize hc5 : wrC cs 2 a.plan.cells.toList = c5 at *
  clear hc5 X4 HRG hlc hrb4
  have hrb5 := X5.out.1.lt
  go_upto_region 26 with (go_at_call 30; go_must (refine (rw_plan rb v4 _ c5 a.plan W5 X5.out.1 X5.out.2.2.2 (by rw [List.length_append, List.length_append]; have := HLL.out; omega)).mono ?_); rintro e w1 ⟨v1, rfl, hr1, hg1⟩; have Y1 := Lib.hid (And.intro hr1 hg1); clear hr1 hg1)
  obtain ⟨ns, hns⟩ : ∃ ns, ns = [a.term, a.frm, a.till] := ⟨_, rfl⟩
  have HN : Hid ((∀ (k : Nat) (n : Int), ns[k]? = some n → c5[71 + k]? = some (.int .i64 n)) ∧ ns.length = 3) := Lib.hid ⟨fun k n hk => by
    rw [X5.out.2.2.1 _ (by omega)]
    rw [hns] at hk
    match k, hk with
    | 0, hk => cases hk; exact HP.out 12 _ rfl
    | 1, hk => cases hk; exact HP.out 13 _ rfl
    | 2, hk => cases hk; exact HP.out 14 _ rfl
    | k + 3, hk => simp at hk, by rw [hns]; rfl⟩
  have HNS := Lib.hid hns
  obtain ⟨zs, hzs⟩ : ∃ zs, zs = xs ++ encText a.name ++ encText a.key ++ encPlan a.plan := ⟨_, rfl⟩
  have R1 : Hid (RW w1 rb v1 zs c5) := Lib.hid (hzs ▸ Y1.out.1)
  have G1 : Hid (Gr w w1 rb v v1) := Lib.hid (X5.out.2.1.trans Y1.out.2)
  have K1 := Lib.hid X5.out.2.2.1
  have HZS := Lib.hid hzs
  have HL : Hid (zs.length + 72 ≤ 1000000) := Lib.hid (by rw [hzs]; simp only [List.length_append]; have := HLL.out; omega)
  clear hns hzs Y1 X5 hrb5
  go_wp2_with fail
  refine (rr_numbers rb 6 _).mono ?_
  rintro e w2 ⟨ao, rfl, hB2, hP⟩
  obtain ⟨offs, ho⟩ : ∃ o, o = recOffs 6 := ⟨_, rfl⟩
  rw [← ho] at hP ⊢
  have h9 : offs.length = ns.length := by rw [ho, HN.out.2]; rfl
  have hoff : ∀ k : Nat, offs[k]? = if k < 3 then some (73 + k) else none := fun k => by
    rw [ho]; match k with
    | 0 | 1 | 2 => rfl
    | k + 3 => rw [if_neg (by omega)]; simp [recOffs]
  have O := Lib.hid (And.intro h9 (And.intro hoff hP))
  clear h9 hoff hP ho
  have R2 := Lib.hid (R1.out.below hB2)
  have hs2 := hB2.size
  have hlt1 := Lib.hid (fun k h => R1.out.row.own.lt k h)
  have hrlt := R1.out.lt
  have BB2 := Lib.hid hB2
  clear hB2
  go_wp2
  go_loopg [7, 157] offs.length (fun g s7 s157 wr => ∃ (k : Nat) (vr : Value), k + g = offs.length ∧ s157 = .int .i64 k ∧ RW wr rb vr (zs ++ encInts (ns.take k)) c5 ∧ Gr w2 wr rb v1 vr)
  case atStart => exact ⟨0, v1, by omega, rfl, by simpa [encInts] using R2.out, Gr.refl _ _ _⟩
  case round =>
    obtain ⟨k, vr, hkg, rfl, hrow, hput⟩ := hrel
    have hsz := hput.size
    cases gk with
    | zero =>
      have hk : ¬ ((k : Int) < (offs.length : Int)) := by omega
      have F : Hid (RW wr rb vr (zs ++ encInts ns) c5) := Lib.hid (by
        rwa [List.take_of_length_le (by have := O.out.1; omega)] at hrow)
      have GF : Hid (Gr w wr rb v vr) := Lib.hid ((G1.out.trans (Gr.of_below BB2.out)).trans hput)
      clear hrow hput
      go_wp2_with (go_at_call 59; go_must (refine (rw_lists rb vr (zs ++ encInts ns) c5 a lv hv wv hs wr F.out (fun j u hj => (K1.out _ (by omega)).trans (HP.out j u hj)) (R0.out.2.on GF.out) (by rw [HZS.out, HNS.out]; simp only [List.length_append, encInts_length, List.length_cons, List.length_nil]; have := HLL.out; omega)).mono ?_); rintro e w7 ⟨v7, c7, rfl, hr7, hg7, hk7⟩; have X7 := Lib.hid (And.intro hr7 (And.intro hg7 hk7)); clear hr7 hg7 hk7)
      go_end0
      refine ⟨v7, c7, rfl, ?_, GF.out.trans X7.out.2.1, fun j hj => (X7.out.2.2 j hj).trans (K1.out j hj)⟩
      have := X7.out.1
      rw [HZS.out, HNS.out] at this
      simpa only [encAcc, List.append_assoc] using this
    | succ g =>
      have hk : (k : Int) < (offs.length : Int) := by omega
      have hk9 : k < 3 := by have := O.out.1; have := HN.out.2; omega
      obtain ⟨n, hn⟩ : ∃ n, ns[k]? = some n := ⟨_, List.getElem?_eq_getElem (by have := O.out.1; omega)⟩
      obtain ⟨nb, rfl, hnb1, hnb2, hcp⟩ := O.out.2.2 k (73 + k) (by rw [O.out.2.1, if_pos hk9])
      have hcp' := (hput.cell (a := ⟨nb, k, none⟩) hnb2 (by show nb ≠ rb; omega) (fun e => by have := hlt1.out nb e; omega)).trans hcp
      have hcn : wr.cell? ⟨rb, 73 + k, none⟩ = some (.int .i64 n) := hrow.cell (73 + k) (by omega) (by rw [show 73 + k - 2 = 71 + k by omega]; exact HN.out.1 k n hn)
      have hrb : rb < wr.heap.size := by omega
      have HT := Lib.hid (encInts_take ns k n hn)
      have hfit : (zs ++ encInts (ns.take k)).length + 8 * [n].length ≤ 1000000 := by
        have := encInts_take_length ns k
        have := HL.out
        have := HN.out.2
        simp only [List.length_append, List.length_singleton] at *
        omega
      have HR2 := Lib.hid (And.intro hrow hput)
      clear hrow hput hn hcp
      go_wp2
      go_region_with (go_at_call 56; go_must (refine (rw_ints rb wr.heap.size 1 _ _ vr _ c5 [n] wr _ HR2.out.1 hfit (by simp) rfl (below_alloc _ _).drew (Nat.le_refl _) (heap_alloc_new _ _) rfl).mono ?_); rintro e w3 ⟨v3, rfl, hrow3, hput3⟩)
      all_goals have X := Lib.hid (And.intro hrow3 hput3)
      all_goals clear hrow3 hput3
      all_goals go_wp2
      all_goals go_roundg g
      all_goals first
        | (case measure => omega)
        | skip
      all_goals
        refine ⟨k + 1, _, by omega, by first | rfl | go_num, ?_, HR2.out.2.trans X.out.2⟩
        rw [HT.out, ← List.append_assoc]
        have := X.out.1
        simpa [encInts] using this

def rec0 : List Value := [.slice none 0 0, .int .i64 0] ++ plan0.cells.toList ++ stmtZ.cells.toList ++ ansZ.cells.toList ++ lotZ.cells.toList ++ (holdZ.cells (.slice none 0 0)).toList ++ entryZ.cells.toList
def recAcc (a : AccD) (lv hv wv : Value) : Array Value := (rec0 ++ (a.cells lv hv wv).toList).toArray
theorem recAcc_at (a : AccD) (lv hv wv : Value) (j : Nat) : ((recAcc a lv hv wv).toList.drop 2)[59 + j]? = (a.cells lv hv wv).toList[j]? := by
  rw [List.getElem?_drop]
  show (rec0 ++ (a.cells lv hv wv).toList)[2 + (59 + j)]? = _
  have h : rec0.length = 61 := rfl
  rw [List.getElem?_append_right (by omega), show 2 + (59 + j) - rec0.length = j by omega]
theorem ext_new {w : World} {u : Value} {n : Nat} {xs : List (List Value)} (h : Items w u n xs) : Ext (w.heap.size + 1) (.slice none 0 0) u := ⟨fun e => by have := Items.own_lt h _ e; omega, fun _ _ e => by cases e⟩
set_option maxHeartbeats 3200000 in
set_option maxRecDepth 100000 in
theorem rr_encodeAccount (a : AccD) (lv hv wv : Value) (hs : List (HoldD × Value)) (w : World) (h1 : RdLots w lv a.lots) (h2 : RdHolds w hv hs) (h3 : RdWin w wv a.window) (hh : hs.map (·.1) = a.holds) (hsh : ∀ e ∈ a.window, e.ans.stmt.name.size ≤ 255) (hl : (encAcc a).length + 1000 ≤ 1000000) :
    Calls Tryd.prog 23 #[.agg (a.cells lv hv wv)] w (BytesPost w (encAcc a)) := by
  have H := Lib.hid (And.intro h1 (And.intro h2 (And.intro h3 (And.intro hh (And.intro hsh hl)))))
  clear h1 h2 h3 hh hsh hl
  go_enter Tryd.func23, Tryd.ntmps23
  go_upto_region 1 with (fail)
  go_step
  refine wpList_load_row rfl 45 _ rfl w.heap.size rfl 45 _ (0,0) _ (heap_alloc_new _ _) Tryd.underlying45 (by kernel_rfl) (by kernel_rfl) ?_
  refine wpList_build_at _ rfl 79 _ rfl (recAcc a lv hv wv) (by kernel_rfl) ?_
  go_upto_region 2 with (fail)
  have hB0 := below_alloc2 w (.cells (a.cells lv hv wv) 45) (.cells (recAcc a lv hv wv) 79)
  have hblk := heap_alloc2_new w (.cells (a.cells lv hv wv) 45) (.cells (recAcc a lv hv wv) 79)
  generalize (w.alloc (.cells (a.cells lv hv wv) 45)).alloc (.cells (recAcc a lv hv wv) 79) = W at *
  have hlt := (Array.getElem?_eq_some_iff.1 hblk).1
  have hrb : w.heap.size + 1 = w.heap.size + 1 := rfl
  have R : Hid (RW W (w.heap.size + 1) (.slice none 0 0) [] ((recAcc a lv hv wv).toList.drop 2) ∧ Below w.heap.size w W ∧ AccIn W (w.heap.size + 1) (.slice none 0 0) a lv hv wv hs) := Lib.hid ⟨⟨⟨by rw [cell_of_row _ _ _ _ _ _ hblk]; rfl, frozen_of_row _ _ _ _ _ hblk, World.ownsRow_nil _ _ _ _⟩, fun j u hj => by
      rw [cell_of_row _ _ _ _ _ _ hblk, ← Array.getElem?_toList, ← List.getElem?_drop]; exact hj, rfl, fun o _ _ => frozen_of_row _ _ _ _ _ hblk, hlt⟩, hB0,
    ⟨Items.below H.out.1 hB0, H.out.2.1.below hB0, Items.below H.out.2.2.1 hB0, H.out.2.2.2.1, ext_new H.out.1, ext_new H.out.2.1.1, ext_new H.out.2.2.1, fun x hx => ext_new (H.out.2.1.2 x hx), H.out.2.2.2.2.1⟩⟩
  clear hB0 hblk hrb
  go_wp2_with (go_at_call 30; go_must (refine (rw_acc (w.heap.size + 1) (.slice none 0 0) [] ((recAcc a lv hv wv).toList.drop 2) a lv hv wv hs W R.out.1 (fun j u hj => (recAcc_at a lv hv wv j).trans hj) R.out.2.2 (by have := H.out.2.2.2.2.2; simpa using this)).mono ?_); rintro e w1 ⟨v1, c1, rfl, hr1, hg1, hk1⟩; have X1 := Lib.hid (And.intro hr1 hg1); have hcell := hr1.row.cell; clear hr1 hg1 hk1)
  go_ret
  exact ⟨v1, rfl, ownsRow_base (base := w.heap.size + 1 + 1) X1.out.1.row.own (by omega), X1.out.2.below_new rfl R.out.2.1 (by omega) R.out.2.1.size⟩
end Go.Proofs.YtehkgcmdndehaaaDoor

