/- Part of the proof: merged texts. -/
import Derived.Test.YtehkgcmdndehaaaDoorGPRA26
import Derived.Test.YtehkgcmdndehaaaDoorGPRA22
namespace Go.Proofs.YtehkgcmdndehaaaDoor
set_option linter.unusedSimpArgs false
set_option linter.unusedVariables false
open Go.RowKit

theorem three_at (l : List Int) (h : l.length = 3) (k : Nat) (hk : k < 3) : (l.map (Value.int .i64))[k]? = some (.int .i64 (l.getD k 0)) := by
  rw [List.getElem?_map, List.getElem?_eq_getElem (by omega)]
  simp [List.getD, show k < l.length by omega]
/-- What reading an answer leaves. -/
def AnsRdPost (w : World) (rb : Nat) (v : Value) (r : Re) (cs : List Value) (e : Ending) (w' : World) : Prop :=
  ∃ v' cs', e = .returned (.tuple #[]) ∧ RR w' rb v' (ansRd r).2 cs' ∧ v'.ownBlock = v.ownBlock ∧ MA w w' rb ∧ (∀ (j : Nat) (u : Value), (ansRd r).1.cells.toList[j]? = some u → cs'[19 + j]? = some u) ∧ ∀ j : Nat, 32 ≤ j → cs'[j]? = cs[j]?
def EntryRdPost (w : World) (rb : Nat) (v : Value) (r : Re) (cs : List Value) (e : Ending) (w' : World) : Prop :=
  ∃ v' cs', e = .returned (.tuple #[]) ∧ RR w' rb v' (entryRd r).2 cs' ∧ v'.ownBlock = v.ownBlock ∧ MA w w' rb ∧ (∀ (j : Nat) (u : Value), (entryRd r).1.cells.toList[j]? = some u → cs'[45 + j]? = some u) ∧ ∀ j : Nat, 59 ≤ j → cs'[j]? = cs[j]?
theorem ansRd_eq (r : Re) : ansRd r = (⟨r.one.1, (Re.ints 3 r.one.2).1.getD 0 0, (Re.ints 3 r.one.2).1.getD 1 0, (Re.ints 3 r.one.2).1.getD 2 0, (tailRd (Re.ints 3 r.one.2).2).1⟩, (tailRd (Re.ints 3 r.one.2).2).2) := rfl
theorem entryRd_eq (r : Re) : entryRd r = (⟨(Re.ints 1 r).1.getD 0 0, (ansRd (Re.ints 1 r).2).1⟩, (ansRd (Re.ints 1 r).2).2) := rfl
theorem entry_cells (e : EntryD) : e.cells.toList = .int .i64 e.id :: e.ans.cells.toList := rfl
theorem ans_cells4 (a : AnsD) (j : Nat) : a.cells.toList[4 + j]? = a.stmt.cells.toList[j]? := by
  match j with
  | 0 | 1 | 2 | 3 | 4 | 5 | 6 | 7 | 8 => rfl
  | j + 9 => rw [List.getElem?_eq_none (by show 13 ≤ _; omega), List.getElem?_eq_none (by show 9 ≤ _; omega)]
attribute [local irreducible] Re.ints Re.str manyRd Re.one ansRd tailRd

set_option maxHeartbeats 3200000 in
set_option maxRecDepth 100000 in
theorem rr_ans (rb : Nat) (v : Value) (r : Re) (cs : List Value) (w : World) (h : RR w rb v r cs) :
    Calls Tryd.prog 61 #[.pointer (some ⟨rb, 0, none⟩), .int .i64 2] w (AnsRdPost w rb v r cs) := by
  have H := Lib.hid (And.intro h h.len)
  have hrb := h.lt
  clear h
  go_enter Tryd.func61, Tryd.ntmps61
  go_upto_region 29 with (first
    | (go_at_call 77; go_must (refine (rr_one rb v r cs w H.out.1).mono ?_); rintro e w1 ⟨v1, rfl, hr1, ho1, hm1⟩; have X1 := Lib.hid (And.intro hr1 (And.intro ho1 hm1)); clear hr1 ho1 hm1)
    | (refine wpList_store_mid rfl 70 (.tmp 44) (.tmp 42) rfl rb 21 (AnsD.mk r.one.1 0 0 0 stmtZ).cells rfl rfl (X1.out.1.there 21 13 (by omega) (by omega)) (by kernel_rfl) (ans_one_cells _) ?_))
  change Code.wp _ _ _ _ (w1.setCells rb 21 (AnsD.mk r.one.1 0 0 0 stmtZ).cells.toList)
  have X2 : Hid (RR (w1.setCells rb 21 (AnsD.mk r.one.1 0 0 0 stmtZ).cells.toList) rb v1 r.one.2 (wrC cs 21 (AnsD.mk r.one.1 0 0 0 stmtZ).cells.toList) ∧ v1.ownBlock = v.ownBlock ∧ MA w (w1.setCells rb 21 (AnsD.mk r.one.1 0 0 0 stmtZ).cells.toList) rb) := Lib.hid ⟨X1.out.1.set 21 _ (by omega) (by show 21 + 13 ≤ 81; omega), X1.out.2.1, X1.out.2.2.trans (ma_setCells _ _ _ _)⟩
  generalize w1.setCells rb 21 (AnsD.mk r.one.1 0 0 0 stmtZ).cells.toList = W2 at *
  clear X1
  have hrb2 := X2.out.1.lt
  have HN : Hid (∀ W0 : World, Calls Tryd.prog 57 #[.pointer (some ⟨rb, 0, none⟩), .int .i64 2] W0 (PtrsPost W0 rb (offL 22 3))) := Lib.hid (fun W0 => by rw [← offs2]; exact rr_numbers rb 2 W0)
  go_upto_region 29 with (fail)
  go_region_with (first
    | (go_at_call 57; refine (HN.out _).mono ?_; rintro e w3 ⟨ao, rfl, hB3, hP⟩
       have B3 : Hid (Below W2.heap.size W2 w3) := Lib.hid ((Below.refl _ _).drew.trans hB3)
       have P3 := Lib.hid (ptrs_of hP)
       clear hB3 hP)
    | (go_at_call 78
       go_must (refine (rr_ints rb 22 3 _ _ v1 r.one.2 _ ao W2 w3 X2.out.1 B3.out (offL_length _ _) (by omega) (by omega) P3.out).mono ?_)
       rintro e w4 ⟨v4, rfl, hr4, ho4, hm4⟩
       have X4 := Lib.hid (And.intro hr4 (And.intro ho4 hm4))
       clear hr4 ho4 hm4))
  have hla : Hid ((wrC cs 21 (AnsD.mk r.one.1 0 0 0 stmtZ).cells.toList).length = 79) := Lib.hid (by rw [wrC_length _ _ _ (by have := H.out.2; show 21 - 2 + 13 ≤ cs.length; omega)]; exact H.out.2)
  have hli : Hid (((Re.ints 3 r.one.2).1.map (Value.int .i64)).length = 3) := Lib.hid (by rw [List.length_map, Re.ints_length])
  have HC : Hid ((∀ (j : Nat) (u : Value), stmtZ.cells.toList[j]? = some u → (wrC (wrC cs 21 (AnsD.mk r.one.1 0 0 0 stmtZ).cells.toList) 22 ((Re.ints 3 r.one.2).1.map (Value.int .i64)))[23 + j]? = some u)
      ∧ (wrC (wrC cs 21 (AnsD.mk r.one.1 0 0 0 stmtZ).cells.toList) 22 ((Re.ints 3 r.one.2).1.map (Value.int .i64)))[19]? = some (.int .i64 r.one.1)
      ∧ (∀ k : Nat, k < 3 → (wrC (wrC cs 21 (AnsD.mk r.one.1 0 0 0 stmtZ).cells.toList) 22 ((Re.ints 3 r.one.2).1.map (Value.int .i64)))[20 + k]? = some (.int .i64 ((Re.ints 3 r.one.2).1.getD k 0)))
      ∧ ∀ j : Nat, 32 ≤ j → (wrC (wrC cs 21 (AnsD.mk r.one.1 0 0 0 stmtZ).cells.toList) 22 ((Re.ints 3 r.one.2).1.map (Value.int .i64)))[j]? = cs[j]?) := Lib.hid (by
    have h1 := hla.out
    have h2 := hli.out
    have h3 := H.out.2
    refine ⟨fun j u hj => ?_, ?_, fun k hk => ?_, fun j hj => ?_⟩
    · have hj9 : j < 9 := (List.getElem?_eq_some_iff.1 hj).1
      rw [wrC_out _ _ _ (by omega) _ (by omega), show 23 + j = 21 - 2 + (4 + j) by omega, wrC_in _ _ _ (by show 21 - 2 + 13 ≤ cs.length; omega) _ (by show 4 + j < 13; omega), ans_cells4]
      exact hj
    · rw [wrC_out _ _ _ (by omega) _ (by omega), show 19 = 21 - 2 + 0 by omega, wrC_in _ _ _ (by show 21 - 2 + 13 ≤ cs.length; omega) _ (by show 0 < 13; omega)]
      rfl
    · rw [show 20 + k = 22 - 2 + k by omega, wrC_in _ _ _ (by omega) k (by omega)]
      exact three_at _ (Re.ints_length _ _) k hk
    · rw [wrC_out _ _ _ (by omega) _ (by omega), wrC_out _ _ _ (by show 21 - 2 + 13 ≤ cs.length; omega) _ (by show j < 21 - 2 ∨ 21 - 2 + 13 ≤ j; omega)])
  generalize wrC (wrC cs 21 (AnsD.mk r.one.1 0 0 0 stmtZ).cells.toList) 22 ((Re.ints 3 r.one.2).1.map (Value.int .i64)) = c4 at *
  have hrb4 := X4.out.1.lt
  clear hla hli
  go_wp2_with (go_at_call 79; go_must (refine (rr_tells rb v4 (Re.ints 3 r.one.2).2 c4 w4 X4.out.1 HC.out.1).mono ?_); rintro e w5 ⟨v5, c5, rfl, hr5, ho5, hm5, hc5, hk5⟩; have X5 := Lib.hid (And.intro hr5 (And.intro ho5 (And.intro hm5 (And.intro hc5 hk5)))); clear hr5 ho5 hm5 hc5 hk5)
  go_end0
  unfold AnsRdPost
  rw [ansRd_eq]
  refine ⟨v5, c5, rfl, X5.out.1, X5.out.2.1.trans (X4.out.2.1.trans X2.out.2.1), (X2.out.2.2.trans X4.out.2.2).trans X5.out.2.2.1, fun j u hj => ?_, fun j hj => (X5.out.2.2.2.2 j (.inr hj)).trans (HC.out.2.2.2 j hj)⟩
  match j, hj with
  | 0, hj => cases hj; rw [X5.out.2.2.2.2 _ (.inl (by omega))]; exact HC.out.2.1
  | 1, hj => cases hj; rw [X5.out.2.2.2.2 _ (.inl (by omega))]; exact HC.out.2.2.1 0 (by omega)
  | 2, hj => cases hj; rw [X5.out.2.2.2.2 _ (.inl (by omega))]; exact HC.out.2.2.1 1 (by omega)
  | 3, hj => cases hj; rw [X5.out.2.2.2.2 _ (.inl (by omega))]; exact HC.out.2.2.1 2 (by omega)
  | j + 4, hj =>
    rw [show 19 + (j + 4) = 23 + j by omega]
    refine X5.out.2.2.2.1 j u ?_
    rw [show j + 4 = 4 + j by omega, ans_cells4] at hj
    exact hj

set_option maxHeartbeats 3200000 in
set_option maxRecDepth 100000 in
theorem rr_entry (rb : Nat) (v : Value) (r : Re) (cs : List Value) (w : World) (h : RR w rb v r cs) :
    Calls Tryd.prog 61 #[.pointer (some ⟨rb, 0, none⟩), .int .i64 5] w (EntryRdPost w rb v r cs) := by
  have H := Lib.hid (And.intro h h.len)
  have hrb := h.lt
  clear h
  go_enter Tryd.func61, Tryd.ntmps61
  go_upto_region 21 with (refine wpList_store_mid rfl 77 (.tmp 109) (.tmp 107) rfl rb 47 entryZ.cells rfl rfl (H.out.1.there 47 14 (by omega) (by omega)) (by kernel_rfl) (entry_one_cells _) ?_)
  change Code.wp _ _ _ _ (w.setCells rb 47 entryZ.cells.toList)
  have X2 : Hid (RR (w.setCells rb 47 entryZ.cells.toList) rb v r (wrC cs 47 entryZ.cells.toList) ∧ MA w (w.setCells rb 47 entryZ.cells.toList) rb) := Lib.hid ⟨H.out.1.set 47 _ (by omega) (by show 47 + 14 ≤ 81; omega), ma_setCells _ _ _ _⟩
  generalize w.setCells rb 47 entryZ.cells.toList = W2 at *
  have hrb2 := X2.out.1.lt
  go_region_with (go_at_call 78; go_must (refine (rr_ints rb 47 1 _ _ v r _ _ W2 _ X2.out.1 (below_alloc _ _).drew rfl (by omega) (by omega) (ptrs_of_block (Nat.le_refl _) (heap_alloc_new _ _))).mono ?_); rintro e w4 ⟨v4, rfl, hr4, ho4, hm4⟩; have X4 := Lib.hid (And.intro hr4 (And.intro ho4 hm4)); clear hr4 ho4 hm4)
  have hla : Hid ((wrC cs 47 entryZ.cells.toList).length = 79) := Lib.hid (by rw [wrC_length _ _ _ (by have := H.out.2; show 47 - 2 + 14 ≤ cs.length; omega)]; exact H.out.2)
  have hli : Hid (((Re.ints 1 r).1.map (Value.int .i64)).length = 1) := Lib.hid (by rw [List.length_map, Re.ints_length])
  have HC : Hid ((wrC (wrC cs 47 entryZ.cells.toList) 47 ((Re.ints 1 r).1.map (Value.int .i64)))[45]? = some (.int .i64 ((Re.ints 1 r).1.getD 0 0)) ∧ (wrC (wrC cs 47 entryZ.cells.toList) 47 ((Re.ints 1 r).1.map (Value.int .i64))).length = 79
      ∧ ∀ j : Nat, 59 ≤ j → (wrC (wrC cs 47 entryZ.cells.toList) 47 ((Re.ints 1 r).1.map (Value.int .i64)))[j]? = cs[j]?) := Lib.hid (by
    have h1 := hla.out
    have h2 := hli.out
    have h3 := H.out.2
    refine ⟨?_, by rw [wrC_length _ _ _ (by omega)]; exact h1, fun j hj => ?_⟩
    · rw [show 45 = 47 - 2 + 0 by omega, wrC_in _ _ _ (by omega) 0 (by omega), List.getElem?_map]
      have hl := Re.ints_length 1 r
      rw [List.getElem?_eq_getElem (by omega)]
      simp [List.getD, show 0 < (Re.ints 1 r).1.length by omega]
    · rw [wrC_out _ _ _ (by omega) _ (by omega), wrC_out _ _ _ (by show 47 - 2 + 14 ≤ cs.length; omega) _ (by show j < 47 - 2 ∨ 47 - 2 + 14 ≤ j; omega)])
  generalize wrC (wrC cs 47 entryZ.cells.toList) 47 ((Re.ints 1 r).1.map (Value.int .i64)) = c4 at *
  have hrb4 := X4.out.1.lt
  clear hla hli
  go_upto_region 23 with (go_at_call 61; go_must (refine (rr_ans rb v4 (Re.ints 1 r).2 c4 w4 X4.out.1).mono ?_); rintro e w5 ⟨v5, c5, rfl, hr5, ho5, hm5, hc5, hk5⟩; have X5 := Lib.hid (And.intro hr5 (And.intro ho5 (And.intro hm5 (And.intro hc5 hk5)))); clear hr5 ho5 hm5 hc5 hk5)
  have E := Lib.hid (entryRd_eq r)
  generalize ansRd (Re.ints 1 r).2 = ar at *
  obtain ⟨an, r5⟩ := ar
  generalize (Re.ints 1 r).1.getD 0 0 = id0 at *
  have hrb5 := X5.out.1.lt
  have HRG : Hid (w5.rangeAt rb 21 an.cells.toList) := Lib.hid (X5.out.1.range 21 (by omega) _ (fun j u hj => X5.out.2.2.2.1 j u hj))
  go_wp2_with (first
    | (refine wpList_load_mid rfl 70 (.tmp 124) rfl rb 21 rfl an.cells.toList _ HRG.out Tryd.underlying70 rfl (by kernel_rfl) ?_)
    | (refine wpList_store_mid rfl 70 (.tmp 128) (.tmp 125) rfl rb 48 an.cells rfl rfl (X5.out.1.there 48 13 (by omega) (by omega)) (by kernel_rfl) (ans_one_cells _) ?_))
  (try simp only [Exit.inBlock, Exit.then])
  refine bodyPost_ret (results_none rfl _ _ _) rfl ?_
  have X6 : RR (w5.setCells rb 48 an.cells.toList) rb v5 r5 (wrC c5 48 an.cells.toList) := X5.out.1.set 48 _ (by omega) (by show 48 + 13 ≤ 81; omega)
  have hl5 := X5.out.1.len
  unfold EntryRdPost
  rw [E.out]
  refine ⟨v5, wrC c5 48 an.cells.toList, rfl, X6, X5.out.2.1.trans X4.out.2.1, ((X2.out.2.trans X4.out.2.2).trans X5.out.2.2.1).trans (ma_setCells _ _ _ _), fun j u hj => ?_, fun j hj => ?_⟩
  · rw [entry_cells] at hj
    match j, hj with
    | 0, hj =>
      rw [wrC_out _ _ _ (by show 48 - 2 + 13 ≤ c5.length; omega) _ (by show 45 + 0 < 48 - 2 ∨ 48 - 2 + 13 ≤ 45 + 0; omega), X5.out.2.2.2.2 _ (by omega)]
      cases hj
      exact HC.out.1
    | j + 1, hj =>
      have hj2 : an.cells.toList[j]? = some u := hj
      rw [show 45 + (j + 1) = 48 - 2 + j by omega, wrC_in _ _ _ (by show 48 - 2 + 13 ≤ c5.length; omega) j (List.getElem?_eq_some_iff.1 hj2).1]
      exact hj2
  · rw [wrC_out _ _ _ (by show 48 - 2 + 13 ≤ c5.length; omega) _ (by show j < 48 - 2 ∨ 48 - 2 + 13 ≤ j; omega), X5.out.2.2.2.2 _ (by omega)]
    exact HC.out.2.2 j hj
end Go.Proofs.YtehkgcmdndehaaaDoor

