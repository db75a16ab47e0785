/- Part of the proof: merged texts. -/
import Derived.Test.YtehkgcmdndehaaaDoorGPRA20
import Derived.Test.YtehkgcmdndehaaaDoorGPRA03
namespace Go.Proofs.YtehkgcmdndehaaaDoor
set_option linter.unusedSimpArgs false
set_option linter.unusedVariables false
open Go.RowKit

/-- As RWPost, but the record's cells ahead of place 34 may be others. -/
def RWPostX (w : World) (rb : Nat) (v : Value) (xs : List UInt8) (cs : List Value) (e : Ending) (w' : World) : Prop :=
  ∃ v' cs', e = .returned (.tuple #[]) ∧ RW w' rb v' xs cs' ∧ Gr w w' rb v v' ∧ ∀ j : Nat, 32 ≤ j → cs'[j]? = cs[j]?
theorem ans_one_cells (a : AnsD) : a.cells.all (·.oneCell') = true := by
  unfold AnsD.cells
  rw [Array.all_eq_true_iff_forall_mem]
  intro x hx
  simp only [List.mem_toArray, List.mem_cons, List.not_mem_nil, or_false] at hx
  rcases hx with rfl | rfl | rfl | rfl | rfl | rfl | rfl | rfl | rfl | rfl | rfl | rfl | rfl <;> rfl
theorem part_one_cells (a : PartD) : a.cells.all (·.oneCell') = true := by
  unfold PartD.cells
  rw [Array.all_eq_true_iff_forall_mem]
  intro x hx
  simp only [List.mem_toArray, List.mem_cons, List.not_mem_nil, or_false] at hx
  rcases hx with rfl | rfl <;> rfl
theorem encParts_length : ∀ ps : List PartD, (encParts ps).length = 16 * ps.length
  | [] => rfl
  | p :: r => by
    have := encParts_length r
    unfold encParts at *
    rw [List.flatMap_cons, List.length_append, this]
    simp [encPart, encInts_length]
    omega
theorem encStmt_length (s : StmtD) : (encStmt s).length = s.name.size + 65 := by
  rw [encStmt, List.length_append, encText_length, encInts_length]
  simp [StmtD.nums]
theorem encAns_length (a : AnsD) (h : a.stmt.name.size ≤ 255) : (encAns a).length ≤ 346 := by
  unfold encAns
  simp only [List.length_append, List.length_cons, encInts_length, List.length_nil]
  split <;> simp [encStmt_length] <;> omega
set_option maxHeartbeats 3200000 in
set_option maxRecDepth 100000 in
theorem rw_entry (rb : Nat) (v : Value) (xs : List UInt8) (cs : List Value) (en : EntryD) (w : World) (h : RW w rb v xs cs) (hp : ∀ (j : Nat) (u : Value), en.cells.toList[j]? = some u → cs[45 + j]? = some u) (hl : xs.length + 600 ≤ 1000000) (hn : en.ans.stmt.name.size ≤ 255) :
    Calls Tryd.prog 30 #[.pointer (some ⟨rb, 0, none⟩), .int .i64 5] w (RWPostX w rb v (xs ++ encEntry en) cs) := by
  have hid : w.cell? ⟨rb, 47, none⟩ = some (.int .i64 en.id) := h.cell 47 (by omega) (hp 0 _ rfl)
  have R0 := Lib.hid h
  have HP := Lib.hid hp
  have HL := Lib.hid (And.intro hl (And.intro hn h.len))
  have hrb := h.lt
  clear h hp hl hn
  go_enter Tryd.func30, Tryd.ntmps30
  go_wp2
  go_region_with (go_at_call 56; go_must (refine (rw_ints rb _ 1 _ _ _ _ _ [en.id] _ _ R0.out (by have := HL.out.1; simp only [List.length_append, List.length_singleton, List.length_cons, List.length_nil, encInts_length] at *; omega) (by simp) rfl (below_alloc _ _).drew (Nat.le_refl _) (heap_alloc_new _ _) rfl).mono ?_); rintro e w1 ⟨v1, rfl, hrw1, hgw1⟩)
  have X1 : Hid (RW w1 rb v1 (xs ++ encInts [en.id]) cs ∧ Gr w w1 rb v v1) := Lib.hid ⟨hrw1, hgw1⟩
  clear hrw1 hgw1 hid
  have hrg : w1.rangeAt rb 48 en.ans.cells.toList := X1.out.1.range 48 (by omega) _ (fun j u hj => by
    rw [show 48 - 2 + j = 45 + (1 + j) by omega]
    refine HP.out (1 + j) u ?_
    match j, hj with
    | 0, hj | 1, hj | 2, hj | 3, hj | 4, hj | 5, hj | 6, hj | 7, hj | 8, hj | 9, hj | 10, hj | 11, hj | 12, hj => exact hj
    | j + 13, hj => simp [AnsD.cells] at hj)
  have HRG := Lib.hid hrg
  clear hrg
  go_upto_region 21 with (first
    | (refine wpList_load_mid rfl 70 (.tmp 119) rfl rb 48 rfl en.ans.cells.toList _ HRG.out Tryd.underlying70 rfl (by kernel_rfl) ?_)
    | (refine wpList_store_mid rfl 70 (.tmp 122) (.tmp 120) rfl rb 21 en.ans.cells rfl rfl (X1.out.1.there 21 13 (by omega) (by omega)) (by kernel_rfl) (ans_one_cells _) ?_))
  change Code.wp _ _ _ _ (w1.setCells rb 21 en.ans.cells.toList)
  have X2 : Hid (RW (w1.setCells rb 21 en.ans.cells.toList) rb v1 (xs ++ encInts [en.id]) (wrC cs 21 en.ans.cells.toList) ∧ Gr w (w1.setCells rb 21 en.ans.cells.toList) rb v v1) := Lib.hid ⟨X1.out.1.set 21 _ (by omega) (by show 21 + 13 ≤ 81; omega), X1.out.2.trans (Gr.of_setCells _ _)⟩
  generalize w1.setCells rb 21 en.ans.cells.toList = W2 at *
  clear X1 HRG
  go_wp2_with (go_at_call 30; refine (rw_ans rb v1 (xs ++ encInts [en.id]) (wrC cs 21 en.ans.cells.toList) en.ans W2 X2.out.1 (fun j u hj => by
      rw [show 19 + j = 21 - 2 + j by omega, wrC_in _ _ _ (by have := HL.out.2.2; show 21 - 2 + 13 ≤ cs.length; omega) j (List.getElem?_eq_some_iff.1 hj).1]; exact hj) (by have := HL.out.1; simp only [List.length_append, encInts_length, List.length_singleton]; omega) HL.out.2.1).mono ?_; rintro e w3 ⟨v3, rfl, hr3, hg3⟩; have X3 := Lib.hid (And.intro hr3 hg3); clear hr3 hg3)
  (try simp only [Exit.inBlock, Exit.then])
  refine bodyPost_ret (results_none rfl _ _ _) rfl ?_
  refine ⟨v3, (if en.ans.stmt.term = 0 then wrC cs 21 en.ans.cells.toList else wrC (wrC cs 21 en.ans.cells.toList) 12 en.ans.stmt.cells.toList), rfl, ?_, X2.out.2.trans X3.out.2, fun j hj => ?_⟩
  · have := X3.out.1
    rw [List.append_assoc] at this
    exact this
  · have hlc := HL.out.2.2
    have k1 : (wrC cs 21 en.ans.cells.toList)[j]? = cs[j]? := wrC_out _ _ _ (by show 21 - 2 + 13 ≤ cs.length; omega) j (.inr (by show 21 - 2 + 13 ≤ j; omega))
    split
    · exact k1
    · rw [wrC_out _ _ _ (by rw [wrC_length _ _ _ (by show 21 - 2 + 13 ≤ cs.length; omega)]; show 12 - 2 + 9 ≤ cs.length; omega) j (.inr (by show 12 - 2 + 9 ≤ j; omega))]
      exact k1

set_option maxHeartbeats 3200000 in
set_option maxRecDepth 100000 in
theorem rw_hold (rb : Nat) (v : Value) (xs : List UInt8) (cs : List Value) (hd : HoldD) (pv : Value) (w : World) (h : RW w rb v xs cs) (hp : ∀ (j : Nat) (u : Value), (hd.cells pv).toList[j]? = some u → cs[41 + j]? = some u) (hl : xs.length + 16 * hd.parts.length + 100 ≤ 1000000)
    (hps : RdParts w pv hd.parts) (h1 : liveB pv ≠ some rb) (h2 : ∀ k, liveB pv = some k → v.ownBlock ≠ some k) :
    Calls Tryd.prog 30 #[.pointer (some ⟨rb, 0, none⟩), .int .i64 4] w (RWPost w rb v (xs ++ encHold hd) cs) := by
  have hlen : ∃ a c, pv = .slice a hd.parts.length c := by
    obtain ⟨a, c, e⟩ := Items.len hps
    exact ⟨a, c, by rw [e]; simp⟩
  obtain ⟨pa, pc, rfl⟩ := hlen
  have c43 : w.cell? ⟨rb, 43, none⟩ = some (.int .i64 hd.id) := h.cell 43 (by omega) (hp 0 _ rfl)
  have R0 := Lib.hid h
  have HP := Lib.hid hp
  have HS := Lib.hid (And.intro hps (And.intro h1 h2))
  have HL := Lib.hid hl
  have hrb := h.lt
  clear h hp hps h1 h2
  go_enter Tryd.func30, Tryd.ntmps30
  go_wp2
  go_region_with (go_at_call 56; go_must (refine (rw_ints rb _ 1 _ _ _ _ _ [hd.id] _ _ R0.out (by have := HL.out; simp only [List.length_append, List.length_singleton, List.length_cons, List.length_nil, encInts_length] at *; omega) (by simp) rfl (below_alloc _ _).drew (Nat.le_refl _) (heap_alloc_new _ _) rfl).mono ?_); rintro e w1 ⟨v1, rfl, hrw1, hgw1⟩)
  have X1 : Hid (RW w1 rb v1 (xs ++ encInts [hd.id]) cs ∧ Gr w w1 rb v v1) := Lib.hid ⟨hrw1, hgw1⟩
  clear hrw1 hgw1 c43
  have c44 : w1.cell? ⟨rb, 44, none⟩ = some (.slice pa hd.parts.length pc) := X1.out.1.cell 44 (by omega) (HP.out 1 _ rfl)
  go_wp2
  go_region_with (go_at_call 55; go_must (refine (rw_byte rb v1 _ cs _ _ (X1.out.1.below (Below.refl _ _).drew) (by have := HL.out; simp only [List.length_append, List.length_singleton, encInts_length] at *; omega)).mono ?_); rintro e w2 ⟨v2, rfl, hr2, hg2⟩)
  have X2 : Hid (RW w2 rb v2 (xs ++ encInts [hd.id] ++ [byteOf hd.parts.length]) cs ∧ Gr w w2 rb v v2) := Lib.hid ⟨hr2, X1.out.2.trans hg2.undrew⟩
  clear hr2 hg2 c44 X1
  have c44 : w2.cell? ⟨rb, 44, none⟩ = some (.slice pa hd.parts.length pc) := X2.out.1.cell 44 (by omega) (HP.out 1 _ rfl)
  have P2 : Hid (RdParts w2 (.slice pa hd.parts.length pc) hd.parts) := Lib.hid (X2.out.2.items HS.out.1 HS.out.2.1 HS.out.2.2)
  have O2 : Hid ((∀ k, liveB (Value.slice pa hd.parts.length pc) = some k → v2.ownBlock ≠ some k)) := Lib.hid (fun k hk => X2.out.2.other (Items.own_lt HS.out.1 k hk) (HS.out.2.2 k hk))
  go_wp2
  clear c44
  generalize hzs : xs ++ encInts [hd.id] ++ [byteOf hd.parts.length] = zs at *
  have HZ := Lib.hid hzs
  have hzl : zs.length + 16 * hd.parts.length + 50 ≤ 1000000 := by rw [← hzs]; simp only [List.length_append, List.length_singleton, encInts_length]; omega
  clear hzs hl
  generalize hpl : hd.parts = ps at *
  have HPL := Lib.hid hpl
  clear hpl
  go_loopg [5, 76] ps.length (fun g s5 s76 wr => ∃ (k : Nat) (vr : Value), k + g = ps.length ∧ s76 = .int .i64 k ∧ RW wr rb vr (zs ++ encParts (ps.take k)) cs ∧ Gr w2 wr rb v2 vr)
  case atStart => exact ⟨0, v2, by omega, rfl, by simpa [encParts] using X2.out.1, Gr.refl _ _ _⟩
  case round =>
    obtain ⟨k, vr, hkg, rfl, hrow, hput⟩ := hrel
    have hsz := hput.size
    cases gk with
    | zero =>
      have hk : ¬ ((k : Int) < (ps.length : Int)) := by omega
      have F : Hid (RW wr rb vr (zs ++ encParts ps) cs ∧ Gr w wr rb v vr) := Lib.hid (by
        rw [List.take_of_length_le (by omega)] at hrow
        exact ⟨hrow, X2.out.2.trans hput⟩)
      have hrbr := hrow.lt
      have c45 : wr.cell? ⟨rb, 45, none⟩ = some (.int .i64 hd.over) := hrow.cell 45 (by omega) (HP.out 2 _ rfl)
      have c46 : wr.cell? ⟨rb, 46, none⟩ = some (.int .i64 hd.till) := hrow.cell 46 (by omega) (HP.out 3 _ rfl)
      have hpl2 := encParts_length ps
      have HL2 : Hid ((zs ++ encParts ps).length + 50 ≤ 1000000) := Lib.hid (by rw [List.length_append, hpl2]; omega)
      clear hrow hput hpl2
      go_wp2
      go_region_with (go_at_call 56; go_must (refine (rw_ints rb _ 2 _ _ _ _ _ [hd.over, hd.till] _ _ F.out.1 (by have := HL2.out; simp only [List.length_append, List.length_singleton, List.length_cons, List.length_nil, encInts_length] at *; omega) (by simp) rfl (below_alloc _ _).drew (Nat.le_refl _) (heap_alloc_new _ _) rfl).mono ?_); rintro e w4 ⟨v4, rfl, hrw4, hgw4⟩)
      all_goals have X4 := Lib.hid (And.intro hrw4 hgw4)
      all_goals clear hrw4 hgw4
      all_goals (try go_wp2)
      all_goals (try simp only [Exit.inBlock, Exit.then])
      all_goals refine bodyPost_ret (results_none rfl _ _ _) rfl ?_
      all_goals refine ⟨v4, rfl, ?_, F.out.2.trans X4.out.2⟩
      all_goals
        have := X4.out.1
        rw [← HZ.out, ← HPL.out] at this
        simpa only [encHold, List.append_assoc] using this
    | succ g =>
      obtain ⟨p, hpk⟩ : ∃ p, ps[k]? = some p := ⟨_, List.getElem?_eq_getElem (by omega)⟩
      have hk : (k : Int) < (ps.length : Int) := by omega
      have PR : RdParts wr (.slice pa ps.length pc) ps := hput.items P2.out HS.out.2.1 O2.out
      have HT := Lib.hid (flat_take encPart ps k p hpk)
      have hle := flat_take_le encPart ps k
      have hpl2 : (ps.flatMap encPart).length = 16 * ps.length := encParts_length ps
      have HL2 : Hid ((zs ++ encParts (ps.take k)).length + 50 ≤ 1000000) := Lib.hid (by rw [List.length_append]; unfold encParts; omega)
      have HR := Lib.hid (And.intro hrow hput)
      have hrbr := hrow.lt
      clear hrow hput hle hpl2
      rcases PR with ⟨he, _, _, hv⟩ | ⟨b, off, cap, hv, hc, hb, hx⟩
      · simp at he; subst he; simp at hpk
      · simp only [List.length_map, Value.slice.injEq] at hv hc
        obtain ⟨rfl, _, rfl⟩ := hv
        have hrg : wr.rangeAt b (off + k * 2) p.cells.toList := (hx k _ (by rw [List.getElem?_map, hpk]; rfl)).2
        have HRG := Lib.hid hrg
        clear hrg hx hpk
        go_upto_region 16 with (first
          | (refine wpList_load_mid rfl 86 (.tmp 78) rfl b (off + k * 2) rfl p.cells.toList _ HRG.out Tryd.underlying86 rfl (by kernel_rfl) ?_)
          | (refine wpList_store_row rfl 86 (.tmp 5) (.tmp 79) rfl wr.heap.size p.cells rfl rfl 86 #[.int .i64 0, .int .i64 0] (heap_alloc_new _ _) (by kernel_rfl) rfl (part_one_cells _) ?_))
        change Code.wp _ _ _ _ ((wr.alloc (.cells #[.int .i64 0, .int .i64 0] 86)).setRow wr.heap.size p.cells)
        have hm := made_row wr p.cells #[.int .i64 0, .int .i64 0] 86
        generalize (wr.alloc (.cells #[.int .i64 0, .int .i64 0] 86)).setRow wr.heap.size p.cells = W3 at *
        have c0 : W3.cell? ⟨wr.heap.size, 0, none⟩ = some (.int .i64 p.lot) := (cell_of_row _ _ _ _ _ _ hm.2.1).trans rfl
        have c1 : W3.cell? ⟨wr.heap.size, 1, none⟩ = some (.int .i64 p.n) := (cell_of_row _ _ _ _ _ _ hm.2.1).trans rfl
        have X3 : Hid (RW W3 rb vr (zs ++ encParts (ps.take k)) cs ∧ Gr w2 W3 rb v2 vr) := Lib.hid ⟨HR.out.1.below hm.1, HR.out.2.trans (Gr.of_below hm.1)⟩
        have hs3 := hm.2.2
        have hpb : wr.heap.size < W3.heap.size := by omega
        have hrb3 : rb < W3.heap.size := by omega
        generalize wr.heap.size = pb at *
        clear hm hs3 HRG HR
        go_region_with (go_at_call 56; go_must (refine (rw_ints rb _ 2 _ _ _ _ _ [p.lot, p.n] _ _ X3.out.1 (by have := HL2.out; simp only [List.length_append, List.length_singleton, List.length_cons, List.length_nil, encInts_length] at *; omega) (by simp) rfl (below_alloc _ _).drew (Nat.le_refl _) (heap_alloc_new _ _) rfl).mono ?_); rintro e w5 ⟨v5, rfl, hrw5, hgw5⟩)
        all_goals have X5 := Lib.hid (And.intro hrw5 hgw5)
        all_goals clear hrw5 hgw5
        all_goals go_wp2
        all_goals go_roundg g
        all_goals first
          | (case measure => omega)
          | skip
        all_goals
          refine ⟨k + 1, _, by omega, by first | rfl | go_num, ?_, X3.out.2.trans X5.out.2⟩
          unfold encParts
          rw [HT.out, ← List.append_assoc]
          exact X5.out.1
end Go.Proofs.YtehkgcmdndehaaaDoor

