/-
  Law RecAccounts, walked.
-/
import Derived.Test.YtehkgcmdndehaaaDoorGPRA42
import Derived.Test.YtehkgcmdndehaaaDoorGPRA43
import Derived.Test.YtehkgcmdndehaaaDoorGPRA44
import Derived.Test.YtehkgcmdndehaaaDoorGPRA31
import Derived.Test.YtehkgcmdndehaaaDoorGPRA46
import Derived.Test.YtehkgcmdndehaaaDoorGPRA24
import Derived.Test.YtehkgcmdndehaaaDoorGPRA45
import Derived.Deep.DeepCutAuto
import Derived.Deep.CutBlock
namespace Go.Proofs.YtehkgcmdndehaaaDoor
set_option linter.unusedSimpArgs false
set_option linter.unusedVariables false
open Go.RowKit

theorem ld_acc (ρ : Operand → Value) (dst : Option Tmp) (x : Operand) (t : TypeId) (pos : String) (after : Array Edge) (guard : Option (Nat × Bool)) (w : World) (h : okPtr 20 (ρ x) w = true) :
    (execOp ρ { dst, op := .load 45 x, type := t, pos, after, guard }).run Tryd.prog w = .ok (.value (.agg (ptrRow 20 (ρ x) w))) w :=
  run_ex_load ρ dst x t pos after guard w _ 20 _ Tryd.underlying45 rfl (by kernel_rfl) h
theorem row_acc {w0 w' : World} {b : Nat} {a : AccD} {l h v : Value} (hr : Blk w0 b 45 (a.cells l h v)) (hB : Below w0.heap.size w0 w') : isRow w' b 0 20 = true ∧ rowOf w' b 0 20 = a.cells l h v := by
  have hb : b < w0.heap.size := hr.lt
  have hr : w'.rangeAt b 0 (a.cells l h v).toList := fun j u hj => by
    rw [Nat.zero_add]
    refine (hB.cell (p := ⟨b, j, none⟩) hb).trans ?_
    rw [cell_of_row _ _ _ _ _ _ hr]; simpa using hj
  exact ⟨isRow_range (cs := a.cells l h v) hr, rowOf_range (cs := a.cells l h v) hr⟩
theorem FewA.short {a : AccD} (h : FewA a) : Short a := ⟨by have := h.lots; omega, by have := h.holds; omega, fun x hx => by have := h.parts x hx; omega, by have := h.win; omega⟩
theorem plainA_few {a : AccD} (h : FewA a) : FewA (plainA a) := by
  refine ⟨h.lots, h.holds, by simpa [plainA] using h.win, h.sum, h.name, h.key, h.plan, h.parts, fun e he => ?_⟩
  simp only [plainA, List.mem_map] at he
  obtain ⟨x, hx, rfl⟩ := he
  have := h.ents x hx
  unfold plainE
  split
  · exact ⟨by show (0 : Nat) ≤ 255; omega, this.2⟩
  · exact this
theorem flat_le {α : Type} (f : α → List UInt8) (m : Nat) : ∀ (xs : List α), (∀ x ∈ xs, (f x).length ≤ m) → (xs.flatMap f).length ≤ xs.length * m
  | [], _ => by simp
  | x :: xs, h => by
    rw [List.flatMap_cons, List.length_append, List.length_cons, Nat.add_mul]
    have := flat_le f m xs (fun y hy => h y (List.mem_cons_of_mem _ hy))
    have := h x (List.mem_cons_self ..)
    omega
theorem encAcc_few {a : AccD} (h : FewA a) : (encAcc a).length ≤ 100000 := by
  have l1 := flat_le encLot 72 a.lots (fun x _ => by rw [encLot, encInts_length]; simp [LotD.nums])
  have l2 := flat_le encHold 665 a.holds (fun x hx => by
    have := flat_le encPart 16 x.parts (fun y _ => by rw [encPart, encInts_length]; simp)
    have hp := h.parts x hx
    simp only [encHold, encParts, List.length_append, encInts_length, List.length_cons, List.length_nil]
    omega)
  have l3 := flat_le encEntry 354 a.window (fun x hx => by
    have hp := (h.ents x hx).1
    have : (if x.ans.stmt.term = 0 then [0] else 1 :: encStmt x.ans.stmt).length ≤ 321 := by
      split
      · simp
      · rw [List.length_cons, encStmt, List.length_append, encText_length, encInts_length]; simp [StmtD.nums]; omega
    simp only [encEntry, encAns, List.length_append, encInts_length, List.length_cons, List.length_nil]
    omega)
  have h1 := h.lots
  have h2 := h.holds
  have h3 := h.win
  have h4 := h.name
  have h5 := h.key
  have h6 := h.plan
  have m1 : a.lots.length * 72 ≤ 40 * 72 := Nat.mul_le_mul_right _ h1
  have m2 : a.holds.length * 665 ≤ 40 * 665 := Nat.mul_le_mul_right _ h2
  have m3 : a.window.length * 354 ≤ 40 * 354 := Nat.mul_le_mul_right _ h3
  simp only [encAcc, encLists, encLots, encHolds, encEntries, List.length_append, encInts_length, encText_length, encPlan_length, List.length_cons, List.length_nil]
  omega
/-- The two arguments lie in blocks of their own. -/
structure RaAt (w0 w : World) (bb : Nat) (a o : AccD) (al ah aw ol oh ow : Value) (hs ks : List (HoldD × Value)) : Prop where
  b : Below w0.heap.size w0 w
  ba : Blk w bb 45 (a.cells al ah aw)
  bo : Blk w (bb + 1) 45 (o.cells ol oh ow)
  ra : AccRd w a al ah aw hs
  ro : AccRd w o ol oh ow ks
theorem RaAt.on {w0 w w' : World} {b : Nat} {a o : AccD} {al ah aw ol oh ow : Value} {hs ks : List (HoldD × Value)} (h : RaAt w0 w b a o al ah aw ol oh ow hs ks) (hB : Below w.heap.size w w') : RaAt w0 w' b a o al ah aw ol oh ow hs ks :=
  ⟨h.b.trans (hB.mono h.b.size), h.ba.below hB, h.bo.below hB, h.ra.below hB, h.ro.below hB⟩
theorem RaAt.made (w : World) {a o : AccD} {al ah aw ol oh ow : Value} {hs ks : List (HoldD × Value)} (ra : AccRd w a al ah aw hs) (ro : AccRd w o ol oh ow ks) : RaAt w ((w.alloc (.cells (a.cells al ah aw) 45)).alloc (.cells (o.cells ol oh ow) 45)) w.heap.size a o al ah aw ol oh ow hs ks :=
  ⟨below_alloc2 _ _ _, (Blk.new _ _ _).below (below_alloc _ _), by have := Blk.new (w.alloc (.cells (a.cells al ah aw) 45)) 45 (o.cells ol oh ow); simpa using this, ra.below (below_alloc2 _ _ _), ro.below (below_alloc2 _ _ _)⟩
attribute [local go_sem ↓] ld_acc
set_option maxHeartbeats 3200000 in
set_option maxRecDepth 100000 in
theorem ra_main (a o : AccD) (al ah aw ol oh ow : Value) (hs ks : List (HoldD × Value)) (w : World) (ra : AccRd w a al ah aw hs) (ro : AccRd w o ol oh ow ks) (za : FitA a) (zo : FitA o) (fa : FewA a → AccFit a) (ht : w.cell? ⟨3, 15, none⟩ = some (.int .u8 4)) :
    Calls Tryd.prog 6 #[.agg (a.cells al ah aw), .agg (o.cells ol oh ow)] w (NumPost w) := by
  have HT : Hid (∀ w', Below w.heap.size w w' → w'.cell? ⟨3, 15, none⟩ = some (.int .u8 4)) := Lib.hid fun w' hB => (hB.cell (p := ⟨3, 15, none⟩) (World.block_lt_of_cell? w _ ht)).trans ht
  have X00 := Lib.hid (RaAt.made w ra ro)
  have HZ := Lib.hid (And.intro za (And.intro zo fa))
  clear ra ro za zo fa ht
  go_enter Tryd.func6, Tryd.ntmps6
  go_upto_region 1 with (fail)
  generalize (w.alloc (.cells (a.cells al ah aw) 45)).alloc (.cells (o.cells ol oh ow) 45) = W0 at *
  generalize hab : w.heap.size = ab at *
  have HAB := Lib.hid hab
  clear hab
  have X0 : Hid (RaAt w W0 ab a o al ah aw ol oh ow hs ks) := X00
  clear X00
  go_upto_region 3 with (go_at_call 7; refine (known_ok _ (HT.out _ (by rw [← HAB.out]; exact X0.out.b))).mono ?_; rintro e w1 ⟨rfl, hB1⟩; have X1 := Lib.hid (X0.out.on hB1); clear hB1)
  have l1 := (row_acc X1.out.ba (Below.refl _ _)).1
  have m1 := (row_acc X1.out.ba (Below.refl _ _)).2
  go_wp2_with (fail)
  refine (law_few a al ah aw hs w1 X1.out.ra HZ.out.1).mono ?_
  rintro e w2 ⟨b1, rfl, hf1, hB2⟩
  have X2 := Lib.hid (X1.out.on hB2)
  have F1 := Lib.hid hf1
  clear hB2 hf1 l1 m1
  cases b1 with
  | false =>
    go_wp2
    go_ret
    exact ⟨rfl, X2.out.b⟩
  | true =>
    have l1 := (row_acc X2.out.bo (Below.refl _ _)).1
    have m1 := (row_acc X2.out.bo (Below.refl _ _)).2
    go_wp2_with (fail)
    refine (law_few o ol oh ow ks w2 X2.out.ro HZ.out.2.1).mono ?_
    rintro e w3 ⟨b2, rfl, hf2, hB3⟩
    have X3 := Lib.hid (X2.out.on hB3)
    have F2 := Lib.hid hf2
    clear hB3 hf2 l1 m1 X1 X2 X0
    cases b2 with
    | false =>
      go_wp2
      go_ret
      exact ⟨rfl, X3.out.b⟩
    | true =>
      go_upto_region 5 with (fail)
      have FA : Hid (FewA a ∧ FewA o ∧ AccFit a) := Lib.hid ⟨F1.out (by trivial), F2.out (by trivial), HZ.out.2.2 (F1.out (by trivial))⟩
      have el : Hid ((encAcc a).length ≤ 100000) := Lib.hid (encAcc_few FA.out.1)
      clear F1 F2
      have l1 := (row_acc X3.out.ba (Below.refl _ _)).1
      have m1 := (row_acc X3.out.ba (Below.refl _ _)).2
      go_upto_region 6 with (go_at_call 23; go_must (refine (rr_encodeAccount a al ah aw hs _ X3.out.ra.lots X3.out.ra.holds X3.out.ra.win X3.out.ra.heq (fun e he => (FA.out.1.ents e he).1) (by have := el.out; omega)).mono ?_); rintro e w4 ⟨vA, rfl, hr4, hB4⟩; have R4 := Lib.hid (And.intro (Reads.of_own hr4) hB4); clear hr4 hB4)
      have X4 := Lib.hid (X3.out.on R4.out.2)
      clear l1 m1 X3
      go_upto_region 7 with (first
        | (go_at_call 20; go_must (refine (rr_parseAcc vA (encAcc a) w4 R4.out.1 (by have := el.out; omega)).mono ?_); rintro e w5 ⟨pv, rfl, hpv, hB5⟩; rw [parseAcc_enc a FA.out.2.2] at hpv; obtain ⟨pl, ph, pw, qs, rfl, hq1, hq2, hq3, hq4⟩ := hpv; have P5 := Lib.hid (And.intro (AccRd.mk hq1 hq2 hq3 hq4) hB5); clear hq1 hq2 hq3 hq4 hB5; have pe : Hid ((parseAcc (encAcc a)).2 = 0) := Lib.hid (by rw [parseAcc_enc a FA.out.2.2]); rw [pe.out])
        | (refine wpList_store_row rfl 45 (.tmp 6) (.tmp 23) rfl w5.heap.size ((plainA a).cells pl ph pw) rfl rfl 45 accZc (heap_alloc_new _ _) (by kernel_rfl) rfl (acc_one_cells _ (items_one P5.out.1.lots) (items_one P5.out.1.holds.1) (items_one P5.out.1.win)) ?_))
      change Code.wp _ _ _ _ ((w5.alloc (.cells accZc 45)).setRow w5.heap.size ((plainA a).cells pl ph pw))
      have hB8 : Below w5.heap.size w5 ((w5.alloc (.cells accZc 45)).setRow w5.heap.size ((plainA a).cells pl ph pw)) := below_setRow (below_alloc _ _) (Nat.le_refl _) _
      have X8 : Hid (RaAt w ((w5.alloc (.cells accZc 45)).setRow w5.heap.size ((plainA a).cells pl ph pw)) ab a o al ah aw ol oh ow hs ks ∧ Blk ((w5.alloc (.cells accZc 45)).setRow w5.heap.size ((plainA a).cells pl ph pw)) w5.heap.size 45 ((plainA a).cells pl ph pw) ∧ AccRd ((w5.alloc (.cells accZc 45)).setRow w5.heap.size ((plainA a).cells pl ph pw)) (plainA a) pl ph pw qs ∧ Reads ((w5.alloc (.cells accZc 45)).setRow w5.heap.size ((plainA a).cells pl ph pw)) vA (encAcc a)) :=
        Lib.hid ⟨(X4.out.on P5.out.2).on hB8, (Blk.new w5 45 accZc).setRow _, P5.out.1.below hB8, (R4.out.1.below P5.out.2).below hB8⟩
      generalize (w5.alloc (.cells accZc 45)).setRow w5.heap.size ((plainA a).cells pl ph pw) = W8 at *
      generalize w5.heap.size = xb at *
      clear hB8 P5 X4 R4 pe
      have l2 := fun w' hB => (row_acc (w' := w') X8.out.1.ba hB).1
      have m2 := fun w' hB => (row_acc (w' := w') X8.out.1.ba hB).2
      have l3 := fun w' hB => (row_acc (w' := w') X8.out.1.bo hB).1
      have m3 := fun w' hB => (row_acc (w' := w') X8.out.1.bo hB).2
      have l6 := fun w' hB => (row_acc (w' := w') X8.out.2.1 hB).1
      have m6 := fun w' hB => (row_acc (w' := w') X8.out.2.1 hB).2
      have s7 : ∀ w', Below W8.heap.size W8 w' → (convert 29 9 vA).run Tryd.prog w' = .ok (.string (strB (encAcc a))) w' := fun w' hB => run_string_of _ _ _ Tryd.underlying29 Tryd.underlying5 Tryd.underlying9 (X8.out.2.2.2.below hB)
      have e1 := eqAcc_refl
      have e2 : eqAccF (plainA a) (plainA a) = true := by rw [← eqAcc_same]; exact eqAcc_refl _
      have e3 : eqAccF a o = eqAccR a o := (eqAcc_same a o).symm
      refine wp_region_held_drew (S := fun w' => Below W8.heap.size W8 w') (by kernel_rfl) (Below.refl _ _).drew (fun hHeld => ?_)
      have qS := hHeld
      clear hHeld
      refine wpAnyH_take (i := 0) (oi := { dst := some 25, op := Op.move (.tmp 5), type := 29, pos := "law.go:63", after := #[], guard := none }) (v := ?_) rfl (by kernel_rfl) (by kernel_rfl) (by kernel_rfl) (fun _ _ _ h => h) (Or.inl ⟨by rfl, ?_⟩) qS ?_
      rotate_left
      · intro w hSw
        (try dsimp only at hSw)
        go_simp
        all_goals with_reducible rfl
      simp only [Act.put, List.setIfInBounds_toArray, List.set_cons_zero, List.set_cons_succ]
      refine wpAnyH_take (i := 1) (oi := { dst := some 26, op := Op.convert 29 9 (.tmp 25), type := 9, pos := "law.go:63", after := #[{ on := 0, ground := .data }], guard := none }) (v := ?_) rfl (by kernel_rfl) (by kernel_rfl) (by kernel_rfl) (fun _ _ _ h => h) (Or.inl ⟨by rfl, ?_⟩) qS ?_
      rotate_left
      · intro w hSw
        (try dsimp only at hSw)
        go_simp
        all_goals with_reducible rfl
      simp only [Act.put, List.setIfInBounds_toArray, List.set_cons_zero, List.set_cons_succ]
      refine wpAnyH_take (i := 2) (oi := { dst := some 27, op := Op.load 45 (.tmp 2), type := 45, pos := "law.go:63", after := #[], guard := none }) (v := ?_) rfl (by kernel_rfl) (by kernel_rfl) (by kernel_rfl) (fun _ _ _ h => h) (Or.inl ⟨by rfl, ?_⟩) qS ?_
      rotate_left
      · intro w hSw
        (try dsimp only at hSw)
        go_simp
        all_goals with_reducible rfl
      simp only [Act.put, List.setIfInBounds_toArray, List.set_cons_zero, List.set_cons_succ]
      refine H_one (i := 3) (o := { dst := some 28, op := Op.call { callee := Callee.value (.func 18), args := #[.const (Value.slice none 0 0), .tmp 27], argTypes := #[29, 45] }, type := 29, pos := "law.go:63", after := #[{ on := 2, ground := .data }], guard := none }) (by kernel_rfl) rfl (fun K hK => ?_)
      go_simp
      go_at_call 18
      refine (ref_wacc a al ah aw hs _ (X8.out.1.ra.below qS).lots (X8.out.1.ra.below qS).holds (X8.out.1.ra.below qS).win X8.out.1.ra.heq (fun e he => (FA.out.1.ents e he).1) ⟨FA.out.1.name, FA.out.1.key, FA.out.1.plan⟩ (by have := el.out; omega)).mono ?_
      rintro e wC ⟨vC, rfl, hrC, hBC⟩
      have pC : Below W8.heap.size W8 wC := qS.trans (hBC.mono qS.size)
      have rC := Reads.of_own hrC
      have sC : ∀ w', Reads w' vC (encAcc a) → (convert 29 9 vC).run Tryd.prog w' = .ok (.string (strB (encAcc a))) w' := fun w' hB => run_string_of _ _ _ Tryd.underlying29 Tryd.underlying5 Tryd.underlying9 hB
      clear hrC hBC
      go_simp
      refine hK.out _ _ pC ?_
      clear hK K
      (try simp only [Act.put, List.setIfInBounds_toArray, List.set_cons_zero, List.set_cons_succ])
      refine H_weaken (S2 := fun w' => Below W8.heap.size W8 w' ∧ Reads w' vC (encAcc a)) (fun _ h => h.1) _ _ _ _ ?_
      replace qS := And.intro pC rC
      refine wpAnyH_take (i := 4) (oi := { dst := some 29, op := Op.convert 29 9 (.tmp 28), type := 9, pos := "law.go:63", after := #[{ on := 3, ground := .data }], guard := none }) (v := ?_) rfl (by kernel_rfl) (by kernel_rfl) (by kernel_rfl) (fun _ _ _ h => h) (Or.inl ⟨by rfl, ?_⟩) qS ?_
      rotate_left
      · intro w hSw
        (try dsimp only at hSw)
        go_simp
        all_goals with_reducible rfl
      simp only [Act.put, List.setIfInBounds_toArray, List.set_cons_zero, List.set_cons_succ]
      refine wpAnyH_take (i := 5) (oi := { dst := some 30, op := Op.binOp BinOp.eql 9 (.tmp 26) (.tmp 29) 9, type := 4, pos := "law.go:63", after := #[{ on := 1, ground := .data }, { on := 4, ground := .data }], guard := none }) (v := ?_) rfl (by kernel_rfl) (by kernel_rfl) (by kernel_rfl) (fun _ _ _ h => h) (Or.inl ⟨by rfl, ?_⟩) qS ?_
      rotate_left
      · intro w hSw
        (try dsimp only at hSw)
        go_simp
        all_goals with_reducible rfl
      simp only [Act.put, List.setIfInBounds_toArray, List.set_cons_zero, List.set_cons_succ]
      refine wpAnyH_take (i := 6) (oi := { dst := some 31, op := Op.move (.tmp 30), type := 4, pos := "law.go:63", after := #[{ on := 5, ground := .data }, { on := 3, ground := .chain }], guard := none }) (v := ?_) rfl (by kernel_rfl) (by kernel_rfl) (by kernel_rfl) (fun _ _ _ h => h) (Or.inl ⟨by rfl, ?_⟩) qS ?_
      rotate_left
      · intro w hSw
        (try dsimp only at hSw)
        go_simp
        all_goals with_reducible rfl
      simp only [Act.put, List.setIfInBounds_toArray, List.set_cons_zero, List.set_cons_succ]
      refine wpAnyH_take (i := 7) (oi := { dst := some 32, op := Op.move (.tmp 7), type := 32, pos := "law.go:63", after := #[{ on := 6, ground := .guard }], guard := some (6, true) }) (v := ?_) rfl (by kernel_rfl) (by kernel_rfl) (by kernel_rfl) (fun _ _ _ h => h) (Or.inl ⟨by rfl, ?_⟩) qS ?_
      rotate_left
      · intro w hSw
        (try dsimp only at hSw)
        go_simp
        all_goals with_reducible rfl
      simp only [Act.put, List.setIfInBounds_toArray, List.set_cons_zero, List.set_cons_succ]
      refine wpAnyH_take (i := 8) (oi := { dst := some 33, op := Op.binOp BinOp.eql 32 (.tmp 32) (.const (Value.int IntKind.i64 0)) 32, type := 4, pos := "law.go:63", after := #[{ on := 7, ground := .data }, { on := 6, ground := .guard }], guard := some (6, true) }) (v := ?_) rfl (by kernel_rfl) (by kernel_rfl) (by kernel_rfl) (fun _ _ _ h => h) (Or.inl ⟨by rfl, ?_⟩) qS ?_
      rotate_left
      · intro w hSw
        (try dsimp only at hSw)
        go_simp
        all_goals with_reducible rfl
      simp only [Act.put, List.setIfInBounds_toArray, List.set_cons_zero, List.set_cons_succ]
      refine wpAnyH_take (i := 9) (oi := { dst := some 34, op := Op.pick (.tmp 31) (.tmp 33) (.const (Value.bool false)), type := 4, pos := "law.go:63", after := #[{ on := 6, ground := .data }, { on := 8, ground := .data }], guard := none }) (v := ?_) rfl (by kernel_rfl) (by kernel_rfl) (by kernel_rfl) (fun _ _ _ h => h) (Or.inl ⟨by rfl, ?_⟩) qS ?_
      rotate_left
      · intro w hSw
        (try dsimp only at hSw)
        go_simp
        all_goals with_reducible rfl
      simp only [Act.put, List.setIfInBounds_toArray, List.set_cons_zero, List.set_cons_succ]
      refine wpAnyH_take (i := 10) (oi := { dst := some 35, op := Op.move (.tmp 34), type := 4, pos := "law.go:63", after := #[{ on := 9, ground := .data }, { on := 6, ground := .chain }], guard := none }) (v := ?_) rfl (by kernel_rfl) (by kernel_rfl) (by kernel_rfl) (fun _ _ _ h => h) (Or.inl ⟨by rfl, ?_⟩) qS ?_
      rotate_left
      · intro w hSw
        (try dsimp only at hSw)
        go_simp
        all_goals with_reducible rfl
      simp only [Act.put, List.setIfInBounds_toArray, List.set_cons_zero, List.set_cons_succ]
      refine wpAnyH_take (i := 11) (oi := { dst := some 36, op := Op.load 45 (.tmp 6), type := 45, pos := "law.go:63", after := #[{ on := 10, ground := .guard }], guard := some (10, true) }) (v := ?_) rfl (by kernel_rfl) (by kernel_rfl) (by kernel_rfl) (fun _ _ _ h => h) (Or.inl ⟨by rfl, ?_⟩) qS ?_
      rotate_left
      · intro w hSw
        (try dsimp only at hSw)
        go_simp
        all_goals with_reducible rfl
      simp only [Act.put, List.setIfInBounds_toArray, List.set_cons_zero, List.set_cons_succ]
      refine wpAnyH_take (i := 12) (oi := { dst := some 37, op := Op.load 45 (.tmp 2), type := 45, pos := "law.go:63", after := #[{ on := 10, ground := .guard }], guard := some (10, true) }) (v := ?_) rfl (by kernel_rfl) (by kernel_rfl) (by kernel_rfl) (fun _ _ _ h => h) (Or.inl ⟨by rfl, ?_⟩) qS ?_
      rotate_left
      · intro w hSw
        (try dsimp only at hSw)
        go_simp
        all_goals with_reducible rfl
      simp only [Act.put, List.setIfInBounds_toArray, List.set_cons_zero, List.set_cons_succ]
      refine H_one (i := 13) (o := { dst := some 38, op := Op.call { callee := Callee.value (.func 26), args := #[.tmp 37], argTypes := #[45] }, type := 45, pos := "law.go:63", after := #[{ on := 12, ground := .data }, { on := 10, ground := .chain }, { on := 10, ground := .guard }], guard := some (10, true) }) (by kernel_rfl) rfl (fun K hK => ?_)
      go_simp
      go_at_call 26
      refine (law_plain a al ah aw hs _ (X8.out.1.ra.below qS.1) (by have := FA.out.1.win; omega)).mono ?_
      rintro e wD ⟨wv, rfl, hrD, hBD⟩
      have pD : Below W8.heap.size W8 wD ∧ Reads wD vC (encAcc a) := ⟨qS.1.trans (hBD.mono qS.1.size), qS.2.below hBD⟩
      clear hBD
      go_simp
      refine hK.out _ _ pD ?_
      clear hK K
      (try simp only [Act.put, List.setIfInBounds_toArray, List.set_cons_zero, List.set_cons_succ])
      refine H_weaken (S2 := fun w' => Below W8.heap.size W8 w' ∧ Reads w' vC (encAcc a) ∧ AccRd w' (plainA a) al ah wv hs) (fun _ h => ⟨h.1, h.2.1⟩) _ _ _ _ ?_
      replace qS := And.intro pD.1 (And.intro pD.2 hrD)
      refine H_one (i := 14) (o := { dst := some 39, op := Op.call { callee := Callee.value (.func 22), args := #[.tmp 36, .tmp 38], argTypes := #[45, 45] }, type := 4, pos := "law.go:63", after := #[{ on := 11, ground := .data }, { on := 13, ground := .data }, { on := 13, ground := .chain }, { on := 10, ground := .guard }], guard := some (10, true) }) (by kernel_rfl) rfl (fun K hK => ?_)
      go_simp
      go_at_call 22
      refine (ref_sameAcc (plainA a) (plainA a) pl ph pw al ah wv qs hs _ (X8.out.2.2.1.below qS.1) qS.2.2 (plainA_few FA.out.1).short).mono ?_
      rintro e wE ⟨rfl, hBwE⟩
      have pwE : Below W8.heap.size W8 wE ∧ Reads wE vC (encAcc a) ∧ AccRd wE (plainA a) al ah wv hs := ⟨qS.1.trans (hBwE.mono qS.1.size), qS.2.1.below hBwE, qS.2.2.below hBwE⟩
      clear hBwE
      go_simp
      refine hK.out _ _ pwE ?_
      clear hK K
      (try simp only [Act.put, List.setIfInBounds_toArray, List.set_cons_zero, List.set_cons_succ])
      replace qS := pwE
      refine wpAnyH_take (i := 15) (oi := { dst := some 40, op := Op.pick (.tmp 35) (.tmp 39) (.const (Value.bool false)), type := 4, pos := "law.go:63", after := #[{ on := 10, ground := .data }, { on := 14, ground := .data }], guard := none }) (v := ?_) rfl (by kernel_rfl) (by kernel_rfl) (by kernel_rfl) (fun _ _ _ h => h) (Or.inl ⟨by rfl, ?_⟩) qS ?_
      rotate_left
      · intro w hSw
        (try dsimp only at hSw)
        go_simp
        all_goals with_reducible rfl
      simp only [Act.put, List.setIfInBounds_toArray, List.set_cons_zero, List.set_cons_succ]
      refine wpAnyH_take (i := 16) (oi := { dst := some 41, op := Op.move (.tmp 40), type := 4, pos := "law.go:63", after := #[{ on := 15, ground := .data }, { on := 14, ground := .chain }], guard := none }) (v := ?_) rfl (by kernel_rfl) (by kernel_rfl) (by kernel_rfl) (fun _ _ _ h => h) (Or.inl ⟨by rfl, ?_⟩) qS ?_
      rotate_left
      · intro w hSw
        (try dsimp only at hSw)
        go_simp
        all_goals with_reducible rfl
      simp only [Act.put, List.setIfInBounds_toArray, List.set_cons_zero, List.set_cons_succ]
      refine wpAnyH_take (i := 17) (oi := { dst := some 42, op := Op.load 45 (.tmp 2), type := 45, pos := "law.go:63", after := #[{ on := 16, ground := .guard }], guard := some (16, true) }) (v := ?_) rfl (by kernel_rfl) (by kernel_rfl) (by kernel_rfl) (fun _ _ _ h => h) (Or.inl ⟨by rfl, ?_⟩) qS ?_
      rotate_left
      · intro w hSw
        (try dsimp only at hSw)
        go_simp
        all_goals with_reducible rfl
      simp only [Act.put, List.setIfInBounds_toArray, List.set_cons_zero, List.set_cons_succ]
      refine wpAnyH_take (i := 18) (oi := { dst := some 43, op := Op.load 45 (.tmp 3), type := 45, pos := "law.go:63", after := #[{ on := 16, ground := .guard }], guard := some (16, true) }) (v := ?_) rfl (by kernel_rfl) (by kernel_rfl) (by kernel_rfl) (fun _ _ _ h => h) (Or.inl ⟨by rfl, ?_⟩) qS ?_
      rotate_left
      · intro w hSw
        (try dsimp only at hSw)
        go_simp
        all_goals with_reducible rfl
      simp only [Act.put, List.setIfInBounds_toArray, List.set_cons_zero, List.set_cons_succ]
      refine wpAnyH_take (i := 20) (oi := { dst := some 45, op := Op.load 45 (.tmp 2), type := 45, pos := "law.go:63", after := #[{ on := 16, ground := .guard }], guard := some (16, true) }) (v := ?_) rfl (by kernel_rfl) (by kernel_rfl) (by kernel_rfl) (fun _ _ _ h => h) (Or.inl ⟨by rfl, ?_⟩) qS ?_
      rotate_left
      · intro w hSw
        (try dsimp only at hSw)
        go_simp
        all_goals with_reducible rfl
      simp only [Act.put, List.setIfInBounds_toArray, List.set_cons_zero, List.set_cons_succ]
      refine wpAnyH_take (i := 21) (oi := { dst := some 46, op := Op.load 45 (.tmp 3), type := 45, pos := "law.go:63", after := #[{ on := 16, ground := .guard }], guard := some (16, true) }) (v := ?_) rfl (by kernel_rfl) (by kernel_rfl) (by kernel_rfl) (fun _ _ _ h => h) (Or.inl ⟨by rfl, ?_⟩) qS ?_
      rotate_left
      · intro w hSw
        (try dsimp only at hSw)
        go_simp
        all_goals with_reducible rfl
      simp only [Act.put, List.setIfInBounds_toArray, List.set_cons_zero, List.set_cons_succ]
      refine H_one (i := 19) (o := { dst := some 44, op := Op.call { callee := Callee.value (.func 27), args := #[.tmp 42, .tmp 43], argTypes := #[45, 45] }, type := 4, pos := "law.go:63", after := #[{ on := 17, ground := .data }, { on := 18, ground := .data }, { on := 16, ground := .chain }, { on := 16, ground := .guard }], guard := some (16, true) }) (by kernel_rfl) rfl (fun K hK => ?_)
      go_simp
      go_at_call 27
      refine (rr_sameAcc a o al ah aw ol oh ow hs ks _ (X8.out.1.ra.below qS.1) (X8.out.1.ro.below qS.1) FA.out.1.short).mono ?_
      rintro e wF ⟨rfl, hBwF⟩
      have pwF : Below W8.heap.size W8 wF ∧ Reads wF vC (encAcc a) ∧ AccRd wF (plainA a) al ah wv hs := ⟨qS.1.trans (hBwF.mono qS.1.size), qS.2.1.below hBwF, qS.2.2.below hBwF⟩
      clear hBwF
      go_simp
      refine hK.out _ _ pwF ?_
      clear hK K
      (try simp only [Act.put, List.setIfInBounds_toArray, List.set_cons_zero, List.set_cons_succ])
      replace qS := pwF
      refine H_one (i := 22) (o := { dst := some 47, op := Op.call { callee := Callee.value (.func 22), args := #[.tmp 45, .tmp 46], argTypes := #[45, 45] }, type := 4, pos := "law.go:63", after := #[{ on := 20, ground := .data }, { on := 21, ground := .data }, { on := 19, ground := .chain }, { on := 16, ground := .guard }], guard := some (16, true) }) (by kernel_rfl) rfl (fun K hK => ?_)
      go_simp
      go_at_call 22
      refine (ref_sameAcc a o al ah aw ol oh ow hs ks _ (X8.out.1.ra.below qS.1) (X8.out.1.ro.below qS.1) FA.out.1.short).mono ?_
      rintro e wG ⟨rfl, hBwG⟩
      have pwG : Below W8.heap.size W8 wG ∧ Reads wG vC (encAcc a) ∧ AccRd wG (plainA a) al ah wv hs := ⟨qS.1.trans (hBwG.mono qS.1.size), qS.2.1.below hBwG, qS.2.2.below hBwG⟩
      clear hBwG
      go_simp
      refine hK.out _ _ pwG ?_
      clear hK K
      (try simp only [Act.put, List.setIfInBounds_toArray, List.set_cons_zero, List.set_cons_succ])
      replace qS := pwG
      refine wpAnyH_take (i := 23) (oi := { dst := some 48, op := Op.binOp BinOp.eql 4 (.tmp 44) (.tmp 47) 4, type := 4, pos := "law.go:63", after := #[{ on := 19, ground := .data }, { on := 22, ground := .data }, { on := 16, ground := .guard }], guard := some (16, true) }) (v := ?_) rfl (by kernel_rfl) (by kernel_rfl) (by kernel_rfl) (fun _ _ _ h => h) (Or.inl ⟨by rfl, ?_⟩) qS ?_
      rotate_left
      · intro w hSw
        (try dsimp only at hSw)
        go_simp
        all_goals with_reducible rfl
      simp only [Act.put, List.setIfInBounds_toArray, List.set_cons_zero, List.set_cons_succ]
      refine wpAnyH_take (i := 24) (oi := { dst := some 49, op := Op.pick (.tmp 41) (.tmp 48) (.const (Value.bool false)), type := 4, pos := "law.go:63", after := #[{ on := 16, ground := .data }, { on := 23, ground := .data }], guard := none }) (v := ?_) rfl (by kernel_rfl) (by kernel_rfl) (by kernel_rfl) (fun _ _ _ h => h) (Or.inl ⟨by rfl, ?_⟩) qS ?_
      rotate_left
      · intro w hSw
        (try dsimp only at hSw)
        go_simp
        all_goals with_reducible rfl
      simp only [Act.put, List.setIfInBounds_toArray, List.set_cons_zero, List.set_cons_succ]
      refine wpAnyH_take (i := 25) (oi := { dst := some 50, op := Op.move (.tmp 49), type := 4, pos := "law.go:63", after := #[{ on := 24, ground := .data }, { on := 22, ground := .chain }], guard := none }) (v := ?_) rfl (by kernel_rfl) (by kernel_rfl) (by kernel_rfl) (fun _ _ _ h => h) (Or.inl ⟨by rfl, ?_⟩) qS ?_
      rotate_left
      · intro w hSw
        (try dsimp only at hSw)
        go_simp
        all_goals with_reducible rfl
      simp only [Act.put, List.setIfInBounds_toArray, List.set_cons_zero, List.set_cons_succ]
      refine wpAnyH_take (i := 26) (oi := { dst := some 51, op := Op.load 45 (.tmp 2), type := 45, pos := "law.go:63", after := #[{ on := 25, ground := .guard }], guard := some (25, true) }) (v := ?_) rfl (by kernel_rfl) (by kernel_rfl) (by kernel_rfl) (fun _ _ _ h => h) (Or.inl ⟨by rfl, ?_⟩) qS ?_
      rotate_left
      · intro w hSw
        (try dsimp only at hSw)
        go_simp
        all_goals with_reducible rfl
      simp only [Act.put, List.setIfInBounds_toArray, List.set_cons_zero, List.set_cons_succ]
      refine wpAnyH_take (i := 27) (oi := { dst := some 52, op := Op.load 45 (.tmp 2), type := 45, pos := "law.go:63", after := #[{ on := 25, ground := .guard }], guard := some (25, true) }) (v := ?_) rfl (by kernel_rfl) (by kernel_rfl) (by kernel_rfl) (fun _ _ _ h => h) (Or.inl ⟨by rfl, ?_⟩) qS ?_
      rotate_left
      · intro w hSw
        (try dsimp only at hSw)
        go_simp
        all_goals with_reducible rfl
      simp only [Act.put, List.setIfInBounds_toArray, List.set_cons_zero, List.set_cons_succ]
      refine H_one (i := 28) (o := { dst := some 53, op := Op.call { callee := Callee.value (.func 27), args := #[.tmp 51, .tmp 52], argTypes := #[45, 45] }, type := 4, pos := "law.go:63", after := #[{ on := 26, ground := .data }, { on := 27, ground := .data }, { on := 25, ground := .chain }, { on := 25, ground := .guard }], guard := some (25, true) }) (by kernel_rfl) rfl (fun K hK => ?_)
      go_simp
      go_at_call 27
      refine (rr_sameAcc a a al ah aw al ah aw hs hs _ (X8.out.1.ra.below qS.1) (X8.out.1.ra.below qS.1) FA.out.1.short).mono ?_
      rintro e wH ⟨rfl, hBwH⟩
      have pwH : Below W8.heap.size W8 wH ∧ Reads wH vC (encAcc a) ∧ AccRd wH (plainA a) al ah wv hs := ⟨qS.1.trans (hBwH.mono qS.1.size), qS.2.1.below hBwH, qS.2.2.below hBwH⟩
      clear hBwH
      go_simp
      refine hK.out _ _ pwH ?_
      clear hK K
      (try simp only [Act.put, List.setIfInBounds_toArray, List.set_cons_zero, List.set_cons_succ])
      replace qS := pwH
      refine wpAnyH_take (i := 29) (oi := { dst := some 54, op := Op.pick (.tmp 50) (.tmp 53) (.const (Value.bool false)), type := 4, pos := "law.go:63", after := #[{ on := 25, ground := .data }, { on := 28, ground := .data }], guard := none }) (v := ?_) rfl (by kernel_rfl) (by kernel_rfl) (by kernel_rfl) (fun _ _ _ h => h) (Or.inl ⟨by rfl, ?_⟩) qS ?_
      rotate_left
      · intro w hSw
        (try dsimp only at hSw)
        go_simp
        all_goals with_reducible rfl
      simp only [Act.put, List.setIfInBounds_toArray, List.set_cons_zero, List.set_cons_succ]
      refine wpAnyH_take (i := 30) (oi := { dst := some 4, op := Op.assign (.tmp 54), type := 4, pos := "law.go:63", after := #[{ on := 29, ground := .data }, { on := 28, ground := .chain }, { on := 0, ground := .phase }, { on := 1, ground := .phase }, { on := 2, ground := .phase }, { on := 3, ground := .phase }, { on := 4, ground := .phase }, { on := 5, ground := .phase }, { on := 6, ground := .phase }, { on := 7, ground := .phase }, { on := 8, ground := .phase }, { on := 9, ground := .phase }, { on := 10, ground := .phase }, { on := 11, ground := .phase }, { on := 12, ground := .phase }, { on := 13, ground := .phase }, { on := 14, ground := .phase }, { on := 15, ground := .phase }, { on := 16, ground := .phase }, { on := 17, ground := .phase }, { on := 18, ground := .phase }, { on := 19, ground := .phase }, { on := 20, ground := .phase }, { on := 21, ground := .phase }, { on := 22, ground := .phase }, { on := 23, ground := .phase }, { on := 24, ground := .phase }, { on := 25, ground := .phase }, { on := 26, ground := .phase }, { on := 27, ground := .phase }, { on := 28, ground := .phase }, { on := 29, ground := .phase }], guard := none }) (v := ?_) rfl (by kernel_rfl) (by kernel_rfl) (by kernel_rfl) (fun _ _ _ h => h) (Or.inl ⟨by rfl, ?_⟩) qS ?_
      rotate_left
      · intro w hSw
        (try dsimp only at hSw)
        go_simp
        all_goals with_reducible rfl
      simp only [Act.put, List.setIfInBounds_toArray, List.set_cons_zero, List.set_cons_succ]
      refine wpAnyH_done (by kernel_rfl) ?_ _
      go_wp2
      go_ret
      exact ⟨ret_bool (by first | rfl | simp), X8.out.1.b.trans (qS.1.mono X8.out.1.b.size)⟩
end Go.Proofs.YtehkgcmdndehaaaDoor

