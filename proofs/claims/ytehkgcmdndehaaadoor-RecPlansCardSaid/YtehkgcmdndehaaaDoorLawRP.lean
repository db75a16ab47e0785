/-
  Law RecPlans, walked.
-/
import Derived.Test.YtehkgcmdndehaaaDoorEqPS
import Derived.Test.YtehkgcmdndehaaaDoorRePL
import Derived.Test.YtehkgcmdndehaaaDoorRefPl
import Derived.Test.YtehkgcmdndehaaaDoorRefWs
import Derived.Test.YtehkgcmdndehaaaDoorNumL
import Derived.Test.YtehkgcmdndehaaaDoorRegW
import Derived.Test.YtehkgcmdndehaaaDoorLdRow
import Derived.Deep.DeepCutAuto
import Derived.Deep.CutBlock
namespace Go.Proofs.YtehkgcmdndehaaaDoor
set_option linter.unusedSimpArgs false
set_option linter.unusedVariables false
open Go.RowKit

theorem ld_plan (ρ : Operand → Value) (dst : Option Tmp) (x : Operand) (t : TypeId) (pos : String) (after : Array Edge) (guard : Option (Nat × Bool)) (w : World) (h : okPtr 10 (ρ x) w = true) :
    (execOp ρ { dst, op := .load 26 x, type := t, pos, after, guard }).run Tryd.prog w = .ok (.value (.agg (ptrRow 10 (ρ x) w))) w :=
  run_ex_load ρ dst x t pos after guard w _ 10 _ Tryd.underlying26 rfl (by kernel_rfl) h
theorem row_plan {w0 w' : World} {b : Nat} {q : PlanD} (h : w0.heap[b]? = some (.cells q.cells 26 (0, 0))) (hB : Below w0.heap.size w0 w') : isRow w' b 0 10 = true ∧ rowOf w' b 0 10 = q.cells := by
  have hb : b < w0.heap.size := (Array.getElem?_eq_some_iff.1 h).1
  have hr : w'.rangeAt b 0 q.cells.toList := fun j u hj => by
    rw [Nat.zero_add]
    refine (hB.cell (p := ⟨b, j, none⟩) hb).trans ?_
    rw [cell_of_row _ _ _ _ _ _ h]; simpa using hj
  exact ⟨isRow_range (cs := q.cells) hr, rowOf_range (cs := q.cells) hr⟩
theorem ld_stmt (ρ : Operand → Value) (dst : Option Tmp) (x : Operand) (t : TypeId) (pos : String) (after : Array Edge) (guard : Option (Nat × Bool)) (w : World) (h : okPtr 9 (ρ x) w = true) :
    (execOp ρ { dst, op := .load 28 x, type := t, pos, after, guard }).run Tryd.prog w = .ok (.value (.agg (ptrRow 9 (ρ x) w))) w :=
  run_ex_load ρ dst x t pos after guard w _ 9 _ Tryd.underlying28 rfl (by kernel_rfl) h
theorem row_stmt {w0 w' : World} {b : Nat} {q : StmtD} (h : w0.heap[b]? = some (.cells q.cells 28 (0, 0))) (hB : Below w0.heap.size w0 w') : isRow w' b 0 9 = true ∧ rowOf w' b 0 9 = q.cells := by
  have hb : b < w0.heap.size := (Array.getElem?_eq_some_iff.1 h).1
  have hr : w'.rangeAt b 0 q.cells.toList := fun j u hj => by
    rw [Nat.zero_add]
    refine (hB.cell (p := ⟨b, j, none⟩) hb).trans ?_
    rw [cell_of_row _ _ _ _ _ _ h]; simpa using hj
  exact ⟨isRow_range (cs := q.cells) hr, rowOf_range (cs := q.cells) hr⟩
theorem row_on {w w' : World} {b : Nat} {o : Obj} (h : w.heap[b]? = some o) (hB : Below w.heap.size w w') : w'.heap[b]? = some o := (hB.block b (Array.getElem?_eq_some_iff.1 h).1).trans h
theorem wp_plan (p : PlanD) (w : World) (hn : p.name.size ≤ 3000) : Calls Tryd.prog 14 #[.slice none 0 0, .agg p.cells] w (BytesPost w (encPlan p)) := by
  refine (ref_wplan w.heap.size (.slice none 0 0) [] p w (OwnB.nil _ _) (Nat.le_refl _) (by simp) hn).mono ?_
  rintro e w' ⟨v, rfl, ho, hg⟩
  exact ⟨v, rfl, by simpa [OwnB] using ho, hg.below_new rfl (Below.refl _ _) (Nat.le_refl _)⟩
theorem wp_stmt (p : StmtD) (w : World) (hn : p.name.size ≤ 3000) : Calls Tryd.prog 15 #[.slice none 0 0, .agg p.cells] w (BytesPost w (encStmt p)) := by
  refine (ref_wstmt w.heap.size (.slice none 0 0) [] p w (OwnB.nil _ _) (Nat.le_refl _) (by simp) hn).mono ?_
  rintro e w' ⟨v, rfl, ho, hg⟩
  exact ⟨v, rfl, by simpa [OwnB] using ho, hg.below_new rfl (Below.refl _ _) (Nat.le_refl _)⟩
/-- The three arguments lie in blocks of their own. -/
structure RpAt (w0 w : World) (a : Nat) (p q : PlanD) (s : StmtD) : Prop where
  b : Below w0.heap.size w0 w
  p : w.heap[a]? = some (.cells p.cells 26 (0, 0))
  q : w.heap[a + 1]? = some (.cells q.cells 26 (0, 0))
  s : w.heap[a + 2]? = some (.cells s.cells 28 (0, 0))
theorem RpAt.on {w0 w w' : World} {a : Nat} {p q : PlanD} {s : StmtD} (h : RpAt w0 w a p q s) (hB : Below w.heap.size w w') : RpAt w0 w' a p q s :=
  ⟨h.b.trans (hB.mono h.b.size), row_on h.p hB, row_on h.q hB, row_on h.s hB⟩
theorem RpAt.made (w : World) (p q : PlanD) (s : StmtD) : RpAt w (((w.alloc (.cells p.cells 26)).alloc (.cells q.cells 26)).alloc (.cells s.cells 28)) w.heap.size p q s := by
  have h1 := heap_alloc_new w (.cells p.cells 26)
  have h2 := heap_alloc_new (w.alloc (.cells p.cells 26)) (.cells q.cells 26)
  have h3 := heap_alloc_new ((w.alloc (.cells p.cells 26)).alloc (.cells q.cells 26)) (.cells s.cells 28)
  rw [show (w.alloc (.cells p.cells 26)).heap.size = w.heap.size + 1 by simp] at h2
  rw [show ((w.alloc (.cells p.cells 26)).alloc (.cells q.cells 26)).heap.size = w.heap.size + 2 by simp] at h3
  refine ⟨(below_alloc2 w _ _).trans ((below_alloc _ _).mono (by simp; omega)), ?_, ?_, h3⟩
  · exact row_on (row_on h1 (below_alloc _ _)) (below_alloc _ _)
  · exact row_on h2 (below_alloc _ _)
attribute [local go_sem ↓] ld_plan ld_stmt
set_option maxHeartbeats 3200000 in
set_option maxRecDepth 100000 in
theorem rp_p (p q : PlanD) (s : StmtD) (hp : 255 < p.name.size) (w : World) (ht : w.cell? ⟨3, 15, none⟩ = some (.int .u8 4)) :
    Calls Tryd.prog 4 #[.agg p.cells, .agg q.cells, .agg s.cells] w (NumPost w) := by
  have HT : Hid (∀ w', Below w.heap.size w w' → w'.cell? ⟨3, 15, none⟩ = some (.int .u8 4)) := Lib.hid fun w' hB => (hB.cell (p := ⟨3, 15, none⟩) (World.block_lt_of_cell? w _ ht)).trans ht
  have g1 : (255 : Int) < (p.name.size : Int) := by omega
  clear hp
  clear ht
  go_enter Tryd.func4, Tryd.ntmps4
  go_upto_region 1 with (fail)
  have X0 := Lib.hid (RpAt.made w p q s)
  generalize ((w.alloc (.cells p.cells 26)).alloc (.cells q.cells 26)).alloc (.cells s.cells 28) = W0 at *
  generalize hab : w.heap.size = ab at *
  have HAB := Lib.hid hab
  clear hab
  go_upto_region 3 with (go_at_call 7; refine (known_ok _ (HT.out _ (by rw [← HAB.out]; exact X0.out.b))).mono ?_; rintro e w1 ⟨rfl, hB1⟩; have X1 := Lib.hid (X0.out.on hB1); clear hB1)
  have k3 : w1.cell? ⟨ab, 0, none⟩ = some (.string p.name) := (cell_of_row _ _ _ _ _ _ X1.out.p).trans rfl
  have k4 : w1.cell? ⟨ab + 1, 0, none⟩ = some (.string q.name) := (cell_of_row _ _ _ _ _ _ X1.out.q).trans rfl
  have k5 : w1.cell? ⟨ab + 2, 0, none⟩ = some (.string s.name) := (cell_of_row _ _ _ _ _ _ X1.out.s).trans rfl
  go_wp2
  go_ret
  exact ⟨rfl, X1.out.b⟩
set_option maxHeartbeats 3200000 in
set_option maxRecDepth 100000 in
theorem rp_q (p q : PlanD) (s : StmtD) (hp : p.name.size ≤ 255) (hq : 255 < q.name.size) (w : World) (ht : w.cell? ⟨3, 15, none⟩ = some (.int .u8 4)) :
    Calls Tryd.prog 4 #[.agg p.cells, .agg q.cells, .agg s.cells] w (NumPost w) := by
  have HT : Hid (∀ w', Below w.heap.size w w' → w'.cell? ⟨3, 15, none⟩ = some (.int .u8 4)) := Lib.hid fun w' hB => (hB.cell (p := ⟨3, 15, none⟩) (World.block_lt_of_cell? w _ ht)).trans ht
  have g1 : ¬ (255 : Int) < (p.name.size : Int) := by omega
  have g2 : (255 : Int) < (q.name.size : Int) := by omega
  clear hp hq
  clear ht
  go_enter Tryd.func4, Tryd.ntmps4
  go_upto_region 1 with (fail)
  have X0 := Lib.hid (RpAt.made w p q s)
  generalize ((w.alloc (.cells p.cells 26)).alloc (.cells q.cells 26)).alloc (.cells s.cells 28) = W0 at *
  generalize hab : w.heap.size = ab at *
  have HAB := Lib.hid hab
  clear hab
  go_upto_region 3 with (go_at_call 7; refine (known_ok _ (HT.out _ (by rw [← HAB.out]; exact X0.out.b))).mono ?_; rintro e w1 ⟨rfl, hB1⟩; have X1 := Lib.hid (X0.out.on hB1); clear hB1)
  have k3 : w1.cell? ⟨ab, 0, none⟩ = some (.string p.name) := (cell_of_row _ _ _ _ _ _ X1.out.p).trans rfl
  have k4 : w1.cell? ⟨ab + 1, 0, none⟩ = some (.string q.name) := (cell_of_row _ _ _ _ _ _ X1.out.q).trans rfl
  have k5 : w1.cell? ⟨ab + 2, 0, none⟩ = some (.string s.name) := (cell_of_row _ _ _ _ _ _ X1.out.s).trans rfl
  go_wp2
  go_ret
  exact ⟨rfl, X1.out.b⟩
set_option maxHeartbeats 3200000 in
set_option maxRecDepth 100000 in
theorem rp_s (p q : PlanD) (s : StmtD) (hp : p.name.size ≤ 255) (hq : q.name.size ≤ 255) (hs : 255 < s.name.size) (w : World) (ht : w.cell? ⟨3, 15, none⟩ = some (.int .u8 4)) :
    Calls Tryd.prog 4 #[.agg p.cells, .agg q.cells, .agg s.cells] w (NumPost w) := by
  have HT : Hid (∀ w', Below w.heap.size w w' → w'.cell? ⟨3, 15, none⟩ = some (.int .u8 4)) := Lib.hid fun w' hB => (hB.cell (p := ⟨3, 15, none⟩) (World.block_lt_of_cell? w _ ht)).trans ht
  have g1 : ¬ (255 : Int) < (p.name.size : Int) := by omega
  have g2 : ¬ (255 : Int) < (q.name.size : Int) := by omega
  have g3 : (255 : Int) < (s.name.size : Int) := by omega
  clear hp hq hs
  clear ht
  go_enter Tryd.func4, Tryd.ntmps4
  go_upto_region 1 with (fail)
  have X0 := Lib.hid (RpAt.made w p q s)
  generalize ((w.alloc (.cells p.cells 26)).alloc (.cells q.cells 26)).alloc (.cells s.cells 28) = W0 at *
  generalize hab : w.heap.size = ab at *
  have HAB := Lib.hid hab
  clear hab
  go_upto_region 3 with (go_at_call 7; refine (known_ok _ (HT.out _ (by rw [← HAB.out]; exact X0.out.b))).mono ?_; rintro e w1 ⟨rfl, hB1⟩; have X1 := Lib.hid (X0.out.on hB1); clear hB1)
  have k3 : w1.cell? ⟨ab, 0, none⟩ = some (.string p.name) := (cell_of_row _ _ _ _ _ _ X1.out.p).trans rfl
  have k4 : w1.cell? ⟨ab + 1, 0, none⟩ = some (.string q.name) := (cell_of_row _ _ _ _ _ _ X1.out.q).trans rfl
  have k5 : w1.cell? ⟨ab + 2, 0, none⟩ = some (.string s.name) := (cell_of_row _ _ _ _ _ _ X1.out.s).trans rfl
  go_wp2
  go_ret
  exact ⟨rfl, X1.out.b⟩
set_option maxHeartbeats 3200000 in
set_option maxRecDepth 100000 in
theorem rp_main (p q : PlanD) (s : StmtD) (hp : PlanFit p) (hq : q.name.size ≤ 255) (hs : StmtFit s) (w : World) (ht : w.cell? ⟨3, 15, none⟩ = some (.int .u8 4)) :
    Calls Tryd.prog 4 #[.agg p.cells, .agg q.cells, .agg s.cells] w (NumPost w) := by
  have HT : Hid (∀ w', Below w.heap.size w w' → w'.cell? ⟨3, 15, none⟩ = some (.int .u8 4)) := Lib.hid fun w' hB => (hB.cell (p := ⟨3, 15, none⟩) (World.block_lt_of_cell? w _ ht)).trans ht
  have HP := Lib.hid (And.intro hp hs)
  have g1 : ¬ (255 : Int) < (p.name.size : Int) := by have := hp.1; omega
  have g2 : ¬ (255 : Int) < (q.name.size : Int) := by omega
  have g3 : ¬ (255 : Int) < (s.name.size : Int) := by have := hs.1; omega
  clear hp hq hs
  clear ht
  go_enter Tryd.func4, Tryd.ntmps4
  go_upto_region 1 with (fail)
  have X0 := Lib.hid (RpAt.made w p q s)
  generalize ((w.alloc (.cells p.cells 26)).alloc (.cells q.cells 26)).alloc (.cells s.cells 28) = W0 at *
  generalize hab : w.heap.size = ab at *
  have HAB := Lib.hid hab
  clear hab
  go_upto_region 3 with (go_at_call 7; refine (known_ok _ (HT.out _ (by rw [← HAB.out]; exact X0.out.b))).mono ?_; rintro e w1 ⟨rfl, hB1⟩; have X1 := Lib.hid (X0.out.on hB1); clear hB1)
  have k3 : w1.cell? ⟨ab, 0, none⟩ = some (.string p.name) := (cell_of_row _ _ _ _ _ _ X1.out.p).trans rfl
  have k4 : w1.cell? ⟨ab + 1, 0, none⟩ = some (.string q.name) := (cell_of_row _ _ _ _ _ _ X1.out.q).trans rfl
  have k5 : w1.cell? ⟨ab + 2, 0, none⟩ = some (.string s.name) := (cell_of_row _ _ _ _ _ _ X1.out.s).trans rfl
  go_upto_region 5 with (fail)
  clear k3 k4 k5 g1 g2 g3
  have s3 := fun w' hB => (row_plan (w' := w') X1.out.p hB).1
  have t3 := fun w' hB => (row_plan (w' := w') X1.out.p hB).2
  have s5 := fun w' hB => (row_stmt (w' := w') X1.out.s hB).1
  have t5 := fun w' hB => (row_stmt (w' := w') X1.out.s hB).2
  refine wp_region_held_drew (S := fun w' => Below w1.heap.size w1 w') (by kernel_rfl) (Below.refl _ _).drew (fun hHeld => ?_)
  have qS := hHeld
  clear hHeld
  refine wpAnyH_take (i := 0) (oi := { dst := some 31, op := Op.load 26 (.tmp 3), type := 26, pos := "law.go:74", after := #[], guard := none }) (v := ?_) rfl (by kernel_rfl) (by kernel_rfl) (by kernel_rfl) (fun _ _ _ h => h) (Or.inl ⟨by rfl, ?_⟩) qS ?_
  rotate_left
  · intro w hSw
    (try dsimp only at hSw)
    go_simp
    all_goals with_reducible rfl
  simp only [Act.put, List.setIfInBounds_toArray, List.set_cons_zero, List.set_cons_succ]
  refine wpAnyH_take (i := 2) (oi := { dst := some 33, op := Op.load 28 (.tmp 5), type := 28, pos := "law.go:74", after := #[], guard := none }) (v := ?_) rfl (by kernel_rfl) (by kernel_rfl) (by kernel_rfl) (fun _ _ _ h => h) (Or.inl ⟨by rfl, ?_⟩) qS ?_
  rotate_left
  · intro w hSw
    (try dsimp only at hSw)
    go_simp
    all_goals with_reducible rfl
  simp only [Act.put, List.setIfInBounds_toArray, List.set_cons_zero, List.set_cons_succ]
  refine H_one (i := 1) (o := { dst := some 32, op := Op.call { callee := Callee.value (.func 10), args := #[.tmp 31], argTypes := #[26] }, type := 29, pos := "law.go:74", after := #[{ on := 0, ground := .data }], guard := none }) (by kernel_rfl) rfl (fun K hK => ?_)
  go_simp
  go_at_call 10
  refine (rr_encodePlan p _ (fits_of _ (by rw [encPlan_length]; have := HP.out.1.1; omega))).mono ?_
  rintro e wA ⟨vA, rfl, hrA, hBA⟩
  have pA : Below w1.heap.size w1 wA := qS.trans (hBA.mono qS.size)
  have rA := Reads.of_own hrA
  clear hrA hBA
  go_simp
  refine hK.out _ _ pA ?_
  clear hK K
  (try simp only [Act.put, List.setIfInBounds_toArray, List.set_cons_zero, List.set_cons_succ])
  refine H_weaken (S2 := fun w' => Below w1.heap.size w1 w' ∧ Reads w' vA (encPlan p)) (fun _ h => h.1) _ _ _ _ ?_
  replace qS := And.intro pA rA
  refine H_one (i := 3) (o := { dst := some 34, op := Op.call { callee := Callee.value (.func 11), args := #[.tmp 33], argTypes := #[28] }, type := 29, pos := "law.go:74", after := #[{ on := 2, ground := .data }, { on := 1, ground := .chain }], guard := none }) (by kernel_rfl) rfl (fun K hK => ?_)
  go_simp
  go_at_call 11
  refine (rr_encodeStmt s _ (fits_of _ (by rw [encStmt, List.length_append, encText_length, encInts_length]; have := HP.out.2.1; simp [StmtD.nums]; omega))).mono ?_
  rintro e wB ⟨vB, rfl, hrB, hBB⟩
  have pB : Below w1.heap.size w1 wB ∧ Reads wB vA (encPlan p) := ⟨qS.1.trans (hBB.mono qS.1.size), qS.2.below hBB⟩
  have rB := Reads.of_own hrB
  clear hrB hBB
  go_simp
  refine hK.out _ _ pB ?_
  clear hK K
  (try simp only [Act.put, List.setIfInBounds_toArray, List.set_cons_zero, List.set_cons_succ])
  refine H_weaken (S2 := fun w' => Below w1.heap.size w1 w' ∧ Reads w' vA (encPlan p) ∧ Reads w' vB (encStmt s)) (fun _ h => ⟨h.1, h.2.1⟩) _ _ _ _ ?_
  replace qS := And.intro pB.1 (And.intro pB.2 rB)
  refine wpAnyH_take (i := 4) (oi := { dst := some 7, op := Op.assign (.tmp 32), type := 29, pos := "law.go:74", after := #[{ on := 1, ground := .data }, { on := 3, ground := .chain }, { on := 0, ground := .phase }, { on := 1, ground := .phase }, { on := 2, ground := .textOnly .lateStores }, { on := 3, ground := .textOnly .lateStoresUnsure }], guard := none }) (v := ?_) rfl (by kernel_rfl) (by kernel_rfl) (by kernel_rfl) (fun _ _ _ h => h) (Or.inl ⟨by rfl, ?_⟩) qS ?_
  rotate_left
  · intro w hSw
    (try dsimp only at hSw)
    go_simp
    all_goals with_reducible rfl
  simp only [Act.put, List.setIfInBounds_toArray, List.set_cons_zero, List.set_cons_succ]
  refine wpAnyH_take (i := 5) (oi := { dst := some 8, op := Op.assign (.tmp 34), type := 29, pos := "law.go:74", after := #[{ on := 3, ground := .data }, { on := 4, ground := .chain }, { on := 0, ground := .phase }, { on := 1, ground := .phase }, { on := 2, ground := .phase }, { on := 3, ground := .phase }, { on := 4, ground := .phase }], guard := none }) (v := ?_) rfl (by kernel_rfl) (by kernel_rfl) (by kernel_rfl) (fun _ _ _ h => h) (Or.inl ⟨by rfl, ?_⟩) qS ?_
  rotate_left
  · intro w hSw
    (try dsimp only at hSw)
    go_simp
    all_goals with_reducible rfl
  simp only [Act.put, List.setIfInBounds_toArray, List.set_cons_zero, List.set_cons_succ]
  refine wpAnyH_done (by kernel_rfl) ?_ _
  clear s3 t3 s5 t5
  have X2 : Hid (RpAt w wB ab p q s) := Lib.hid (X1.out.on qS.1)
  have R2 : Hid (Reads wB vA (encPlan p) ∧ Reads wB vB (encStmt s)) := Lib.hid qS.2
  clear qS X1
  have lenp : (encPlan p).length ≤ 1000000 := by rw [encPlan_length]; have := HP.out.1.1; omega
  have lens : (encStmt s).length ≤ 1000000 := by rw [encStmt, List.length_append, encText_length, encInts_length]; have := HP.out.2.1; simp [StmtD.nums]; omega
  have HL := Lib.hid (And.intro lenp lens)
  clear lenp lens
  go_upto_region 7 with (first
    | (go_at_call 12; refine (rr_parsePlan vA (encPlan p) wB R2.out.1 HL.out.1).mono ?_; rintro e w3 hpp; rw [parsePlan_enc p HP.out.1] at hpp; obtain ⟨rfl, hB3⟩ := hpp; have B3 := Lib.hid hB3; clear hB3)
    | (refine wpList_store_row rfl 26 (.tmp 9) (.tmp 38) rfl w3.heap.size p.cells rfl rfl 26 plan0.cells (heap_alloc_new _ _) (by kernel_rfl) rfl (plan_one_cells _) ?_))
  change Code.wp _ _ _ _ ((w3.alloc (.cells plan0.cells 26)).setRow w3.heap.size p.cells)
  have hm := made_row w3 p.cells plan0.cells 26
  have hsx := B3.out.size
  generalize (w3.alloc (.cells plan0.cells 26)).setRow w3.heap.size p.cells = W3 at *
  generalize w3.heap.size = xb at *
  have X3 : Hid (Below wB.heap.size wB W3 ∧ W3.heap[xb]? = some (.cells p.cells 26 (0, 0))) := Lib.hid ⟨B3.out.trans (hm.1.mono hsx), hm.2.1⟩
  clear hm B3 hsx
  go_upto_region 8 with (first
    | (go_at_call 13; refine (rr_parseStmt vB (encStmt s) W3 (R2.out.2.below X3.out.1) HL.out.2).mono ?_; rintro e w4 hpp; rw [parseStmt_enc s HP.out.2] at hpp; obtain ⟨rfl, hB4⟩ := hpp; have B4 := Lib.hid hB4; clear hB4)
    | (refine wpList_store_row rfl 28 (.tmp 11) (.tmp 43) rfl w4.heap.size s.cells rfl rfl 28 stmtZ.cells (heap_alloc_new _ _) (by kernel_rfl) rfl (stmt_one_cells _) ?_))
  change Code.wp _ _ _ _ ((w4.alloc (.cells stmtZ.cells 28)).setRow w4.heap.size s.cells)
  have hm := made_row w4 s.cells stmtZ.cells 28
  have hsy := B4.out.size
  generalize (w4.alloc (.cells stmtZ.cells 28)).setRow w4.heap.size s.cells = W8 at *
  generalize w4.heap.size = yb at *
  have h38 : Below W3.heap.size W3 W8 := B4.out.trans (hm.1.mono hsy)
  have X8 : Hid (RpAt w W8 ab p q s ∧ Reads W8 vA (encPlan p) ∧ Reads W8 vB (encStmt s) ∧ W8.heap[xb]? = some (.cells p.cells 26 (0, 0)) ∧ W8.heap[yb]? = some (.cells s.cells 28 (0, 0))) := Lib.hid
    ⟨(X2.out.on X3.out.1).on h38, (R2.out.1.below X3.out.1).below h38, (R2.out.2.below X3.out.1).below h38, row_on X3.out.2 h38, hm.2.1⟩
  clear hm hsy h38 B4 X3 X2 R2
  have l3 := fun w' hB => (row_plan (w' := w') X8.out.1.p hB).1
  have m3 := fun w' hB => (row_plan (w' := w') X8.out.1.p hB).2
  have l4 := fun w' hB => (row_plan (w' := w') X8.out.1.q hB).1
  have m4 := fun w' hB => (row_plan (w' := w') X8.out.1.q hB).2
  have l5 := fun w' hB => (row_stmt (w' := w') X8.out.1.s hB).1
  have m5 := fun w' hB => (row_stmt (w' := w') X8.out.1.s hB).2
  have l9 := fun w' hB => (row_plan (w' := w') X8.out.2.2.2.1 hB).1
  have m9 := fun w' hB => (row_plan (w' := w') X8.out.2.2.2.1 hB).2
  have l11 := fun w' hB => (row_stmt (w' := w') X8.out.2.2.2.2 hB).1
  have m11 := fun w' hB => (row_stmt (w' := w') X8.out.2.2.2.2 hB).2
  have s7 : ∀ w', Below W8.heap.size W8 w' → (convert 29 9 vA).run Tryd.prog w' = .ok (.string (strB (encPlan p))) w' := fun w' hB => run_string_of _ _ _ Tryd.underlying29 Tryd.underlying5 Tryd.underlying9 (X8.out.2.1.below hB)
  have s8 : ∀ w', Below W8.heap.size W8 w' → (convert 29 9 vB).run Tryd.prog w' = .ok (.string (strB (encStmt s))) w' := fun w' hB => run_string_of _ _ _ Tryd.underlying29 Tryd.underlying5 Tryd.underlying9 (X8.out.2.2.1.below hB)
  have e1 := eql_eqPl
  have e2 := eql_eqSt
  have e3 := eqPl_refl
  have e4 := eqSt_refl
  have np : p.name.size ≤ 3000 := by have := HP.out.1.1; omega
  have ns : s.name.size ≤ 3000 := by have := HP.out.2.1; omega
  have HN := Lib.hid (And.intro np ns)
  clear np ns HP HL
  refine wp_region_held_drew (S := fun w' => Below W8.heap.size W8 w') (by kernel_rfl) (Below.refl _ _).drew (fun hHeld => ?_)
  have qS := hHeld
  clear hHeld
  refine wpAnyH_take (i := 0) (oi := { dst := some 45, op := Op.move (.tmp 7), type := 29, pos := "law.go:77", after := #[], guard := none }) (v := ?_) rfl (by kernel_rfl) (by kernel_rfl) (by kernel_rfl) (fun _ _ _ h => h) (Or.inl ⟨by rfl, ?_⟩) qS ?_
  rotate_left
  · intro w hSw
    (try dsimp only at hSw)
    go_simp
    all_goals with_reducible rfl
  simp only [Act.put, List.setIfInBounds_toArray, List.set_cons_zero, List.set_cons_succ]
  refine wpAnyH_take (i := 1) (oi := { dst := some 46, op := Op.convert 29 9 (.tmp 45), type := 9, pos := "law.go:77", after := #[{ on := 0, ground := .data }], guard := none }) (v := ?_) rfl (by kernel_rfl) (by kernel_rfl) (by kernel_rfl) (fun _ _ _ h => h) (Or.inl ⟨by rfl, ?_⟩) qS ?_
  rotate_left
  · intro w hSw
    (try dsimp only at hSw)
    go_simp
    all_goals with_reducible rfl
  simp only [Act.put, List.setIfInBounds_toArray, List.set_cons_zero, List.set_cons_succ]
  refine wpAnyH_take (i := 2) (oi := { dst := some 47, op := Op.load 26 (.tmp 3), type := 26, pos := "law.go:77", after := #[], guard := none }) (v := ?_) rfl (by kernel_rfl) (by kernel_rfl) (by kernel_rfl) (fun _ _ _ h => h) (Or.inl ⟨by rfl, ?_⟩) qS ?_
  rotate_left
  · intro w hSw
    (try dsimp only at hSw)
    go_simp
    all_goals with_reducible rfl
  simp only [Act.put, List.setIfInBounds_toArray, List.set_cons_zero, List.set_cons_succ]
  refine H_one (i := 3) (o := { dst := some 48, op := Op.call { callee := Callee.value (.func 14), args := #[.const (Value.slice none 0 0), .tmp 47], argTypes := #[29, 26] }, type := 29, pos := "law.go:77", after := #[{ on := 2, ground := .data }], guard := none }) (by kernel_rfl) rfl (fun K hK => ?_)
  go_simp
  go_at_call 14
  refine (wp_plan p _ HN.out.1).mono ?_
  rintro e wC ⟨vC, rfl, hrC, hBC⟩
  have pC : Below W8.heap.size W8 wC := qS.trans (hBC.mono qS.size)
  have rC := Reads.of_own hrC
  have sC : ∀ w', Reads w' vC (encPlan p) → (convert 29 9 vC).run Tryd.prog w' = .ok (.string (strB (encPlan p))) w' := fun w' hB => run_string_of _ _ _ Tryd.underlying29 Tryd.underlying5 Tryd.underlying9 hB
  clear hrC hBC
  go_simp
  refine hK.out _ _ pC ?_
  clear hK K
  (try simp only [Act.put, List.setIfInBounds_toArray, List.set_cons_zero, List.set_cons_succ])
  refine H_weaken (S2 := fun w' => Below W8.heap.size W8 w' ∧ Reads w' vC (encPlan p)) (fun _ h => h.1) _ _ _ _ ?_
  replace qS := And.intro pC rC
  refine wpAnyH_take (i := 4) (oi := { dst := some 49, op := Op.convert 29 9 (.tmp 48), type := 9, pos := "law.go:77", after := #[{ on := 3, ground := .data }], guard := none }) (v := ?_) rfl (by kernel_rfl) (by kernel_rfl) (by kernel_rfl) (fun _ _ _ h => h) (Or.inl ⟨by rfl, ?_⟩) qS ?_
  rotate_left
  · intro w hSw
    (try dsimp only at hSw)
    go_simp
    all_goals with_reducible rfl
  simp only [Act.put, List.setIfInBounds_toArray, List.set_cons_zero, List.set_cons_succ]
  refine wpAnyH_take (i := 5) (oi := { dst := some 50, op := Op.binOp BinOp.eql 9 (.tmp 46) (.tmp 49) 9, type := 4, pos := "law.go:77", after := #[{ on := 1, ground := .data }, { on := 4, ground := .data }], guard := none }) (v := ?_) rfl (by kernel_rfl) (by kernel_rfl) (by kernel_rfl) (fun _ _ _ h => h) (Or.inl ⟨by rfl, ?_⟩) qS ?_
  rotate_left
  · intro w hSw
    (try dsimp only at hSw)
    go_simp
    all_goals with_reducible rfl
  simp only [Act.put, List.setIfInBounds_toArray, List.set_cons_zero, List.set_cons_succ]
  refine wpAnyH_take (i := 6) (oi := { dst := some 51, op := Op.move (.tmp 50), type := 4, pos := "law.go:77", after := #[{ on := 5, ground := .data }, { on := 3, ground := .chain }], guard := none }) (v := ?_) rfl (by kernel_rfl) (by kernel_rfl) (by kernel_rfl) (fun _ _ _ h => h) (Or.inl ⟨by rfl, ?_⟩) qS ?_
  rotate_left
  · intro w hSw
    (try dsimp only at hSw)
    go_simp
    all_goals with_reducible rfl
  simp only [Act.put, List.setIfInBounds_toArray, List.set_cons_zero, List.set_cons_succ]
  refine wpAnyH_take (i := 7) (oi := { dst := some 52, op := Op.move (.tmp 8), type := 29, pos := "law.go:77", after := #[{ on := 6, ground := .guard }], guard := some (6, true) }) (v := ?_) rfl (by kernel_rfl) (by kernel_rfl) (by kernel_rfl) (fun _ _ _ h => h) (Or.inl ⟨by rfl, ?_⟩) qS ?_
  rotate_left
  · intro w hSw
    (try dsimp only at hSw)
    go_simp
    all_goals with_reducible rfl
  simp only [Act.put, List.setIfInBounds_toArray, List.set_cons_zero, List.set_cons_succ]
  refine wpAnyH_take (i := 8) (oi := { dst := some 53, op := Op.convert 29 9 (.tmp 52), type := 9, pos := "law.go:77", after := #[{ on := 7, ground := .data }, { on := 6, ground := .guard }], guard := some (6, true) }) (v := ?_) rfl (by kernel_rfl) (by kernel_rfl) (by kernel_rfl) (fun _ _ _ h => h) (Or.inl ⟨by rfl, ?_⟩) qS ?_
  rotate_left
  · intro w hSw
    (try dsimp only at hSw)
    go_simp
    all_goals with_reducible rfl
  simp only [Act.put, List.setIfInBounds_toArray, List.set_cons_zero, List.set_cons_succ]
  refine wpAnyH_take (i := 9) (oi := { dst := some 54, op := Op.load 28 (.tmp 5), type := 28, pos := "law.go:77", after := #[{ on := 6, ground := .guard }], guard := some (6, true) }) (v := ?_) rfl (by kernel_rfl) (by kernel_rfl) (by kernel_rfl) (fun _ _ _ h => h) (Or.inl ⟨by rfl, ?_⟩) qS ?_
  rotate_left
  · intro w hSw
    (try dsimp only at hSw)
    go_simp
    all_goals with_reducible rfl
  simp only [Act.put, List.setIfInBounds_toArray, List.set_cons_zero, List.set_cons_succ]
  refine H_one (i := 10) (o := { dst := some 55, op := Op.call { callee := Callee.value (.func 15), args := #[.const (Value.slice none 0 0), .tmp 54], argTypes := #[29, 28] }, type := 29, pos := "law.go:77", after := #[{ on := 9, ground := .data }, { on := 6, ground := .chain }, { on := 6, ground := .guard }], guard := some (6, true) }) (by kernel_rfl) rfl (fun K hK => ?_)
  go_simp
  go_at_call 15
  refine (wp_stmt s _ HN.out.2).mono ?_
  rintro e wD ⟨vD, rfl, hrD, hBD⟩
  have pD : Below W8.heap.size W8 wD ∧ Reads wD vC (encPlan p) := ⟨qS.1.trans (hBD.mono qS.1.size), qS.2.below hBD⟩
  have rD := Reads.of_own hrD
  have sD : ∀ w', Reads w' vD (encStmt s) → (convert 29 9 vD).run Tryd.prog w' = .ok (.string (strB (encStmt s))) w' := fun w' hB => run_string_of _ _ _ Tryd.underlying29 Tryd.underlying5 Tryd.underlying9 hB
  clear hrD hBD
  go_simp
  refine hK.out _ _ pD ?_
  clear hK K
  (try simp only [Act.put, List.setIfInBounds_toArray, List.set_cons_zero, List.set_cons_succ])
  refine H_weaken (S2 := fun w' => Below W8.heap.size W8 w' ∧ Reads w' vC (encPlan p) ∧ Reads w' vD (encStmt s)) (fun _ h => ⟨h.1, h.2.1⟩) _ _ _ _ ?_
  replace qS := And.intro pD.1 (And.intro pD.2 rD)
  refine wpAnyH_take (i := 11) (oi := { dst := some 56, op := Op.convert 29 9 (.tmp 55), type := 9, pos := "law.go:77", after := #[{ on := 10, ground := .data }, { on := 6, ground := .guard }], guard := some (6, true) }) (v := ?_) rfl (by kernel_rfl) (by kernel_rfl) (by kernel_rfl) (fun _ _ _ h => h) (Or.inl ⟨by rfl, ?_⟩) qS ?_
  rotate_left
  · intro w hSw
    (try dsimp only at hSw)
    go_simp
    all_goals with_reducible rfl
  simp only [Act.put, List.setIfInBounds_toArray, List.set_cons_zero, List.set_cons_succ]
  refine wpAnyH_take (i := 12) (oi := { dst := some 57, op := Op.binOp BinOp.eql 9 (.tmp 53) (.tmp 56) 9, type := 4, pos := "law.go:77", after := #[{ on := 8, ground := .data }, { on := 11, ground := .data }, { on := 6, ground := .guard }], guard := some (6, true) }) (v := ?_) rfl (by kernel_rfl) (by kernel_rfl) (by kernel_rfl) (fun _ _ _ h => h) (Or.inl ⟨by rfl, ?_⟩) qS ?_
  rotate_left
  · intro w hSw
    (try dsimp only at hSw)
    go_simp
    all_goals with_reducible rfl
  simp only [Act.put, List.setIfInBounds_toArray, List.set_cons_zero, List.set_cons_succ]
  refine wpAnyH_take (i := 13) (oi := { dst := some 58, op := Op.pick (.tmp 51) (.tmp 57) (.const (Value.bool false)), type := 4, pos := "law.go:77", after := #[{ on := 6, ground := .data }, { on := 12, ground := .data }], guard := none }) (v := ?_) rfl (by kernel_rfl) (by kernel_rfl) (by kernel_rfl) (fun _ _ _ h => h) (Or.inl ⟨by rfl, ?_⟩) qS ?_
  rotate_left
  · intro w hSw
    (try dsimp only at hSw)
    go_simp
    all_goals with_reducible rfl
  simp only [Act.put, List.setIfInBounds_toArray, List.set_cons_zero, List.set_cons_succ]
  refine wpAnyH_take (i := 14) (oi := { dst := some 59, op := Op.move (.tmp 58), type := 4, pos := "law.go:77", after := #[{ on := 13, ground := .data }, { on := 10, ground := .chain }], guard := none }) (v := ?_) rfl (by kernel_rfl) (by kernel_rfl) (by kernel_rfl) (fun _ _ _ h => h) (Or.inl ⟨by rfl, ?_⟩) qS ?_
  rotate_left
  · intro w hSw
    (try dsimp only at hSw)
    go_simp
    all_goals with_reducible rfl
  simp only [Act.put, List.setIfInBounds_toArray, List.set_cons_zero, List.set_cons_succ]
  refine wpAnyH_take (i := 15) (oi := { dst := some 60, op := Op.move (.tmp 10), type := 32, pos := "law.go:77", after := #[{ on := 14, ground := .guard }], guard := some (14, true) }) (v := ?_) rfl (by kernel_rfl) (by kernel_rfl) (by kernel_rfl) (fun _ _ _ h => h) (Or.inl ⟨by rfl, ?_⟩) qS ?_
  rotate_left
  · intro w hSw
    (try dsimp only at hSw)
    go_simp
    all_goals with_reducible rfl
  simp only [Act.put, List.setIfInBounds_toArray, List.set_cons_zero, List.set_cons_succ]
  refine wpAnyH_take (i := 16) (oi := { dst := some 61, op := Op.binOp BinOp.eql 32 (.tmp 60) (.const (Value.int IntKind.i64 0)) 32, type := 4, pos := "law.go:77", after := #[{ on := 15, ground := .data }, { on := 14, ground := .guard }], guard := some (14, true) }) (v := ?_) rfl (by kernel_rfl) (by kernel_rfl) (by kernel_rfl) (fun _ _ _ h => h) (Or.inl ⟨by rfl, ?_⟩) qS ?_
  rotate_left
  · intro w hSw
    (try dsimp only at hSw)
    go_simp
    all_goals with_reducible rfl
  simp only [Act.put, List.setIfInBounds_toArray, List.set_cons_zero, List.set_cons_succ]
  refine wpAnyH_take (i := 17) (oi := { dst := some 62, op := Op.pick (.tmp 59) (.tmp 61) (.const (Value.bool false)), type := 4, pos := "law.go:77", after := #[{ on := 14, ground := .data }, { on := 16, ground := .data }], guard := none }) (v := ?_) rfl (by kernel_rfl) (by kernel_rfl) (by kernel_rfl) (fun _ _ _ h => h) (Or.inl ⟨by rfl, ?_⟩) qS ?_
  rotate_left
  · intro w hSw
    (try dsimp only at hSw)
    go_simp
    all_goals with_reducible rfl
  simp only [Act.put, List.setIfInBounds_toArray, List.set_cons_zero, List.set_cons_succ]
  refine wpAnyH_take (i := 18) (oi := { dst := some 63, op := Op.move (.tmp 62), type := 4, pos := "law.go:77", after := #[{ on := 17, ground := .data }, { on := 14, ground := .chain }], guard := none }) (v := ?_) rfl (by kernel_rfl) (by kernel_rfl) (by kernel_rfl) (fun _ _ _ h => h) (Or.inl ⟨by rfl, ?_⟩) qS ?_
  rotate_left
  · intro w hSw
    (try dsimp only at hSw)
    go_simp
    all_goals with_reducible rfl
  simp only [Act.put, List.setIfInBounds_toArray, List.set_cons_zero, List.set_cons_succ]
  refine wpAnyH_take (i := 19) (oi := { dst := some 64, op := Op.move (.tmp 12), type := 32, pos := "law.go:77", after := #[{ on := 18, ground := .guard }], guard := some (18, true) }) (v := ?_) rfl (by kernel_rfl) (by kernel_rfl) (by kernel_rfl) (fun _ _ _ h => h) (Or.inl ⟨by rfl, ?_⟩) qS ?_
  rotate_left
  · intro w hSw
    (try dsimp only at hSw)
    go_simp
    all_goals with_reducible rfl
  simp only [Act.put, List.setIfInBounds_toArray, List.set_cons_zero, List.set_cons_succ]
  refine wpAnyH_take (i := 20) (oi := { dst := some 65, op := Op.binOp BinOp.eql 32 (.tmp 64) (.const (Value.int IntKind.i64 0)) 32, type := 4, pos := "law.go:77", after := #[{ on := 19, ground := .data }, { on := 18, ground := .guard }], guard := some (18, true) }) (v := ?_) rfl (by kernel_rfl) (by kernel_rfl) (by kernel_rfl) (fun _ _ _ h => h) (Or.inl ⟨by rfl, ?_⟩) qS ?_
  rotate_left
  · intro w hSw
    (try dsimp only at hSw)
    go_simp
    all_goals with_reducible rfl
  simp only [Act.put, List.setIfInBounds_toArray, List.set_cons_zero, List.set_cons_succ]
  refine wpAnyH_take (i := 21) (oi := { dst := some 66, op := Op.pick (.tmp 63) (.tmp 65) (.const (Value.bool false)), type := 4, pos := "law.go:77", after := #[{ on := 18, ground := .data }, { on := 20, ground := .data }], guard := none }) (v := ?_) rfl (by kernel_rfl) (by kernel_rfl) (by kernel_rfl) (fun _ _ _ h => h) (Or.inl ⟨by rfl, ?_⟩) qS ?_
  rotate_left
  · intro w hSw
    (try dsimp only at hSw)
    go_simp
    all_goals with_reducible rfl
  simp only [Act.put, List.setIfInBounds_toArray, List.set_cons_zero, List.set_cons_succ]
  refine wpAnyH_take (i := 22) (oi := { dst := some 67, op := Op.move (.tmp 66), type := 4, pos := "law.go:77", after := #[{ on := 21, ground := .data }, { on := 18, ground := .chain }], guard := none }) (v := ?_) rfl (by kernel_rfl) (by kernel_rfl) (by kernel_rfl) (fun _ _ _ h => h) (Or.inl ⟨by rfl, ?_⟩) qS ?_
  rotate_left
  · intro w hSw
    (try dsimp only at hSw)
    go_simp
    all_goals with_reducible rfl
  simp only [Act.put, List.setIfInBounds_toArray, List.set_cons_zero, List.set_cons_succ]
  refine wpAnyH_take (i := 23) (oi := { dst := some 68, op := Op.load 26 (.tmp 9), type := 26, pos := "law.go:77", after := #[{ on := 22, ground := .guard }], guard := some (22, true) }) (v := ?_) rfl (by kernel_rfl) (by kernel_rfl) (by kernel_rfl) (fun _ _ _ h => h) (Or.inl ⟨by rfl, ?_⟩) qS ?_
  rotate_left
  · intro w hSw
    (try dsimp only at hSw)
    go_simp
    all_goals with_reducible rfl
  simp only [Act.put, List.setIfInBounds_toArray, List.set_cons_zero, List.set_cons_succ]
  refine wpAnyH_take (i := 24) (oi := { dst := some 69, op := Op.load 26 (.tmp 3), type := 26, pos := "law.go:77", after := #[{ on := 22, ground := .guard }], guard := some (22, true) }) (v := ?_) rfl (by kernel_rfl) (by kernel_rfl) (by kernel_rfl) (fun _ _ _ h => h) (Or.inl ⟨by rfl, ?_⟩) qS ?_
  rotate_left
  · intro w hSw
    (try dsimp only at hSw)
    go_simp
    all_goals with_reducible rfl
  simp only [Act.put, List.setIfInBounds_toArray, List.set_cons_zero, List.set_cons_succ]
  refine wpAnyH_take (i := 25) (oi := { dst := some 70, op := Op.binOp BinOp.eql 26 (.tmp 68) (.tmp 69) 26, type := 4, pos := "law.go:77", after := #[{ on := 23, ground := .data }, { on := 24, ground := .data }, { on := 22, ground := .guard }], guard := some (22, true) }) (v := ?_) rfl (by kernel_rfl) (by kernel_rfl) (by kernel_rfl) (fun _ _ _ h => h) (Or.inl ⟨by rfl, ?_⟩) qS ?_
  rotate_left
  · intro w hSw
    (try dsimp only at hSw)
    go_simp
    all_goals with_reducible rfl
  simp only [Act.put, List.setIfInBounds_toArray, List.set_cons_zero, List.set_cons_succ]
  refine wpAnyH_take (i := 26) (oi := { dst := some 71, op := Op.pick (.tmp 67) (.tmp 70) (.const (Value.bool false)), type := 4, pos := "law.go:77", after := #[{ on := 22, ground := .data }, { on := 25, ground := .data }], guard := none }) (v := ?_) rfl (by kernel_rfl) (by kernel_rfl) (by kernel_rfl) (fun _ _ _ h => h) (Or.inl ⟨by rfl, ?_⟩) qS ?_
  rotate_left
  · intro w hSw
    (try dsimp only at hSw)
    go_simp
    all_goals with_reducible rfl
  simp only [Act.put, List.setIfInBounds_toArray, List.set_cons_zero, List.set_cons_succ]
  refine wpAnyH_take (i := 27) (oi := { dst := some 72, op := Op.move (.tmp 71), type := 4, pos := "law.go:77", after := #[{ on := 26, ground := .data }, { on := 22, ground := .chain }], guard := none }) (v := ?_) rfl (by kernel_rfl) (by kernel_rfl) (by kernel_rfl) (fun _ _ _ h => h) (Or.inl ⟨by rfl, ?_⟩) qS ?_
  rotate_left
  · intro w hSw
    (try dsimp only at hSw)
    go_simp
    all_goals with_reducible rfl
  simp only [Act.put, List.setIfInBounds_toArray, List.set_cons_zero, List.set_cons_succ]
  refine wpAnyH_take (i := 28) (oi := { dst := some 73, op := Op.load 28 (.tmp 11), type := 28, pos := "law.go:77", after := #[{ on := 27, ground := .guard }], guard := some (27, true) }) (v := ?_) rfl (by kernel_rfl) (by kernel_rfl) (by kernel_rfl) (fun _ _ _ h => h) (Or.inl ⟨by rfl, ?_⟩) qS ?_
  rotate_left
  · intro w hSw
    (try dsimp only at hSw)
    go_simp
    all_goals with_reducible rfl
  simp only [Act.put, List.setIfInBounds_toArray, List.set_cons_zero, List.set_cons_succ]
  refine wpAnyH_take (i := 29) (oi := { dst := some 74, op := Op.load 28 (.tmp 5), type := 28, pos := "law.go:77", after := #[{ on := 27, ground := .guard }], guard := some (27, true) }) (v := ?_) rfl (by kernel_rfl) (by kernel_rfl) (by kernel_rfl) (fun _ _ _ h => h) (Or.inl ⟨by rfl, ?_⟩) qS ?_
  rotate_left
  · intro w hSw
    (try dsimp only at hSw)
    go_simp
    all_goals with_reducible rfl
  simp only [Act.put, List.setIfInBounds_toArray, List.set_cons_zero, List.set_cons_succ]
  refine wpAnyH_take (i := 30) (oi := { dst := some 75, op := Op.binOp BinOp.eql 28 (.tmp 73) (.tmp 74) 28, type := 4, pos := "law.go:77", after := #[{ on := 28, ground := .data }, { on := 29, ground := .data }, { on := 27, ground := .guard }], guard := some (27, true) }) (v := ?_) rfl (by kernel_rfl) (by kernel_rfl) (by kernel_rfl) (fun _ _ _ h => h) (Or.inl ⟨by rfl, ?_⟩) qS ?_
  rotate_left
  · intro w hSw
    (try dsimp only at hSw)
    go_simp
    all_goals with_reducible rfl
  simp only [Act.put, List.setIfInBounds_toArray, List.set_cons_zero, List.set_cons_succ]
  refine wpAnyH_take (i := 31) (oi := { dst := some 76, op := Op.pick (.tmp 72) (.tmp 75) (.const (Value.bool false)), type := 4, pos := "law.go:77", after := #[{ on := 27, ground := .data }, { on := 30, ground := .data }], guard := none }) (v := ?_) rfl (by kernel_rfl) (by kernel_rfl) (by kernel_rfl) (fun _ _ _ h => h) (Or.inl ⟨by rfl, ?_⟩) qS ?_
  rotate_left
  · intro w hSw
    (try dsimp only at hSw)
    go_simp
    all_goals with_reducible rfl
  simp only [Act.put, List.setIfInBounds_toArray, List.set_cons_zero, List.set_cons_succ]
  refine wpAnyH_take (i := 32) (oi := { dst := some 77, op := Op.move (.tmp 76), type := 4, pos := "law.go:77", after := #[{ on := 31, ground := .data }, { on := 27, ground := .chain }], guard := none }) (v := ?_) rfl (by kernel_rfl) (by kernel_rfl) (by kernel_rfl) (fun _ _ _ h => h) (Or.inl ⟨by rfl, ?_⟩) qS ?_
  rotate_left
  · intro w hSw
    (try dsimp only at hSw)
    go_simp
    all_goals with_reducible rfl
  simp only [Act.put, List.setIfInBounds_toArray, List.set_cons_zero, List.set_cons_succ]
  refine wpAnyH_take (i := 33) (oi := { dst := some 78, op := Op.load 26 (.tmp 3), type := 26, pos := "law.go:77", after := #[{ on := 32, ground := .guard }], guard := some (32, true) }) (v := ?_) rfl (by kernel_rfl) (by kernel_rfl) (by kernel_rfl) (fun _ _ _ h => h) (Or.inl ⟨by rfl, ?_⟩) qS ?_
  rotate_left
  · intro w hSw
    (try dsimp only at hSw)
    go_simp
    all_goals with_reducible rfl
  simp only [Act.put, List.setIfInBounds_toArray, List.set_cons_zero, List.set_cons_succ]
  refine wpAnyH_take (i := 34) (oi := { dst := some 79, op := Op.load 26 (.tmp 4), type := 26, pos := "law.go:77", after := #[{ on := 32, ground := .guard }], guard := some (32, true) }) (v := ?_) rfl (by kernel_rfl) (by kernel_rfl) (by kernel_rfl) (fun _ _ _ h => h) (Or.inl ⟨by rfl, ?_⟩) qS ?_
  rotate_left
  · intro w hSw
    (try dsimp only at hSw)
    go_simp
    all_goals with_reducible rfl
  simp only [Act.put, List.setIfInBounds_toArray, List.set_cons_zero, List.set_cons_succ]
  refine wpAnyH_take (i := 36) (oi := { dst := some 81, op := Op.load 26 (.tmp 3), type := 26, pos := "law.go:77", after := #[{ on := 32, ground := .guard }], guard := some (32, true) }) (v := ?_) rfl (by kernel_rfl) (by kernel_rfl) (by kernel_rfl) (fun _ _ _ h => h) (Or.inl ⟨by rfl, ?_⟩) qS ?_
  rotate_left
  · intro w hSw
    (try dsimp only at hSw)
    go_simp
    all_goals with_reducible rfl
  simp only [Act.put, List.setIfInBounds_toArray, List.set_cons_zero, List.set_cons_succ]
  refine wpAnyH_take (i := 37) (oi := { dst := some 82, op := Op.load 26 (.tmp 4), type := 26, pos := "law.go:77", after := #[{ on := 32, ground := .guard }], guard := some (32, true) }) (v := ?_) rfl (by kernel_rfl) (by kernel_rfl) (by kernel_rfl) (fun _ _ _ h => h) (Or.inl ⟨by rfl, ?_⟩) qS ?_
  rotate_left
  · intro w hSw
    (try dsimp only at hSw)
    go_simp
    all_goals with_reducible rfl
  simp only [Act.put, List.setIfInBounds_toArray, List.set_cons_zero, List.set_cons_succ]
  refine wpAnyH_take (i := 38) (oi := { dst := some 83, op := Op.binOp BinOp.eql 26 (.tmp 81) (.tmp 82) 26, type := 4, pos := "law.go:77", after := #[{ on := 36, ground := .data }, { on := 37, ground := .data }, { on := 32, ground := .guard }], guard := some (32, true) }) (v := ?_) rfl (by kernel_rfl) (by kernel_rfl) (by kernel_rfl) (fun _ _ _ h => h) (Or.inl ⟨by rfl, ?_⟩) qS ?_
  rotate_left
  · intro w hSw
    (try dsimp only at hSw)
    go_simp
    all_goals with_reducible rfl
  simp only [Act.put, List.setIfInBounds_toArray, List.set_cons_zero, List.set_cons_succ]
  refine H_one (i := 35) (o := { dst := some 80, op := Op.call { callee := Callee.value (.func 16), args := #[.tmp 78, .tmp 79], argTypes := #[26, 26] }, type := 4, pos := "law.go:77", after := #[{ on := 33, ground := .data }, { on := 34, ground := .data }, { on := 32, ground := .chain }, { on := 32, ground := .guard }], guard := some (32, true) }) (by kernel_rfl) rfl (fun K hK => ?_)
  go_simp
  go_at_call 16
  refine (rr_samePlan p q _).mono ?_
  rintro e wE ⟨rfl, hBE⟩
  have pE : Below W8.heap.size W8 wE ∧ Reads wE vC (encPlan p) ∧ Reads wE vD (encStmt s) := ⟨qS.1.trans (hBE.mono qS.1.size), qS.2.1.below hBE, qS.2.2.below hBE⟩
  clear hBE
  go_simp
  refine hK.out _ _ pE ?_
  clear hK K
  (try simp only [Act.put, List.setIfInBounds_toArray, List.set_cons_zero, List.set_cons_succ])
  replace qS := pE
  refine wpAnyH_take (i := 39) (oi := { dst := some 84, op := Op.binOp BinOp.eql 4 (.tmp 80) (.tmp 83) 4, type := 4, pos := "law.go:77", after := #[{ on := 35, ground := .data }, { on := 38, ground := .data }, { on := 32, ground := .guard }], guard := some (32, true) }) (v := ?_) rfl (by kernel_rfl) (by kernel_rfl) (by kernel_rfl) (fun _ _ _ h => h) (Or.inl ⟨by rfl, ?_⟩) qS ?_
  rotate_left
  · intro w hSw
    (try dsimp only at hSw)
    go_simp
    all_goals with_reducible rfl
  simp only [Act.put, List.setIfInBounds_toArray, List.set_cons_zero, List.set_cons_succ]
  refine wpAnyH_take (i := 40) (oi := { dst := some 85, op := Op.pick (.tmp 77) (.tmp 84) (.const (Value.bool false)), type := 4, pos := "law.go:77", after := #[{ on := 32, ground := .data }, { on := 39, ground := .data }], guard := none }) (v := ?_) rfl (by kernel_rfl) (by kernel_rfl) (by kernel_rfl) (fun _ _ _ h => h) (Or.inl ⟨by rfl, ?_⟩) qS ?_
  rotate_left
  · intro w hSw
    (try dsimp only at hSw)
    go_simp
    all_goals with_reducible rfl
  simp only [Act.put, List.setIfInBounds_toArray, List.set_cons_zero, List.set_cons_succ]
  refine wpAnyH_take (i := 41) (oi := { dst := some 6, op := Op.assign (.tmp 85), type := 4, pos := "law.go:77", after := #[{ on := 40, ground := .data }, { on := 35, ground := .chain }, { on := 0, ground := .phase }, { on := 1, ground := .phase }, { on := 2, ground := .phase }, { on := 3, ground := .phase }, { on := 4, ground := .phase }, { on := 5, ground := .phase }, { on := 6, ground := .phase }, { on := 7, ground := .phase }, { on := 8, ground := .phase }, { on := 9, ground := .phase }, { on := 10, ground := .phase }, { on := 11, ground := .phase }, { on := 12, ground := .phase }, { on := 13, ground := .phase }, { on := 14, ground := .phase }, { on := 15, ground := .phase }, { on := 16, ground := .phase }, { on := 17, ground := .phase }, { on := 18, ground := .phase }, { on := 19, ground := .phase }, { on := 20, ground := .phase }, { on := 21, ground := .phase }, { on := 22, ground := .phase }, { on := 23, ground := .phase }, { on := 24, ground := .phase }, { on := 25, ground := .phase }, { on := 26, ground := .phase }, { on := 27, ground := .phase }, { on := 28, ground := .phase }, { on := 29, ground := .phase }, { on := 30, ground := .phase }, { on := 31, ground := .phase }, { on := 32, ground := .phase }, { on := 33, ground := .phase }, { on := 34, ground := .phase }, { on := 35, ground := .phase }, { on := 36, ground := .phase }, { on := 37, ground := .phase }, { on := 38, ground := .phase }, { on := 39, ground := .phase }, { on := 40, ground := .phase }], guard := none }) (v := ?_) rfl (by kernel_rfl) (by kernel_rfl) (by kernel_rfl) (fun _ _ _ h => h) (Or.inl ⟨by rfl, ?_⟩) qS ?_
  rotate_left
  · intro w hSw
    (try dsimp only at hSw)
    go_simp
    all_goals with_reducible rfl
  simp only [Act.put, List.setIfInBounds_toArray, List.set_cons_zero, List.set_cons_succ]
  refine wpAnyH_done (by kernel_rfl) ?_ _
  go_wp2
  go_ret
  exact ⟨ret_bool (by first | rfl | simp), X8.out.1.b.trans (qS.1.mono X8.out.1.b.size)⟩
end Go.Proofs.YtehkgcmdndehaaaDoor
