import Derived.Test.YtehkgcmdndehaaaRefQ
import Derived.Test.YtehkgcmdndehaaaRegW
import Derived.Test.YtehkgcmdndehaaaReqF
import Derived.Deep.DeepCutAuto
import Derived.Deep.CutBlock
import Derived.Test.YtehkgcmdndehaaaLdRow
namespace Go.Proofs.Ytehkgcmdndehaaa
set_option linter.unusedSimpArgs false
set_option linter.unusedVariables false
open Go.RowKit
attribute [local irreducible] putAt

/-- A request with nothing but what its bytes name: its cells. -/
def plainC (q : ReqD) : List Value :=
  if kindB q.kind = true then
    (fun cs => if q.kind = 16 then putPlan cs q.plan else cs) (putAt (putAt (putAt ((reqZ0.cells.toList.set 0 (.int .i64 q.kind)).set 1 (.string q.key)) (numOffs q.kind) (q.nums.map (Value.int .i64))) (textOffs q.kind) (q.texts.map Value.string)) (moreOffs q.kind) (q.more.map (Value.int .i64)))
  else reqZ0.cells.toList.set 0 (.int .i64 q.kind)
/-- A row's cells around a request's. -/
def rowC (cs : List Value) : Array Value := (.slice none 0 0 :: .bool false :: cs).toArray
theorem rowC_at (cs : List Value) (o : Nat) : (rowC cs)[o + 2]? = cs[o]? := by simp [rowC]
theorem rowC_set (cs : List Value) (o : Nat) (v : Value) (h : 2 ≤ o) : (rowC cs).setIfInBounds o v = rowC (cs.set (o - 2) v) := by
  obtain ⟨k, rfl⟩ : ∃ k, o = k + 2 := ⟨o - 2, by omega⟩
  simp [rowC]
theorem rowC_size (cs : List Value) : (rowC cs).size = cs.length + 2 := by simp [rowC]
theorem row_rowC (q : ReqD) : q.row = rowC q.cells.toList := rfl
def PlainPost (w : World) (q : ReqD) (e : Ending) (w' : World) : Prop := e = .returned (.agg (plainC q).toArray) ∧ Below w.heap.size w w'

theorem plain_good (q : ReqD) : Good q.kind (putAt (putAt (putAt ((reqZ0.cells.toList.set 0 (.int .i64 q.kind)).set 1 (.string q.key)) (numOffs q.kind) (q.nums.map (Value.int .i64))) (textOffs q.kind) (q.texts.map Value.string)) (moreOffs q.kind) (q.more.map (Value.int .i64))) := by
  have h1 : Good q.kind (putAt ((reqZ0.cells.toList.set 0 (.int .i64 q.kind)).set 1 (.string q.key)) (numOffs q.kind) (q.nums.map (Value.int .i64))) := by
    refine good_put (good_init q.kind q.key) (numOffs_ok q.kind).1 (numOffs_ok q.kind).2.1 (by rw [List.length_map]; exact (nums_places q).1.symm) (ok_int ?_ (nums_places q).1.symm)
    unfold numOffs
    repeat' split
    all_goals (intro o ho; simp at ho <;> omega)
  have h2 : Good q.kind (putAt (putAt ((reqZ0.cells.toList.set 0 (.int .i64 q.kind)).set 1 (.string q.key)) (numOffs q.kind) (q.nums.map (Value.int .i64))) (textOffs q.kind) (q.texts.map Value.string)) := by
    refine good_put h1 (textOffs_ok q.kind).1 (textOffs_ok q.kind).2.1 (by rw [List.length_map]; exact (texts_places q).1.symm) (fun i o hi => ?_)
    have hm : o = 8 ∨ o = 9 ∨ o = 10 := by
      have := List.mem_of_getElem? hi
      revert this
      unfold textOffs
      repeat' split
      all_goals (intro ho; simp at ho <;> omega)
    have hil : i < q.texts.length := by rw [← (texts_places q).1]; exact (List.getElem?_eq_some_iff.1 hi).1
    unfold okAt
    rw [if_pos (by omega)]
    exact ⟨q.texts[i], by simp [hil]⟩
  refine good_put h2 (moreOffs_ok q.kind).1 (moreOffs_ok q.kind).2.1 (by rw [List.length_map]; exact (more_places q).1.symm) (ok_int ?_ (more_places q).1.symm)
  unfold moreOffs
  repeat' split
  all_goals (intro o ho; simp at ho <;> omega)
theorem setCells_row {T : TypeId} : ∀ (vs : List Value) (o : Nat) {W : World} {ab : Nat} {cs : Array Value}, o + vs.length ≤ cs.size → W.heap[ab]? = some (.cells cs T (0, 0)) →
    ∃ cs', cs'.size = cs.size ∧ (W.setCells ab o vs).heap[ab]? = some (.cells cs' T (0, 0)) ∧ cs'.toList = cs.toList.take o ++ vs ++ cs.toList.drop (o + vs.length)
  | [], o, W, ab, cs, hl, h => ⟨cs, rfl, h, by simp⟩
  | v :: vs, o, W, ab, cs, hl, h => by
    rw [List.length_cons] at hl
    obtain ⟨cs', h1, h2, h3⟩ := setCells_row vs (o + 1) (cs := cs.setIfInBounds o v) (by simp; omega) (heap_setCell_row (v := v) h (by omega))
    refine ⟨cs', by simpa using h1, h2, ?_⟩
    rw [h3, Array.toList_setIfInBounds, List.length_cons]
    have hlen : o < cs.toList.length := by simp; omega
    rw [List.drop_set_of_lt (by omega), List.take_set, List.set_eq_take_append_cons_drop]
    rw [if_pos (by rw [List.length_take]; omega), List.take_take, Nat.min_eq_left (by omega), List.drop_of_length_le (i := o + 1) (by rw [List.length_take]; omega)]
    simp [Nat.add_assoc, Nat.add_comm 1]
/-- Where plain stands: the request's row rb1, the row rb2 that is filled. -/
structure PlAt (w W : World) (q : ReqD) (sb rb1 rb2 : Nat) (cs : List Value) : Prop where
  below : Below w.heap.size w W
  lt : w.heap.size < sb ∧ sb < rb1 ∧ rb1 < rb2 ∧ rb2 < W.heap.size
  bx : W.heap[w.heap.size]? = some (.cells q.cells 25 (0, 0))
  res : W.heap[sb]? = some (.cells reqZ0.cells 25 (0, 0))
  r1 : W.heap[rb1]? = some (.cells q.row 74 (0, 0))
  r2 : W.heap[rb2]? = some (.cells (rowC cs) 74 (0, 0))
  len : cs.length = 18
theorem PlAt.on {w W W' : World} {q : ReqD} {sb rb1 rb2 : Nat} {cs : List Value} (h : PlAt w W q sb rb1 rb2 cs) (hB : Below W.heap.size W W') : PlAt w W' q sb rb1 rb2 cs := by
  have hl := h.lt
  exact ⟨h.below.trans (hB.mono h.below.size), ⟨hl.1, hl.2.1, hl.2.2.1, Nat.lt_of_lt_of_le hl.2.2.2 hB.size⟩, (hB.block _ (by omega)).trans h.bx, (hB.block _ (by omega)).trans h.res, (hB.block _ (by omega)).trans h.r1, (hB.block _ (by omega)).trans h.r2, h.len⟩
theorem PlAt.set {w W : World} {q : ReqD} {sb rb1 rb2 : Nat} {cs : List Value} (h : PlAt w W q sb rb1 rb2 cs) (o : Nat) (v : Value) (h2 : 2 ≤ o) (h20 : o < 20) : PlAt w (W.setCell ⟨rb2, o, none⟩ v) q sb rb1 rb2 (cs.set (o - 2) v) := by
  have hl := h.lt
  have hs : (W.setCell ⟨rb2, o, none⟩ v).heap.size = W.heap.size := by simp [World.setCell]
  refine ⟨h.below.setCell (show w.heap.size ≤ rb2 by omega) v, ⟨hl.1, hl.2.1, hl.2.2.1, by rw [hs]; exact hl.2.2.2⟩, (Below.heap_setCell _ _ _ _ (by show w.heap.size ≠ rb2; omega)).trans h.bx, (Below.heap_setCell _ _ _ _ (by show sb ≠ rb2; omega)).trans h.res, (Below.heap_setCell _ _ _ _ (by show rb1 ≠ rb2; omega)).trans h.r1, ?_, by rw [List.length_set]; exact h.len⟩
  rw [← rowC_set _ _ _ h2]
  exact heap_setCell_row h.r2 (by rw [rowC_size, h.len]; omega)
theorem PlAt.c1 {w W : World} {q : ReqD} {sb rb1 rb2 : Nat} {cs : List Value} (h : PlAt w W q sb rb1 rb2 cs) (o : Nat) (u : Value) (hu : q.row[o]? = some u) : W.cell? ⟨rb1, o, none⟩ = some u := by rw [cell_of_row W _ _ _ _ _ h.r1]; exact hu
theorem PlAt.c0 {w W : World} {q : ReqD} {sb rb1 rb2 : Nat} {cs : List Value} (h : PlAt w W q sb rb1 rb2 cs) (o : Nat) (u : Value) (hu : q.cells[o]? = some u) : W.cell? ⟨w.heap.size, o, none⟩ = some u := by rw [cell_of_row W _ _ _ _ _ h.bx]; exact hu
theorem PlAt.c2 {w W : World} {q : ReqD} {sb rb1 rb2 : Nat} {cs : List Value} (h : PlAt w W q sb rb1 rb2 cs) (o : Nat) (u : Value) (hu : cs[o]? = some u) : W.cell? ⟨rb2, o + 2, none⟩ = some u := by rw [cell_of_row W _ _ _ _ _ h.r2, rowC_at]; exact hu
theorem PlAt.f2 {w W : World} {q : ReqD} {sb rb1 rb2 : Nat} {cs : List Value} (h : PlAt w W q sb rb1 rb2 cs) (o : Nat) : W.frozen? ⟨rb2, o, none⟩ = false := frozen_of_row _ _ _ _ _ h.r2
theorem PlAt.some2 {w W : World} {q : ReqD} {sb rb1 rb2 : Nat} {cs : List Value} (h : PlAt w W q sb rb1 rb2 cs) (o : Nat) (ho : o < 20) : ∃ u, W.cell? ⟨rb2, o, none⟩ = some u := by
  rw [cell_of_row W _ _ _ _ _ h.r2]
  exact ⟨_, Array.getElem?_eq_getElem (by rw [rowC_size, h.len]; omega)⟩
theorem PlAt.putCells {w W : World} {q : ReqD} {sb rb1 rb2 : Nat} {cs : List Value} (h : PlAt w W q sb rb1 rb2 cs) (vs cs2 : List Value) (hl : vs.length = 10) (hc : cs2 = cs.take 8 ++ vs) : PlAt w (W.setCells rb2 10 vs) q sb rb1 rb2 cs2 := by
  have hlt := h.lt
  obtain ⟨h1, h2, h3, h4, h5⟩ := setCells_keep rb2 vs 10 W
  have hlen := h.len
  obtain ⟨cs', e1, e2, e3⟩ := setCells_row vs 10 (cs := rowC cs) (by rw [rowC_size, hlen]; omega) h.r2
  have e4 : cs' = rowC cs2 := by
    apply Array.ext'
    rw [e3, hc, hl]
    have e5 : (rowC cs).toList = .slice none 0 0 :: .bool false :: cs := by simp [rowC]
    have e6 : (rowC (cs.take 8 ++ vs)).toList = .slice none 0 0 :: .bool false :: (cs.take 8 ++ vs) := by simp [rowC]
    rw [e5, e6, List.drop_of_length_le (by simp; omega)]
    simp
  rw [e4] at e2
  have hlen2 : cs2.length = 18 := by rw [hc, List.length_append, List.length_take]; omega
  generalize W.setCells rb2 10 vs = V at *
  exact ⟨⟨h1.trans h.below.os, h2.trans h.below.tape, h3.trans h.below.output, by rw [h4]; exact h.below.size, fun k hk => (h5 k (by omega)).trans (h.below.block k hk)⟩, ⟨hlt.1, hlt.2.1, hlt.2.2.1, by rw [h4]; exact hlt.2.2.2⟩, (h5 _ (by omega)).trans h.bx, (h5 _ (by omega)).trans h.res, (h5 _ (by omega)).trans h.r1, e2, hlen2⟩
theorem PlAt.there {w W : World} {q : ReqD} {sb rb1 rb2 : Nat} {cs : List Value} (h : PlAt w W q sb rb1 rb2 cs) : W.there rb2 10 10 := by
  intro j hj
  refine ⟨?_, h.f2 _⟩
  obtain ⟨u, hu⟩ := h.some2 (10 + j) (by omega)
  rw [hu]; rfl
/-- The pointers that a call answered, later. -/
def PtrsIn (W : World) (ao : Option Addr) (rb rb2 : Nat) (offs : List Nat) : Prop := ∀ k o, offs[k]? = some o → ∃ nb, ao = some ⟨nb, 0, none⟩ ∧ nb < W.heap.size ∧ nb ≠ rb2 ∧ W.cell? ⟨nb, k, none⟩ = some (.pointer (some ⟨rb, o, none⟩))
theorem PtrsIn.on {W W' : World} {ao : Option Addr} {rb rb2 : Nat} {offs : List Nat} (h : PtrsIn W ao rb rb2 offs) (hG : RefG W W' rb2) : PtrsIn W' ao rb rb2 offs := fun k o ho => by
  obtain ⟨nb, h1, h2, h3, h4⟩ := h k o ho
  exact ⟨nb, h1, Nat.lt_of_lt_of_le h2 hG.size, h3, (hG.cell (a := ⟨nb, k, none⟩) h2 h3).trans h4⟩
theorem putAt_step (cs : List Value) (offs : List Nat) (us : List Value) (k o : Nat) (u : Value) (hl : us.length = offs.length) (ho : offs[k]? = some o) (hu : us[k]? = some u) : putAt cs (offs.take (k + 1)) (us.take (k + 1)) = (putAt cs (offs.take k) (us.take k)).set (o - 2) u := by
  obtain ⟨h1, h2⟩ := List.getElem?_eq_some_iff.1 ho
  obtain ⟨h3, h4⟩ := List.getElem?_eq_some_iff.1 hu
  rw [List.take_succ_eq_append_getElem h1, h2, List.take_succ_eq_append_getElem h3, h4]
  exact putAt_snoc _ _ _ _ _ (by rw [List.length_take, List.length_take]; omega)

theorem PlAt.both {w W W' V : World} {q : ReqD} {sb rb1 rb2 : Nat} {cs : List Value} (h : PlAt w W q sb rb1 rb2 cs) (hg : RefG V W rb2) (hB : Below W.heap.size W W') : PlAt w W' q sb rb1 rb2 cs ∧ RefG V W' rb2 := ⟨h.on hB, hg.trans (RefG.of_below hB)⟩
theorem below_drew_in {w w' : World} (h : Below w.drew.heap.size w.drew w') : Below w.heap.size w w' := ⟨h.os, h.tape, h.output, h.size, h.block⟩

set_option maxHeartbeats 3200000 in
set_option maxRecDepth 100000 in
theorem fr_plain_no (q : ReqD) (w : World) (hk : kindB q.kind = false) : Calls Try.prog 62 #[.agg q.cells] w (PlainPost w q) := by
  have HK := Lib.hid hk
  clear hk
  go_enter Try.func62, Try.ntmps62
  go_upto_region 1 with (fail)
  go_step
  refine wpList_load_row rfl 25 _ rfl w.heap.size rfl 25 q.cells (0,0) _ (((below_alloc _ _).block _ (by simp)).trans (heap_alloc_new _ _)) Try.underlying25 (by kernel_rfl) (by kernel_rfl) ?_
  refine wpList_build_at _ rfl 74 _ rfl q.row (by kernel_rfl) ?_
  go_step
  go_step
  go_step
  refine wpList_build_at _ rfl 74 _ rfl (rowC reqZ0.cells.toList) (by kernel_rfl) ?_
  go_upto_region 2 with (fail)
  change Code.wp _ _ _ _ ((((w.alloc (.cells q.cells 25)).alloc (.cells reqZ0.cells 25)).alloc (.cells q.row 74)).alloc (.cells (rowC reqZ0.cells.toList) 74))
  have T0 : Hid (PlAt w ((((w.alloc (.cells q.cells 25)).alloc (.cells reqZ0.cells 25)).alloc (.cells q.row 74)).alloc (.cells (rowC reqZ0.cells.toList) 74)) q (w.heap.size + 1) (w.heap.size + 1 + 1) (w.heap.size + 1 + 1 + 1) reqZ0.cells.toList) := Lib.hid (by
    have hb : ∀ (W : World) (o : Obj) (k : Nat) (x : Obj), W.heap[k]? = some x → (W.alloc o).heap[k]? = some x := fun W o k x h => ((below_alloc W o).block k (Array.getElem?_eq_some_iff.1 h).1).trans h
    refine ⟨(((below_alloc _ _).trans ((below_alloc _ _).mono (by simp))).trans ((below_alloc _ _).mono (by simp; omega))).trans ((below_alloc _ _).mono (by simp; omega)), by simp, hb _ _ _ _ (hb _ _ _ _ (hb _ _ _ _ (heap_alloc_new _ _))), ?_, ?_, ?_, rfl⟩
    · refine hb _ _ _ _ (hb _ _ _ _ ?_)
      have := heap_alloc_new (w.alloc (.cells q.cells 25)) (.cells reqZ0.cells 25)
      simpa using this
    · refine hb _ _ _ _ ?_
      have := heap_alloc_new ((w.alloc (.cells q.cells 25)).alloc (.cells reqZ0.cells 25)) (.cells q.row 74)
      simpa using this
    · have := heap_alloc_new (((w.alloc (.cells q.cells 25)).alloc (.cells reqZ0.cells 25)).alloc (.cells q.row 74)) (.cells (rowC reqZ0.cells.toList) 74)
      simpa using this)
  generalize ((((w.alloc (.cells q.cells 25)).alloc (.cells reqZ0.cells 25)).alloc (.cells q.row 74)).alloc (.cells (rowC reqZ0.cells.toList) 74)) = W0 at *
  generalize hb1 : w.heap.size + 1 = sb at *
  generalize hb2 : sb + 1 = rb1 at *
  generalize hb3 : rb1 + 1 = rb2 at *
  have HBS := Lib.hid (And.intro hb1 (And.intro hb2 hb3))
  clear hb1 hb2 hb3
  generalize hb0 : w.heap.size = b0 at *
  have k0 : W0.cell? ⟨b0, 0, none⟩ = some (.int .i64 q.kind) := by rw [← hb0]; exact T0.out.c0 0 _ rfl
  have HB0 := Lib.hid hb0
  clear hb0
  have k2 : W0.cell? ⟨rb2, 2, none⟩ = some (.int .i64 0) := T0.out.c2 0 _ rfl
  have kf := T0.out.f2 2
  go_upto_region 3 with (fail)
  have T1 : Hid (PlAt w (W0.setCell ⟨rb2, 2, none⟩ (.int .i64 q.kind)) q sb rb1 rb2 (reqZ0.cells.toList.set 0 (.int .i64 q.kind))) := Lib.hid (T0.out.set 2 _ (by decide) (by decide))
  generalize W0.setCell ⟨rb2, 2, none⟩ (.int .i64 q.kind) = W1 at *
  clear k0 k2 kf T0
  have k0 : W1.cell? ⟨b0, 0, none⟩ = some (.int .i64 q.kind) := by rw [← HB0.out]; exact T1.out.c0 0 _ rfl
  have RG : Hid (W1.rangeAt rb2 2 ({ reqZ0 with kind := q.kind } : ReqD).cells.toList) := Lib.hid (fun j u hj => by rw [Nat.add_comm]; exact T1.out.c2 j u hj)
  have HPC : Hid (plainC q = ({ reqZ0 with kind := q.kind } : ReqD).cells.toList) := Lib.hid (by unfold plainC; rw [if_neg (by rw [HK.out]; decide)]; rfl)
  go_wp2_with (first
    | (go_at_call 33; refine (fr_kind q.kind _).mono ?_; rintro e w' ⟨rfl, rfl⟩; rw [HK.out])
    | (refine wpList_load_mid rfl 25 (.tmp 28) rfl rb2 2 rfl ({ reqZ0 with kind := q.kind } : ReqD).cells.toList _ RG.out Try.underlying25 rfl (by kernel_rfl) ?_)
    | (refine wpList_store_row rfl 25 (.tmp 2) (.tmp 29) rfl sb ({ reqZ0 with kind := q.kind } : ReqD).cells rfl rfl 25 reqZ0.cells T1.out.res (by kernel_rfl) rfl (req_one_cells _) ?_))
  (try simp only [Exit.inBlock, Exit.then])
  refine bodyPost_ret (results_cell_row rfl _ _ sb 25 ({ reqZ0 with kind := q.kind } : ReqD).cells (0, 0) _ rfl (setRow_heap _ _ _ _ _ _ T1.out.res) Try.underlying25 rfl (by kernel_rfl)) rfl ?_
  exact ⟨by rw [HPC.out], below_setRow T1.out.below (Nat.le_of_lt T1.out.lt.1) _⟩
set_option maxHeartbeats 3200000 in
set_option maxRecDepth 100000 in
theorem fr_plain_yes (q : ReqD) (w : World) (hk : kindB q.kind = true) : Calls Try.prog 62 #[.agg q.cells] w (PlainPost w q) := by
  have HK := Lib.hid hk
  clear hk
  go_enter Try.func62, Try.ntmps62
  go_upto_region 1 with (fail)
  go_step
  refine wpList_load_row rfl 25 _ rfl w.heap.size rfl 25 q.cells (0,0) _ (((below_alloc _ _).block _ (by simp)).trans (heap_alloc_new _ _)) Try.underlying25 (by kernel_rfl) (by kernel_rfl) ?_
  refine wpList_build_at _ rfl 74 _ rfl q.row (by kernel_rfl) ?_
  go_step
  go_step
  go_step
  refine wpList_build_at _ rfl 74 _ rfl (rowC reqZ0.cells.toList) (by kernel_rfl) ?_
  go_upto_region 2 with (fail)
  change Code.wp _ _ _ _ ((((w.alloc (.cells q.cells 25)).alloc (.cells reqZ0.cells 25)).alloc (.cells q.row 74)).alloc (.cells (rowC reqZ0.cells.toList) 74))
  have T0 : Hid (PlAt w ((((w.alloc (.cells q.cells 25)).alloc (.cells reqZ0.cells 25)).alloc (.cells q.row 74)).alloc (.cells (rowC reqZ0.cells.toList) 74)) q (w.heap.size + 1) (w.heap.size + 1 + 1) (w.heap.size + 1 + 1 + 1) reqZ0.cells.toList) := Lib.hid (by
    have hb : ∀ (W : World) (o : Obj) (k : Nat) (x : Obj), W.heap[k]? = some x → (W.alloc o).heap[k]? = some x := fun W o k x h => ((below_alloc W o).block k (Array.getElem?_eq_some_iff.1 h).1).trans h
    refine ⟨(((below_alloc _ _).trans ((below_alloc _ _).mono (by simp))).trans ((below_alloc _ _).mono (by simp; omega))).trans ((below_alloc _ _).mono (by simp; omega)), by simp, hb _ _ _ _ (hb _ _ _ _ (hb _ _ _ _ (heap_alloc_new _ _))), ?_, ?_, ?_, rfl⟩
    · refine hb _ _ _ _ (hb _ _ _ _ ?_)
      have := heap_alloc_new (w.alloc (.cells q.cells 25)) (.cells reqZ0.cells 25)
      simpa using this
    · refine hb _ _ _ _ ?_
      have := heap_alloc_new ((w.alloc (.cells q.cells 25)).alloc (.cells reqZ0.cells 25)) (.cells q.row 74)
      simpa using this
    · have := heap_alloc_new (((w.alloc (.cells q.cells 25)).alloc (.cells reqZ0.cells 25)).alloc (.cells q.row 74)) (.cells (rowC reqZ0.cells.toList) 74)
      simpa using this)
  generalize ((((w.alloc (.cells q.cells 25)).alloc (.cells reqZ0.cells 25)).alloc (.cells q.row 74)).alloc (.cells (rowC reqZ0.cells.toList) 74)) = W0 at *
  generalize hb1 : w.heap.size + 1 = sb at *
  generalize hb2 : sb + 1 = rb1 at *
  generalize hb3 : rb1 + 1 = rb2 at *
  have HBS := Lib.hid (And.intro hb1 (And.intro hb2 hb3))
  clear hb1 hb2 hb3
  generalize hb0 : w.heap.size = b0 at *
  have k0 : W0.cell? ⟨b0, 0, none⟩ = some (.int .i64 q.kind) := by rw [← hb0]; exact T0.out.c0 0 _ rfl
  have HB0 := Lib.hid hb0
  clear hb0
  have k2 : W0.cell? ⟨rb2, 2, none⟩ = some (.int .i64 0) := T0.out.c2 0 _ rfl
  have kf := T0.out.f2 2
  go_upto_region 3 with (fail)
  have T1 : Hid (PlAt w (W0.setCell ⟨rb2, 2, none⟩ (.int .i64 q.kind)) q sb rb1 rb2 (reqZ0.cells.toList.set 0 (.int .i64 q.kind))) := Lib.hid (T0.out.set 2 _ (by decide) (by decide))
  generalize W0.setCell ⟨rb2, 2, none⟩ (.int .i64 q.kind) = W1 at *
  clear k0 k2 kf T0
  have k0 : W1.cell? ⟨b0, 0, none⟩ = some (.int .i64 q.kind) := by rw [← HB0.out]; exact T1.out.c0 0 _ rfl
  have k1 : W1.cell? ⟨b0, 1, none⟩ = some (.string q.key) := by rw [← HB0.out]; exact T1.out.c0 1 _ rfl
  have k3 : W1.cell? ⟨rb2, 3, none⟩ = some (.string ⟨#[]⟩) := T1.out.c2 1 _ rfl
  have kf := T1.out.f2 3
  go_upto_region 6 with (go_at_call 33; refine (fr_kind q.kind _).mono ?_; rintro e w' ⟨rfl, rfl⟩; rw [HK.out])
  have T2 : Hid (PlAt w (W1.setCell ⟨rb2, 3, none⟩ (.string q.key)) q sb rb1 rb2 ((reqZ0.cells.toList.set 0 (.int .i64 q.kind)).set 1 (.string q.key))) := Lib.hid (T1.out.set 3 _ (by decide) (by decide))
  generalize W1.setCell ⟨rb2, 3, none⟩ (.string q.key) = W2 at *
  clear k0 k1 k3 kf T1
  have CS0 : Hid (((reqZ0.cells.toList.set 0 (.int .i64 q.kind)).set 1 (.string q.key))[0]? = some (.int .i64 q.kind)) := Lib.hid rfl
  have LN1 : Hid ((numOffs q.kind).length = q.nums.length ∧ q.nums.length ≤ 3) := Lib.hid ⟨(nums_places q).1, Nat.le_trans (nums_short q) (by decide)⟩
  go_wp2_with (go_at_call 39; refine (fr_numbers rb1 q.kind _ (T2.out.c1 2 _ rfl)).mono ?_; rintro e V1 ⟨ao1, rfl, hB1, hP1⟩; have XP1 := Lib.hid (And.intro hB1 hP1); clear hB1 hP1; rw [LN1.out.1])
  have U1 : Hid (PlAt w V1 q sb rb1 rb2 ((reqZ0.cells.toList.set 0 (.int .i64 q.kind)).set 1 (.string q.key))) := Lib.hid (T2.out.on XP1.out.1)
  have PI1 : Hid (PtrsIn V1 ao1 rb1 rb2 (numOffs q.kind)) := Lib.hid (fun k o ho => by
    obtain ⟨nb, h1, h2, h3, h4⟩ := XP1.out.2 k o ho
    exact ⟨nb, h1, h3, by have := T2.out.lt.2.2.2; omega, h4⟩)
  obtain ⟨us1, hus1⟩ : ∃ us : List Value, us = q.nums.map (Value.int .i64) := ⟨_, rfl⟩
  have HU1 := Lib.hid hus1
  clear hus1
  obtain ⟨m1, hm1⟩ : ∃ m, m = q.nums.length := ⟨_, rfl⟩
  rw [← hm1]
  have HM1 : Hid (m1 = q.nums.length ∧ us1.length = m1 ∧ (numOffs q.kind).length = m1 ∧ m1 ≤ 3) := Lib.hid ⟨hm1, by rw [HU1.out, List.length_map, hm1], by rw [LN1.out.1, hm1], by rw [hm1]; exact LN1.out.2⟩
  clear hm1
  have PL1 := Lib.hid (nums_places q)
  go_loopg [39] m1 (fun g s wr => ∃ k : Nat, k + g = m1 ∧ s = .int .i64 k ∧ PlAt w wr q sb rb1 rb2 (putAt ((reqZ0.cells.toList.set 0 (.int .i64 q.kind)).set 1 (.string q.key)) ((numOffs q.kind).take k) (us1.take k)) ∧ RefG V1 wr rb2)
  case atStart => exact ⟨0, by omega, rfl, by rw [List.take_zero, putAt_nil]; exact U1.out, RefG.refl _ _⟩
  case round =>
    obtain ⟨k, hkg, rfl, hpl, hrg⟩ := hrel
    have XR := Lib.hid (And.intro hpl hrg)
    clear hpl hrg
    cases gk with
    | zero =>
      have hk : ¬ ((k : Int) < (m1 : Int)) := by omega
      have Z1 : Hid (PlAt w wr q sb rb1 rb2 (putAt ((reqZ0.cells.toList.set 0 (.int .i64 q.kind)).set 1 (.string q.key)) (numOffs q.kind) us1)) := Lib.hid (by
        have := XR.out.1
        rwa [List.take_of_length_le (by have := HM1.out; omega), List.take_of_length_le (by have := HM1.out; omega)] at this)
      clear XR hkg
      obtain ⟨Y1, rfl⟩ : ∃ x : World, x = wr := ⟨_, rfl⟩
      have CSX2 : Hid ((putAt ((reqZ0.cells.toList.set 0 (.int .i64 q.kind)).set 1 (.string q.key)) (numOffs q.kind) us1)[0]? = some (.int .i64 q.kind)) := Lib.hid (by rw [putAt_out _ _ _ _ (fun o ho => by have := (numOffs_ok q.kind).2.1 o ho; omega)]; exact CS0.out)
      have LN2 : Hid ((textOffs q.kind).length = q.texts.length ∧ q.texts.length ≤ 3) := Lib.hid ⟨(texts_places q).1, Nat.le_trans (texts_short q) (by decide)⟩
      go_wp2_with (go_at_call 34; refine (fr_texts rb1 q.kind _ (Z1.out.c1 2 _ rfl)).mono ?_; rintro e V2 ⟨ao2, rfl, hB2, hP2⟩; have XP2 := Lib.hid (And.intro hB2 hP2); clear hB2 hP2; rw [LN2.out.1])
      have U2 : Hid (PlAt w V2 q sb rb1 rb2 (putAt ((reqZ0.cells.toList.set 0 (.int .i64 q.kind)).set 1 (.string q.key)) (numOffs q.kind) us1)) := Lib.hid (Z1.out.on XP2.out.1)
      have PI2 : Hid (PtrsIn V2 ao2 rb1 rb2 (textOffs q.kind)) := Lib.hid (fun k o ho => by
        obtain ⟨nb, h1, h2, h3, h4⟩ := XP2.out.2 k o ho
        exact ⟨nb, h1, h3, by have := Z1.out.lt.2.2.2; omega, h4⟩)
      obtain ⟨us2, hus2⟩ : ∃ us : List Value, us = q.texts.map (Value.string) := ⟨_, rfl⟩
      have HU2 := Lib.hid hus2
      clear hus2
      obtain ⟨m2, hm2⟩ : ∃ m, m = q.texts.length := ⟨_, rfl⟩
      rw [← hm2]
      have HM2 : Hid (m2 = q.texts.length ∧ us2.length = m2 ∧ (textOffs q.kind).length = m2 ∧ m2 ≤ 3) := Lib.hid ⟨hm2, by rw [HU2.out, List.length_map, hm2], by rw [LN2.out.1, hm2], by rw [hm2]; exact LN2.out.2⟩
      clear hm2
      have PL2 := Lib.hid (texts_places q)
      go_loopg [57] m2 (fun g s wr => ∃ k : Nat, k + g = m2 ∧ s = .int .i64 k ∧ PlAt w wr q sb rb1 rb2 (putAt (putAt ((reqZ0.cells.toList.set 0 (.int .i64 q.kind)).set 1 (.string q.key)) (numOffs q.kind) us1) ((textOffs q.kind).take k) (us2.take k)) ∧ RefG V2 wr rb2)
      case atStart => exact ⟨0, by omega, rfl, by rw [List.take_zero, putAt_nil]; exact U2.out, RefG.refl _ _⟩
      case round =>
        obtain ⟨k, hkg, rfl, hpl, hrg⟩ := hrel
        have XR := Lib.hid (And.intro hpl hrg)
        clear hpl hrg
        cases gk with
        | zero =>
          have hk : ¬ ((k : Int) < (m2 : Int)) := by omega
          have Z2 : Hid (PlAt w wr q sb rb1 rb2 (putAt (putAt ((reqZ0.cells.toList.set 0 (.int .i64 q.kind)).set 1 (.string q.key)) (numOffs q.kind) us1) (textOffs q.kind) us2)) := Lib.hid (by
            have := XR.out.1
            rwa [List.take_of_length_le (by have := HM2.out; omega), List.take_of_length_le (by have := HM2.out; omega)] at this)
          clear XR hkg
          obtain ⟨Y2, rfl⟩ : ∃ x : World, x = wr := ⟨_, rfl⟩
          have CSX3 : Hid ((putAt (putAt ((reqZ0.cells.toList.set 0 (.int .i64 q.kind)).set 1 (.string q.key)) (numOffs q.kind) us1) (textOffs q.kind) us2)[0]? = some (.int .i64 q.kind)) := Lib.hid (by rw [putAt_out _ _ _ _ (fun o ho => by have := (textOffs_ok q.kind).2.1 o ho; omega)]; exact CSX2.out)
          have LN3 : Hid ((moreOffs q.kind).length = q.more.length ∧ q.more.length ≤ 3) := Lib.hid ⟨(more_places q).1, Nat.le_trans (more_short q) (by decide)⟩
          go_wp2_with (go_at_call 41; refine (fr_more rb1 q.kind _ (Z2.out.c1 2 _ rfl)).mono ?_; rintro e V3 ⟨ao3, rfl, hB3, hP3⟩; have XP3 := Lib.hid (And.intro hB3 hP3); clear hB3 hP3; rw [LN3.out.1])
          have U3 : Hid (PlAt w V3 q sb rb1 rb2 (putAt (putAt ((reqZ0.cells.toList.set 0 (.int .i64 q.kind)).set 1 (.string q.key)) (numOffs q.kind) us1) (textOffs q.kind) us2)) := Lib.hid (Z2.out.on XP3.out.1)
          have PI3 : Hid (PtrsIn V3 ao3 rb1 rb2 (moreOffs q.kind)) := Lib.hid (fun k o ho => by
            obtain ⟨nb, h1, h2, h3, h4⟩ := XP3.out.2 k o ho
            exact ⟨nb, h1, h3, by have := Z2.out.lt.2.2.2; omega, h4⟩)
          obtain ⟨us3, hus3⟩ : ∃ us : List Value, us = q.more.map (Value.int .i64) := ⟨_, rfl⟩
          have HU3 := Lib.hid hus3
          clear hus3
          obtain ⟨m3, hm3⟩ : ∃ m, m = q.more.length := ⟨_, rfl⟩
          rw [← hm3]
          have HM3 : Hid (m3 = q.more.length ∧ us3.length = m3 ∧ (moreOffs q.kind).length = m3 ∧ m3 ≤ 3) := Lib.hid ⟨hm3, by rw [HU3.out, List.length_map, hm3], by rw [LN3.out.1, hm3], by rw [hm3]; exact LN3.out.2⟩
          clear hm3
          have PL3 := Lib.hid (more_places q)
          go_loopg [75] m3 (fun g s wr => ∃ k : Nat, k + g = m3 ∧ s = .int .i64 k ∧ PlAt w wr q sb rb1 rb2 (putAt (putAt (putAt ((reqZ0.cells.toList.set 0 (.int .i64 q.kind)).set 1 (.string q.key)) (numOffs q.kind) us1) (textOffs q.kind) us2) ((moreOffs q.kind).take k) (us3.take k)) ∧ RefG V3 wr rb2)
          case atStart => exact ⟨0, by omega, rfl, by rw [List.take_zero, putAt_nil]; exact U3.out, RefG.refl _ _⟩
          case round =>
            obtain ⟨k, hkg, rfl, hpl, hrg⟩ := hrel
            have XR := Lib.hid (And.intro hpl hrg)
            clear hpl hrg
            cases gk with
            | zero =>
              have hk : ¬ ((k : Int) < (m3 : Int)) := by omega
              have Z3 : Hid (PlAt w wr q sb rb1 rb2 (putAt (putAt (putAt ((reqZ0.cells.toList.set 0 (.int .i64 q.kind)).set 1 (.string q.key)) (numOffs q.kind) us1) (textOffs q.kind) us2) (moreOffs q.kind) us3)) := Lib.hid (by
                have := XR.out.1
                rwa [List.take_of_length_le (by have := HM3.out; omega), List.take_of_length_le (by have := HM3.out; omega)] at this)
              clear XR hkg
              obtain ⟨Y3, rfl⟩ : ∃ x : World, x = wr := ⟨_, rfl⟩
              have ZZ : Hid (PlAt w Y3 q sb rb1 rb2 (putAt (putAt (putAt ((reqZ0.cells.toList.set 0 (.int .i64 q.kind)).set 1 (.string q.key)) (numOffs q.kind) (q.nums.map (Value.int .i64))) (textOffs q.kind) (q.texts.map Value.string)) (moreOffs q.kind) (q.more.map (Value.int .i64)))) := Lib.hid (by have := Z3.out; rw [HU3.out, HU2.out, HU1.out] at this; exact this)
              obtain ⟨qq, hqq, hqk⟩ := good_shape (plain_good q)
              rw [hqq] at ZZ
              have HPC : Hid (plainC q = if q.kind = 16 then ({ qq with plan := q.plan } : ReqD).cells.toList else qq.cells.toList) := Lib.hid (by
                unfold plainC
                rw [if_pos HK.out]
                show (if q.kind = 16 then putPlan _ q.plan else _) = _
                rw [hqq, putPlan_cells])
              clear hqq hqk Z3
              have k90 : Y3.cell? ⟨b0, 0, none⟩ = some (.int .i64 q.kind) := by rw [← HB0.out]; exact ZZ.out.c0 0 _ rfl
              by_cases h16 : q.kind = 16
              · have HP : Hid (plainC q = ({ qq with plan := q.plan } : ReqD).cells.toList) := Lib.hid (by rw [HPC.out, if_pos h16])
                rw [h16] at k90
                have RB : Hid (Y3.rangeAt b0 8 q.plan.cells.toList) := Lib.hid (fun j u hj => by
                  rw [← HB0.out]
                  refine ZZ.out.c0 (8 + j) u ?_
                  have e : q.cells.toList = [.int .i64 q.kind, .string q.key, .int .i64 q.id, .int .i64 q.n, .int .i64 q.ttl, .int .i64 q.of, .string q.name, .string q.secret] ++ q.plan.cells.toList := rfl
                  rw [← Array.getElem?_toList, e, List.getElem?_append_right (by simp)]
                  simpa using hj)
                have TH := Lib.hid ZZ.out.there
                clear h16
                go_upto_region 23 with (first
                  | (refine wpList_load_mid rfl 23 (.tmp 94) rfl b0 8 rfl q.plan.cells.toList _ RB.out Try.underlying23 rfl (by kernel_rfl) ?_)
                  | (refine wpList_store_mid rfl 23 (.tmp 98) (.tmp 95) rfl rb2 10 q.plan.cells rfl rfl TH.out (by kernel_rfl) (plan_one_cells _) ?_))
                have ZP : Hid (PlAt w (Y3.setCells rb2 10 q.plan.cells.toList) q sb rb1 rb2 ({ qq with plan := q.plan } : ReqD).cells.toList) := Lib.hid (ZZ.out.putCells _ _ rfl (by rw [← putPlan_cells]; rfl))
                generalize Y3.setCells rb2 10 q.plan.cells.toList = Y4 at *
                clear k90 RB TH
                generalize ({ qq with plan := q.plan } : ReqD) = Q at *
                have RG : Hid (Y4.rangeAt rb2 2 Q.cells.toList) := Lib.hid (fun j u hj => by rw [Nat.add_comm]; exact ZP.out.c2 j u hj)
                go_wp2_with (first
                  | (refine wpList_load_mid rfl 25 (.tmp 101) rfl rb2 2 rfl Q.cells.toList _ RG.out Try.underlying25 rfl (by kernel_rfl) ?_)
                  | (refine wpList_store_row rfl 25 (.tmp 2) (.tmp 102) rfl sb Q.cells rfl rfl 25 reqZ0.cells ZP.out.res (by kernel_rfl) rfl (req_one_cells _) ?_))
                (try simp only [Exit.inBlock, Exit.then])
                refine bodyPost_ret (results_cell_row rfl _ _ sb 25 Q.cells (0, 0) _ rfl (setRow_heap _ _ _ _ _ _ ZP.out.res) Try.underlying25 rfl (by kernel_rfl)) rfl ?_
                exact ⟨by rw [HP.out], below_setRow ZP.out.below (Nat.le_of_lt ZP.out.lt.1) _⟩
              · have HP : Hid (plainC q = qq.cells.toList) := Lib.hid (by rw [HPC.out, if_neg h16])
                have hb16 : (q.kind == 16) = false := by simp [h16]
                clear h16
                have ZP := ZZ
                generalize qq = Q at *
                obtain ⟨Y4, rfl⟩ : ∃ x : World, x = Y3 := ⟨_, rfl⟩
                have RG : Hid (Y4.rangeAt rb2 2 Q.cells.toList) := Lib.hid (fun j u hj => by rw [Nat.add_comm]; exact ZP.out.c2 j u hj)
                go_wp2_with (first
                  | (refine wpList_load_mid rfl 25 (.tmp 101) rfl rb2 2 rfl Q.cells.toList _ RG.out Try.underlying25 rfl (by kernel_rfl) ?_)
                  | (refine wpList_store_row rfl 25 (.tmp 2) (.tmp 102) rfl sb Q.cells rfl rfl 25 reqZ0.cells ZP.out.res (by kernel_rfl) rfl (req_one_cells _) ?_))
                (try simp only [Exit.inBlock, Exit.then])
                refine bodyPost_ret (results_cell_row rfl _ _ sb 25 Q.cells (0, 0) _ rfl (setRow_heap _ _ _ _ _ _ ZP.out.res) Try.underlying25 rfl (by kernel_rfl)) rfl ?_
                exact ⟨by rw [HP.out], below_setRow ZP.out.below (Nat.le_of_lt ZP.out.lt.1) _⟩
            | succ g =>
              have hk : (k : Int) < (m3 : Int) := by omega
              have hk3 : k < m3 := by omega
              have hm3 : m3 ≤ 3 := HM3.out.2.2.2
              obtain ⟨o, ho⟩ : ∃ o, (moreOffs q.kind)[k]? = some o := ⟨_, List.getElem?_eq_getElem (by have := HM3.out; omega)⟩
              obtain ⟨x, hx⟩ : ∃ x, q.more[k]? = some x := ⟨_, List.getElem?_eq_getElem (by have := HM3.out; omega)⟩
              have hob := (moreOffs_ok q.kind).2.1 o (List.mem_of_getElem? ho)
              have hxo := (PL3.out.2 k o x ho hx).1
              obtain ⟨nb, rfl, hnb, hnr, hpc⟩ := (PI3.out.on XR.out.2) k o ho
              have hst := putAt_step (putAt (putAt ((reqZ0.cells.toList.set 0 (.int .i64 q.kind)).set 1 (.string q.key)) (numOffs q.kind) us1) (textOffs q.kind) us2) (moreOffs q.kind) us3 k o (Value.int .i64 x) (by have := HM3.out; omega) ho (by rw [HU3.out, List.getElem?_map, hx]; rfl)
              have HST := Lib.hid hst
              have HO := Lib.hid (And.intro ho hob)
              have HKG := Lib.hid hkg
              have c1 : wr.cell? ⟨rb1, o, none⟩ = some (Value.int .i64 x) := XR.out.1.c1 o _ hxo
              have c2 : wr.cell? ⟨rb2, 2, none⟩ = some (.int .i64 q.kind) := by
                have := XR.out.1.c2 0 (.int .i64 q.kind) (by rw [putAt_out _ _ _ _ (fun o' ho' => by have := (moreOffs_ok q.kind).2.1 o' (List.mem_of_mem_take ho'); omega)]; exact CSX3.out)
                exact this
              have hne1 : rb1 ≠ rb2 := by have := XR.out.1.lt; omega
              have hne2 : rb2 ≠ rb1 := fun e => hne1 e.symm
              have ho2 : o ≠ 2 := by omega
              have ho2' : ¬ 2 = o := by omega
              clear hst ho hx hxo hkg
              go_upto_region 19 with (fail)
              have c1' : ∀ w' : World, RefG wr w' rb2 → w'.cell? ⟨rb1, o, none⟩ = some (Value.int .i64 x) := fun w' hg => (hg.cell (a := ⟨rb1, o, none⟩) (by have := XR.out.1.lt; show rb1 < wr.heap.size; omega) hne1).trans c1
              clear c1
              refine wp_region_held_drew (S := fun w' => RefG wr w' rb2 ∧ w'.cell? ⟨rb2, 2, none⟩ = some (.int .i64 q.kind)) (by kernel_rfl) ⟨RefG.of_below (Below.refl _ _).drew, c2⟩ (fun hHeld => ?_)
              have qS := hHeld
              clear hHeld
              refine wpAnyH_take (i := 0) (oi := { dst := some 80, op := Op.move (.tmp 4), type := 70, pos := "frame.go:197", after := #[], guard := none }) (v := ?_) rfl (by kernel_rfl) (by kernel_rfl) (by kernel_rfl) (fun _ _ _ h => h) (Or.inl ⟨by rfl, ?_⟩) qS ?_
              rotate_left
              · intro w hSw
                (try dsimp only at hSw)
                go_simp
                all_goals with_reducible rfl
              simp only [Act.put, List.setIfInBounds_toArray, List.set_cons_zero, List.set_cons_succ]
              refine wpAnyH_take (i := 2) (oi := { dst := some 82, op := Op.move (.tmp 9), type := 3, pos := "frame.go:197", after := #[], guard := none }) (v := ?_) rfl (by kernel_rfl) (by kernel_rfl) (by kernel_rfl) (fun _ _ _ h => h) (Or.inl ⟨by rfl, ?_⟩) qS ?_
              rotate_left
              · intro w hSw
                (try dsimp only at hSw)
                go_simp
                all_goals with_reducible rfl
              simp only [Act.put, List.setIfInBounds_toArray, List.set_cons_zero, List.set_cons_succ]
              refine wpAnyH_take (i := 5) (oi := { dst := some 85, op := Op.move (.tmp 10), type := 85, pos := "frame.go:197", after := #[], guard := none }) (v := ?_) rfl (by kernel_rfl) (by kernel_rfl) (by kernel_rfl) (fun _ _ _ h => h) (Or.inl ⟨by rfl, ?_⟩) qS ?_
              rotate_left
              · intro w hSw
                (try dsimp only at hSw)
                go_simp
                all_goals with_reducible rfl
              simp only [Act.put, List.setIfInBounds_toArray, List.set_cons_zero, List.set_cons_succ]
              refine wpAnyH_take (i := 6) (oi := { dst := some 86, op := Op.nilCheck (.tmp 85), type := 0, pos := "frame.go:197", after := #[{ on := 5, ground := .data }], guard := none }) (v := ?_) rfl (by kernel_rfl) (by kernel_rfl) (by kernel_rfl) (fun _ _ _ h => h) (Or.inl ⟨by rfl, ?_⟩) qS ?_
              rotate_left
              · intro w hSw
                (try dsimp only at hSw)
                go_simp
                all_goals with_reducible rfl
              simp only [Act.put, List.setIfInBounds_toArray, List.set_cons_zero, List.set_cons_succ]
              refine wpAnyH_take (i := 7) (oi := { dst := some 87, op := Op.load 3 (.tmp 86), type := 3, pos := "frame.go:197", after := #[{ on := 6, ground := .data }], guard := none }) (v := ?_) rfl (by kernel_rfl) (by kernel_rfl) (by kernel_rfl) (fun _ _ _ h => h) (Or.inl ⟨by rfl, ?_⟩) qS ?_
              rotate_left
              · intro w hSw
                (try dsimp only at hSw)
                go_simp
                all_goals with_reducible rfl
              simp only [Act.put, List.setIfInBounds_toArray, List.set_cons_zero, List.set_cons_succ]
              refine H_one (i := 1) (o := { dst := some 81, op := Op.call { callee := Callee.value (.func 41), args := #[.tmp 80], argTypes := #[70] }, type := 83, pos := "frame.go:197", after := #[{ on := 0, ground := .data }], guard := none }) (by kernel_rfl) rfl (fun K hK => ?_)
              go_simp
              go_at_call 41
              refine (fr_more rb2 q.kind _ qS.2).mono ?_
              rintro e w2 ⟨ao2, rfl, hB2, hP2⟩
              obtain ⟨nb2, rfl, hn1, hn2, hp2⟩ := hP2 k o HO.out.1
              have pS2 : RefG wr w2 rb2 ∧ w2.cell? ⟨rb2, 2, none⟩ = some (.int .i64 q.kind) := ⟨qS.1.trans (RefG.of_below hB2), (hB2.cell (p := ⟨rb2, 2, none⟩) (by have := XR.out.1.lt; show rb2 < wr.heap.size; omega)).trans qS.2⟩
              have p2' : ∀ w' : World, RefG w2 w' rb2 → w'.cell? ⟨nb2, k, none⟩ = some (.pointer (some ⟨rb2, o, none⟩)) := fun w' hg => (hg.cell (a := ⟨nb2, k, none⟩) hn2 (by have hn1' : wr.heap.size ≤ nb2 := hn1; have := XR.out.1.lt; show nb2 ≠ rb2; omega)).trans hp2
              have TB : Hid (PlAt w w2 q sb rb1 rb2 (putAt (putAt (putAt ((reqZ0.cells.toList.set 0 (.int .i64 q.kind)).set 1 (.string q.key)) (numOffs q.kind) us1) (textOffs q.kind) us2) ((moreOffs q.kind).take k) (us3.take k)) ∧ RefG V3 w2 rb2) := Lib.hid (PlAt.both XR.out.1 XR.out.2 (below_drew_in hB2))
              obtain ⟨ux, hux⟩ := TB.out.1.some2 o HO.out.2.2
              have hfx := TB.out.1.f2 o
              rw [show (moreOffs q.kind).length = m3 from HM3.out.2.2.1]
              clear hB2 hP2 hp2 hn1 hn2
              go_simp
              refine hK.out _ _ pS2 ?_
              clear hK K
              (try simp only [Act.put, List.setIfInBounds_toArray, List.set_cons_zero, List.set_cons_succ])
              refine H_weaken (S2 := fun w' => (RefG wr w' rb2 ∧ w'.cell? ⟨rb2, 2, none⟩ = some (.int .i64 q.kind)) ∧ RefG w2 w' rb2) (fun w h => h.1) _ _ _ _ ?_
              replace qS := (⟨pS2, RefG.refl _ _⟩ : (RefG wr w2 rb2 ∧ w2.cell? ⟨rb2, 2, none⟩ = some (.int .i64 q.kind)) ∧ RefG w2 w2 rb2)
              refine wpAnyH_take (i := 3) (oi := { dst := some 83, op := Op.indexAddr 83 (.tmp 81) (.tmp 82), type := 0, pos := "frame.go:197", after := #[{ on := 1, ground := .data }, { on := 2, ground := .data }], guard := none }) (v := ?_) rfl (by kernel_rfl) (by kernel_rfl) (by kernel_rfl) (fun _ _ _ h => h) (Or.inl ⟨by rfl, ?_⟩) qS ?_
              rotate_left
              · intro w hSw
                (try dsimp only at hSw)
                go_simp
                all_goals with_reducible rfl
              simp only [Act.put, List.setIfInBounds_toArray, List.set_cons_zero, List.set_cons_succ]
              refine wpAnyH_take (i := 4) (oi := { dst := some 84, op := Op.load 85 (.tmp 83), type := 85, pos := "frame.go:197", after := #[{ on := 3, ground := .data }], guard := none }) (v := ?_) rfl (by kernel_rfl) (by kernel_rfl) (by kernel_rfl) (fun _ _ _ h => h) (Or.inl ⟨by rfl, ?_⟩) qS ?_
              rotate_left
              · intro w hSw
                (try dsimp only at hSw)
                go_simp
                all_goals with_reducible rfl
              simp only [Act.put, List.setIfInBounds_toArray, List.set_cons_zero, List.set_cons_succ]
              refine wpAnyH_take (i := 8) (oi := { dst := some 88, op := Op.nilCheck (.tmp 84), type := 0, pos := "frame.go:197", after := #[{ on := 4, ground := .data }, { on := 0, ground := .phase }, { on := 1, ground := .phase }, { on := 2, ground := .phase }, { on := 3, ground := .phase }, { on := 4, ground := .phase }, { on := 5, ground := .phase }, { on := 6, ground := .phase }, { on := 7, ground := .phase }], guard := none }) (v := ?_) rfl (by kernel_rfl) (by kernel_rfl) (by kernel_rfl) (fun _ _ _ h => h) (Or.inl ⟨by rfl, ?_⟩) qS ?_
              rotate_left
              · intro w hSw
                (try dsimp only at hSw)
                go_simp
                all_goals with_reducible rfl
              simp only [Act.put, List.setIfInBounds_toArray, List.set_cons_zero, List.set_cons_succ]
              refine H_one (i := 9) (o := { dst := none, op := Op.store 3 (.tmp 88) (.tmp 87), type := 0, pos := "frame.go:197", after := #[{ on := 8, ground := .data }, { on := 7, ground := .data }, { on := 1, ground := .chain }, { on := 0, ground := .phase }, { on := 1, ground := .phase }, { on := 2, ground := .phase }, { on := 3, ground := .phase }, { on := 4, ground := .phase }, { on := 5, ground := .phase }, { on := 6, ground := .phase }, { on := 7, ground := .phase }], guard := none }) (by kernel_rfl) rfl (fun K hK => ?_)
              go_simp
              (try go_simp)
              refine hK.out _ _ ⟨⟨qS.1.1.trans (RefS.set _ _ _ _).grow, (cell_set_ne (fun e => by cases e; exact ho2 rfl)).trans qS.1.2⟩, qS.2.trans (RefS.set _ _ _ _).grow⟩ ?_
              clear hK K
              (try simp only [Act.put, List.setIfInBounds_toArray, List.set_cons_zero, List.set_cons_succ])
              have qS2 := qS
              clear qS
              have qS := qS2
              clear qS2
              refine wpAnyH_done (by kernel_rfl) ?_ _
              have TF : Hid (PlAt w (w2.setCell ⟨rb2, o, none⟩ (Value.int .i64 x)) q sb rb1 rb2 (putAt (putAt (putAt ((reqZ0.cells.toList.set 0 (.int .i64 q.kind)).set 1 (.string q.key)) (numOffs q.kind) us1) (textOffs q.kind) us2) ((moreOffs q.kind).take (k + 1)) (us3.take (k + 1))) ∧ RefG V3 (w2.setCell ⟨rb2, o, none⟩ (Value.int .i64 x)) rb2) := Lib.hid (by
                rw [HST.out]
                exact ⟨TB.out.1.set o _ (by have := HO.out.2; omega) HO.out.2.2, TB.out.2.trans (RefS.set _ _ _ _).grow⟩)
              clear c1' hux hfx c2 qS p2'
              generalize w2.setCell ⟨rb2, o, none⟩ (Value.int .i64 x) = w3 at *
              go_wp2
              go_roundg g
              case measure => omega
              case rel => exact ⟨k + 1, by have := HKG.out; omega, by first | rfl | go_num, TF.out.1, TF.out.2⟩
        | succ g =>
          have hk : (k : Int) < (m2 : Int) := by omega
          have hk3 : k < m2 := by omega
          have hm3 : m2 ≤ 3 := HM2.out.2.2.2
          obtain ⟨o, ho⟩ : ∃ o, (textOffs q.kind)[k]? = some o := ⟨_, List.getElem?_eq_getElem (by have := HM2.out; omega)⟩
          obtain ⟨x, hx⟩ : ∃ x, q.texts[k]? = some x := ⟨_, List.getElem?_eq_getElem (by have := HM2.out; omega)⟩
          have hob := (textOffs_ok q.kind).2.1 o (List.mem_of_getElem? ho)
          have hxo := (PL2.out.2 k o x ho hx).1
          obtain ⟨nb, rfl, hnb, hnr, hpc⟩ := (PI2.out.on XR.out.2) k o ho
          have hst := putAt_step (putAt ((reqZ0.cells.toList.set 0 (.int .i64 q.kind)).set 1 (.string q.key)) (numOffs q.kind) us1) (textOffs q.kind) us2 k o (Value.string x) (by have := HM2.out; omega) ho (by rw [HU2.out, List.getElem?_map, hx]; rfl)
          have HST := Lib.hid hst
          have HO := Lib.hid (And.intro ho hob)
          have HKG := Lib.hid hkg
          have c1 : wr.cell? ⟨rb1, o, none⟩ = some (Value.string x) := XR.out.1.c1 o _ hxo
          have c2 : wr.cell? ⟨rb2, 2, none⟩ = some (.int .i64 q.kind) := by
            have := XR.out.1.c2 0 (.int .i64 q.kind) (by rw [putAt_out _ _ _ _ (fun o' ho' => by have := (textOffs_ok q.kind).2.1 o' (List.mem_of_mem_take ho'); omega)]; exact CSX2.out)
            exact this
          have hne1 : rb1 ≠ rb2 := by have := XR.out.1.lt; omega
          have hne2 : rb2 ≠ rb1 := fun e => hne1 e.symm
          have ho2 : o ≠ 2 := by omega
          have ho2' : ¬ 2 = o := by omega
          clear hst ho hx hxo hkg
          go_upto_region 14 with (fail)
          have c1' : ∀ w' : World, RefG wr w' rb2 → w'.cell? ⟨rb1, o, none⟩ = some (Value.string x) := fun w' hg => (hg.cell (a := ⟨rb1, o, none⟩) (by have := XR.out.1.lt; show rb1 < wr.heap.size; omega) hne1).trans c1
          clear c1
          refine wp_region_held_drew (S := fun w' => RefG wr w' rb2 ∧ w'.cell? ⟨rb2, 2, none⟩ = some (.int .i64 q.kind)) (by kernel_rfl) ⟨RefG.of_below (Below.refl _ _).drew, c2⟩ (fun hHeld => ?_)
          have qS := hHeld
          clear hHeld
          refine wpAnyH_take (i := 0) (oi := { dst := some 62, op := Op.move (.tmp 4), type := 70, pos := "frame.go:194", after := #[], guard := none }) (v := ?_) rfl (by kernel_rfl) (by kernel_rfl) (by kernel_rfl) (fun _ _ _ h => h) (Or.inl ⟨by rfl, ?_⟩) qS ?_
          rotate_left
          · intro w hSw
            (try dsimp only at hSw)
            go_simp
            all_goals with_reducible rfl
          simp only [Act.put, List.setIfInBounds_toArray, List.set_cons_zero, List.set_cons_succ]
          refine wpAnyH_take (i := 2) (oi := { dst := some 64, op := Op.move (.tmp 7), type := 3, pos := "frame.go:194", after := #[], guard := none }) (v := ?_) rfl (by kernel_rfl) (by kernel_rfl) (by kernel_rfl) (fun _ _ _ h => h) (Or.inl ⟨by rfl, ?_⟩) qS ?_
          rotate_left
          · intro w hSw
            (try dsimp only at hSw)
            go_simp
            all_goals with_reducible rfl
          simp only [Act.put, List.setIfInBounds_toArray, List.set_cons_zero, List.set_cons_succ]
          refine wpAnyH_take (i := 5) (oi := { dst := some 67, op := Op.move (.tmp 8), type := 78, pos := "frame.go:194", after := #[], guard := none }) (v := ?_) rfl (by kernel_rfl) (by kernel_rfl) (by kernel_rfl) (fun _ _ _ h => h) (Or.inl ⟨by rfl, ?_⟩) qS ?_
          rotate_left
          · intro w hSw
            (try dsimp only at hSw)
            go_simp
            all_goals with_reducible rfl
          simp only [Act.put, List.setIfInBounds_toArray, List.set_cons_zero, List.set_cons_succ]
          refine wpAnyH_take (i := 6) (oi := { dst := some 68, op := Op.nilCheck (.tmp 67), type := 0, pos := "frame.go:194", after := #[{ on := 5, ground := .data }], guard := none }) (v := ?_) rfl (by kernel_rfl) (by kernel_rfl) (by kernel_rfl) (fun _ _ _ h => h) (Or.inl ⟨by rfl, ?_⟩) qS ?_
          rotate_left
          · intro w hSw
            (try dsimp only at hSw)
            go_simp
            all_goals with_reducible rfl
          simp only [Act.put, List.setIfInBounds_toArray, List.set_cons_zero, List.set_cons_succ]
          refine wpAnyH_take (i := 7) (oi := { dst := some 69, op := Op.load 9 (.tmp 68), type := 9, pos := "frame.go:194", after := #[{ on := 6, ground := .data }], guard := none }) (v := ?_) rfl (by kernel_rfl) (by kernel_rfl) (by kernel_rfl) (fun _ _ _ h => h) (Or.inl ⟨by rfl, ?_⟩) qS ?_
          rotate_left
          · intro w hSw
            (try dsimp only at hSw)
            go_simp
            all_goals with_reducible rfl
          simp only [Act.put, List.setIfInBounds_toArray, List.set_cons_zero, List.set_cons_succ]
          refine H_one (i := 1) (o := { dst := some 63, op := Op.call { callee := Callee.value (.func 34), args := #[.tmp 62], argTypes := #[70] }, type := 76, pos := "frame.go:194", after := #[{ on := 0, ground := .data }], guard := none }) (by kernel_rfl) rfl (fun K hK => ?_)
          go_simp
          go_at_call 34
          refine (fr_texts rb2 q.kind _ qS.2).mono ?_
          rintro e w2 ⟨ao2, rfl, hB2, hP2⟩
          obtain ⟨nb2, rfl, hn1, hn2, hp2⟩ := hP2 k o HO.out.1
          have pS2 : RefG wr w2 rb2 ∧ w2.cell? ⟨rb2, 2, none⟩ = some (.int .i64 q.kind) := ⟨qS.1.trans (RefG.of_below hB2), (hB2.cell (p := ⟨rb2, 2, none⟩) (by have := XR.out.1.lt; show rb2 < wr.heap.size; omega)).trans qS.2⟩
          have p2' : ∀ w' : World, RefG w2 w' rb2 → w'.cell? ⟨nb2, k, none⟩ = some (.pointer (some ⟨rb2, o, none⟩)) := fun w' hg => (hg.cell (a := ⟨nb2, k, none⟩) hn2 (by have hn1' : wr.heap.size ≤ nb2 := hn1; have := XR.out.1.lt; show nb2 ≠ rb2; omega)).trans hp2
          have TB : Hid (PlAt w w2 q sb rb1 rb2 (putAt (putAt ((reqZ0.cells.toList.set 0 (.int .i64 q.kind)).set 1 (.string q.key)) (numOffs q.kind) us1) ((textOffs q.kind).take k) (us2.take k)) ∧ RefG V2 w2 rb2) := Lib.hid (PlAt.both XR.out.1 XR.out.2 (below_drew_in hB2))
          obtain ⟨ux, hux⟩ := TB.out.1.some2 o HO.out.2.2
          have hfx := TB.out.1.f2 o
          rw [show (textOffs q.kind).length = m2 from HM2.out.2.2.1]
          clear hB2 hP2 hp2 hn1 hn2
          go_simp
          refine hK.out _ _ pS2 ?_
          clear hK K
          (try simp only [Act.put, List.setIfInBounds_toArray, List.set_cons_zero, List.set_cons_succ])
          refine H_weaken (S2 := fun w' => (RefG wr w' rb2 ∧ w'.cell? ⟨rb2, 2, none⟩ = some (.int .i64 q.kind)) ∧ RefG w2 w' rb2) (fun w h => h.1) _ _ _ _ ?_
          replace qS := (⟨pS2, RefG.refl _ _⟩ : (RefG wr w2 rb2 ∧ w2.cell? ⟨rb2, 2, none⟩ = some (.int .i64 q.kind)) ∧ RefG w2 w2 rb2)
          refine wpAnyH_take (i := 3) (oi := { dst := some 65, op := Op.indexAddr 76 (.tmp 63) (.tmp 64), type := 0, pos := "frame.go:194", after := #[{ on := 1, ground := .data }, { on := 2, ground := .data }], guard := none }) (v := ?_) rfl (by kernel_rfl) (by kernel_rfl) (by kernel_rfl) (fun _ _ _ h => h) (Or.inl ⟨by rfl, ?_⟩) qS ?_
          rotate_left
          · intro w hSw
            (try dsimp only at hSw)
            go_simp
            all_goals with_reducible rfl
          simp only [Act.put, List.setIfInBounds_toArray, List.set_cons_zero, List.set_cons_succ]
          refine wpAnyH_take (i := 4) (oi := { dst := some 66, op := Op.load 78 (.tmp 65), type := 78, pos := "frame.go:194", after := #[{ on := 3, ground := .data }], guard := none }) (v := ?_) rfl (by kernel_rfl) (by kernel_rfl) (by kernel_rfl) (fun _ _ _ h => h) (Or.inl ⟨by rfl, ?_⟩) qS ?_
          rotate_left
          · intro w hSw
            (try dsimp only at hSw)
            go_simp
            all_goals with_reducible rfl
          simp only [Act.put, List.setIfInBounds_toArray, List.set_cons_zero, List.set_cons_succ]
          refine wpAnyH_take (i := 8) (oi := { dst := some 70, op := Op.nilCheck (.tmp 66), type := 0, pos := "frame.go:194", after := #[{ on := 4, ground := .data }, { on := 0, ground := .phase }, { on := 1, ground := .phase }, { on := 2, ground := .phase }, { on := 3, ground := .phase }, { on := 4, ground := .phase }, { on := 5, ground := .phase }, { on := 6, ground := .phase }, { on := 7, ground := .phase }], guard := none }) (v := ?_) rfl (by kernel_rfl) (by kernel_rfl) (by kernel_rfl) (fun _ _ _ h => h) (Or.inl ⟨by rfl, ?_⟩) qS ?_
          rotate_left
          · intro w hSw
            (try dsimp only at hSw)
            go_simp
            all_goals with_reducible rfl
          simp only [Act.put, List.setIfInBounds_toArray, List.set_cons_zero, List.set_cons_succ]
          refine H_one (i := 9) (o := { dst := none, op := Op.store 9 (.tmp 70) (.tmp 69), type := 0, pos := "frame.go:194", after := #[{ on := 8, ground := .data }, { on := 7, ground := .data }, { on := 1, ground := .chain }, { on := 0, ground := .phase }, { on := 1, ground := .phase }, { on := 2, ground := .phase }, { on := 3, ground := .phase }, { on := 4, ground := .phase }, { on := 5, ground := .phase }, { on := 6, ground := .phase }, { on := 7, ground := .phase }], guard := none }) (by kernel_rfl) rfl (fun K hK => ?_)
          go_simp
          (try go_simp)
          refine hK.out _ _ ⟨⟨qS.1.1.trans (RefS.set _ _ _ _).grow, (cell_set_ne (fun e => by cases e; exact ho2 rfl)).trans qS.1.2⟩, qS.2.trans (RefS.set _ _ _ _).grow⟩ ?_
          clear hK K
          (try simp only [Act.put, List.setIfInBounds_toArray, List.set_cons_zero, List.set_cons_succ])
          have qS2 := qS
          clear qS
          have qS := qS2
          clear qS2
          refine wpAnyH_done (by kernel_rfl) ?_ _
          have TF : Hid (PlAt w (w2.setCell ⟨rb2, o, none⟩ (Value.string x)) q sb rb1 rb2 (putAt (putAt ((reqZ0.cells.toList.set 0 (.int .i64 q.kind)).set 1 (.string q.key)) (numOffs q.kind) us1) ((textOffs q.kind).take (k + 1)) (us2.take (k + 1))) ∧ RefG V2 (w2.setCell ⟨rb2, o, none⟩ (Value.string x)) rb2) := Lib.hid (by
            rw [HST.out]
            exact ⟨TB.out.1.set o _ (by have := HO.out.2; omega) HO.out.2.2, TB.out.2.trans (RefS.set _ _ _ _).grow⟩)
          clear c1' hux hfx c2 qS p2'
          generalize w2.setCell ⟨rb2, o, none⟩ (Value.string x) = w3 at *
          go_wp2
          go_roundg g
          case measure => omega
          case rel => exact ⟨k + 1, by have := HKG.out; omega, by first | rfl | go_num, TF.out.1, TF.out.2⟩
    | succ g =>
      have hk : (k : Int) < (m1 : Int) := by omega
      have hk3 : k < m1 := by omega
      have hm3 : m1 ≤ 3 := HM1.out.2.2.2
      obtain ⟨o, ho⟩ : ∃ o, (numOffs q.kind)[k]? = some o := ⟨_, List.getElem?_eq_getElem (by have := HM1.out; omega)⟩
      obtain ⟨x, hx⟩ : ∃ x, q.nums[k]? = some x := ⟨_, List.getElem?_eq_getElem (by have := HM1.out; omega)⟩
      have hob := (numOffs_ok q.kind).2.1 o (List.mem_of_getElem? ho)
      have hxo := (PL1.out.2 k o x ho hx).1
      obtain ⟨nb, rfl, hnb, hnr, hpc⟩ := (PI1.out.on XR.out.2) k o ho
      have hst := putAt_step ((reqZ0.cells.toList.set 0 (.int .i64 q.kind)).set 1 (.string q.key)) (numOffs q.kind) us1 k o (Value.int .i64 x) (by have := HM1.out; omega) ho (by rw [HU1.out, List.getElem?_map, hx]; rfl)
      have HST := Lib.hid hst
      have HO := Lib.hid (And.intro ho hob)
      have HKG := Lib.hid hkg
      have c1 : wr.cell? ⟨rb1, o, none⟩ = some (Value.int .i64 x) := XR.out.1.c1 o _ hxo
      have c2 : wr.cell? ⟨rb2, 2, none⟩ = some (.int .i64 q.kind) := by
        have := XR.out.1.c2 0 (.int .i64 q.kind) (by rw [putAt_out _ _ _ _ (fun o' ho' => by have := (numOffs_ok q.kind).2.1 o' (List.mem_of_mem_take ho'); omega)]; exact CS0.out)
        exact this
      have hne1 : rb1 ≠ rb2 := by have := XR.out.1.lt; omega
      have hne2 : rb2 ≠ rb1 := fun e => hne1 e.symm
      have ho2 : o ≠ 2 := by omega
      have ho2' : ¬ 2 = o := by omega
      clear hst ho hx hxo hkg
      go_upto_region 9 with (fail)
      have c1' : ∀ w' : World, RefG wr w' rb2 → w'.cell? ⟨rb1, o, none⟩ = some (Value.int .i64 x) := fun w' hg => (hg.cell (a := ⟨rb1, o, none⟩) (by have := XR.out.1.lt; show rb1 < wr.heap.size; omega) hne1).trans c1
      clear c1
      refine wp_region_held_drew (S := fun w' => RefG wr w' rb2 ∧ w'.cell? ⟨rb2, 2, none⟩ = some (.int .i64 q.kind)) (by kernel_rfl) ⟨RefG.of_below (Below.refl _ _).drew, c2⟩ (fun hHeld => ?_)
      have qS := hHeld
      clear hHeld
      refine wpAnyH_take (i := 0) (oi := { dst := some 44, op := Op.move (.tmp 4), type := 70, pos := "frame.go:191", after := #[], guard := none }) (v := ?_) rfl (by kernel_rfl) (by kernel_rfl) (by kernel_rfl) (fun _ _ _ h => h) (Or.inl ⟨by rfl, ?_⟩) qS ?_
      rotate_left
      · intro w hSw
        (try dsimp only at hSw)
        go_simp
        all_goals with_reducible rfl
      simp only [Act.put, List.setIfInBounds_toArray, List.set_cons_zero, List.set_cons_succ]
      refine wpAnyH_take (i := 2) (oi := { dst := some 46, op := Op.move (.tmp 5), type := 3, pos := "frame.go:191", after := #[], guard := none }) (v := ?_) rfl (by kernel_rfl) (by kernel_rfl) (by kernel_rfl) (fun _ _ _ h => h) (Or.inl ⟨by rfl, ?_⟩) qS ?_
      rotate_left
      · intro w hSw
        (try dsimp only at hSw)
        go_simp
        all_goals with_reducible rfl
      simp only [Act.put, List.setIfInBounds_toArray, List.set_cons_zero, List.set_cons_succ]
      refine wpAnyH_take (i := 5) (oi := { dst := some 49, op := Op.move (.tmp 6), type := 85, pos := "frame.go:191", after := #[], guard := none }) (v := ?_) rfl (by kernel_rfl) (by kernel_rfl) (by kernel_rfl) (fun _ _ _ h => h) (Or.inl ⟨by rfl, ?_⟩) qS ?_
      rotate_left
      · intro w hSw
        (try dsimp only at hSw)
        go_simp
        all_goals with_reducible rfl
      simp only [Act.put, List.setIfInBounds_toArray, List.set_cons_zero, List.set_cons_succ]
      refine wpAnyH_take (i := 6) (oi := { dst := some 50, op := Op.nilCheck (.tmp 49), type := 0, pos := "frame.go:191", after := #[{ on := 5, ground := .data }], guard := none }) (v := ?_) rfl (by kernel_rfl) (by kernel_rfl) (by kernel_rfl) (fun _ _ _ h => h) (Or.inl ⟨by rfl, ?_⟩) qS ?_
      rotate_left
      · intro w hSw
        (try dsimp only at hSw)
        go_simp
        all_goals with_reducible rfl
      simp only [Act.put, List.setIfInBounds_toArray, List.set_cons_zero, List.set_cons_succ]
      refine wpAnyH_take (i := 7) (oi := { dst := some 51, op := Op.load 3 (.tmp 50), type := 3, pos := "frame.go:191", after := #[{ on := 6, ground := .data }], guard := none }) (v := ?_) rfl (by kernel_rfl) (by kernel_rfl) (by kernel_rfl) (fun _ _ _ h => h) (Or.inl ⟨by rfl, ?_⟩) qS ?_
      rotate_left
      · intro w hSw
        (try dsimp only at hSw)
        go_simp
        all_goals with_reducible rfl
      simp only [Act.put, List.setIfInBounds_toArray, List.set_cons_zero, List.set_cons_succ]
      refine H_one (i := 1) (o := { dst := some 45, op := Op.call { callee := Callee.value (.func 39), args := #[.tmp 44], argTypes := #[70] }, type := 83, pos := "frame.go:191", after := #[{ on := 0, ground := .data }], guard := none }) (by kernel_rfl) rfl (fun K hK => ?_)
      go_simp
      go_at_call 39
      refine (fr_numbers rb2 q.kind _ qS.2).mono ?_
      rintro e w2 ⟨ao2, rfl, hB2, hP2⟩
      obtain ⟨nb2, rfl, hn1, hn2, hp2⟩ := hP2 k o HO.out.1
      have pS2 : RefG wr w2 rb2 ∧ w2.cell? ⟨rb2, 2, none⟩ = some (.int .i64 q.kind) := ⟨qS.1.trans (RefG.of_below hB2), (hB2.cell (p := ⟨rb2, 2, none⟩) (by have := XR.out.1.lt; show rb2 < wr.heap.size; omega)).trans qS.2⟩
      have p2' : ∀ w' : World, RefG w2 w' rb2 → w'.cell? ⟨nb2, k, none⟩ = some (.pointer (some ⟨rb2, o, none⟩)) := fun w' hg => (hg.cell (a := ⟨nb2, k, none⟩) hn2 (by have hn1' : wr.heap.size ≤ nb2 := hn1; have := XR.out.1.lt; show nb2 ≠ rb2; omega)).trans hp2
      have TB : Hid (PlAt w w2 q sb rb1 rb2 (putAt ((reqZ0.cells.toList.set 0 (.int .i64 q.kind)).set 1 (.string q.key)) ((numOffs q.kind).take k) (us1.take k)) ∧ RefG V1 w2 rb2) := Lib.hid (PlAt.both XR.out.1 XR.out.2 (below_drew_in hB2))
      obtain ⟨ux, hux⟩ := TB.out.1.some2 o HO.out.2.2
      have hfx := TB.out.1.f2 o
      rw [show (numOffs q.kind).length = m1 from HM1.out.2.2.1]
      clear hB2 hP2 hp2 hn1 hn2
      go_simp
      refine hK.out _ _ pS2 ?_
      clear hK K
      (try simp only [Act.put, List.setIfInBounds_toArray, List.set_cons_zero, List.set_cons_succ])
      refine H_weaken (S2 := fun w' => (RefG wr w' rb2 ∧ w'.cell? ⟨rb2, 2, none⟩ = some (.int .i64 q.kind)) ∧ RefG w2 w' rb2) (fun w h => h.1) _ _ _ _ ?_
      replace qS := (⟨pS2, RefG.refl _ _⟩ : (RefG wr w2 rb2 ∧ w2.cell? ⟨rb2, 2, none⟩ = some (.int .i64 q.kind)) ∧ RefG w2 w2 rb2)
      refine wpAnyH_take (i := 3) (oi := { dst := some 47, op := Op.indexAddr 83 (.tmp 45) (.tmp 46), type := 0, pos := "frame.go:191", after := #[{ on := 1, ground := .data }, { on := 2, ground := .data }], guard := none }) (v := ?_) rfl (by kernel_rfl) (by kernel_rfl) (by kernel_rfl) (fun _ _ _ h => h) (Or.inl ⟨by rfl, ?_⟩) qS ?_
      rotate_left
      · intro w hSw
        (try dsimp only at hSw)
        go_simp
        all_goals with_reducible rfl
      simp only [Act.put, List.setIfInBounds_toArray, List.set_cons_zero, List.set_cons_succ]
      refine wpAnyH_take (i := 4) (oi := { dst := some 48, op := Op.load 85 (.tmp 47), type := 85, pos := "frame.go:191", after := #[{ on := 3, ground := .data }], guard := none }) (v := ?_) rfl (by kernel_rfl) (by kernel_rfl) (by kernel_rfl) (fun _ _ _ h => h) (Or.inl ⟨by rfl, ?_⟩) qS ?_
      rotate_left
      · intro w hSw
        (try dsimp only at hSw)
        go_simp
        all_goals with_reducible rfl
      simp only [Act.put, List.setIfInBounds_toArray, List.set_cons_zero, List.set_cons_succ]
      refine wpAnyH_take (i := 8) (oi := { dst := some 52, op := Op.nilCheck (.tmp 48), type := 0, pos := "frame.go:191", after := #[{ on := 4, ground := .data }, { on := 0, ground := .phase }, { on := 1, ground := .phase }, { on := 2, ground := .phase }, { on := 3, ground := .phase }, { on := 4, ground := .phase }, { on := 5, ground := .phase }, { on := 6, ground := .phase }, { on := 7, ground := .phase }], guard := none }) (v := ?_) rfl (by kernel_rfl) (by kernel_rfl) (by kernel_rfl) (fun _ _ _ h => h) (Or.inl ⟨by rfl, ?_⟩) qS ?_
      rotate_left
      · intro w hSw
        (try dsimp only at hSw)
        go_simp
        all_goals with_reducible rfl
      simp only [Act.put, List.setIfInBounds_toArray, List.set_cons_zero, List.set_cons_succ]
      refine H_one (i := 9) (o := { dst := none, op := Op.store 3 (.tmp 52) (.tmp 51), type := 0, pos := "frame.go:191", after := #[{ on := 8, ground := .data }, { on := 7, ground := .data }, { on := 1, ground := .chain }, { on := 0, ground := .phase }, { on := 1, ground := .phase }, { on := 2, ground := .phase }, { on := 3, ground := .phase }, { on := 4, ground := .phase }, { on := 5, ground := .phase }, { on := 6, ground := .phase }, { on := 7, ground := .phase }], guard := none }) (by kernel_rfl) rfl (fun K hK => ?_)
      go_simp
      (try go_simp)
      refine hK.out _ _ ⟨⟨qS.1.1.trans (RefS.set _ _ _ _).grow, (cell_set_ne (fun e => by cases e; exact ho2 rfl)).trans qS.1.2⟩, qS.2.trans (RefS.set _ _ _ _).grow⟩ ?_
      clear hK K
      (try simp only [Act.put, List.setIfInBounds_toArray, List.set_cons_zero, List.set_cons_succ])
      have qS2 := qS
      clear qS
      have qS := qS2
      clear qS2
      refine wpAnyH_done (by kernel_rfl) ?_ _
      have TF : Hid (PlAt w (w2.setCell ⟨rb2, o, none⟩ (Value.int .i64 x)) q sb rb1 rb2 (putAt ((reqZ0.cells.toList.set 0 (.int .i64 q.kind)).set 1 (.string q.key)) ((numOffs q.kind).take (k + 1)) (us1.take (k + 1))) ∧ RefG V1 (w2.setCell ⟨rb2, o, none⟩ (Value.int .i64 x)) rb2) := Lib.hid (by
        rw [HST.out]
        exact ⟨TB.out.1.set o _ (by have := HO.out.2; omega) HO.out.2.2, TB.out.2.trans (RefS.set _ _ _ _).grow⟩)
      clear c1' hux hfx c2 qS p2'
      generalize w2.setCell ⟨rb2, o, none⟩ (Value.int .i64 x) = w3 at *
      go_wp2
      go_roundg g
      case measure => omega
      case rel => exact ⟨k + 1, by have := HKG.out; omega, by first | rfl | go_num, TF.out.1, TF.out.2⟩
end Go.Proofs.Ytehkgcmdndehaaa
namespace Go.Proofs.Ytehkgcmdndehaaa
set_option linter.unusedSimpArgs false
set_option linter.unusedVariables false
open Go.RowKit

theorem ite_ok {c : Prop} [Decidable c] (a b : Bool) (w : World) : (if c then (Result.ok (Value.bool a) w : Result Value) else .ok (.bool b) w) = .ok (.bool (if c then a else b)) w := by split <;> rfl
def eqP (x y : PlanD) : Bool :=
  if x.name.toList = y.name.toList then if x.version = y.version then if x.allowance = y.allowance then if x.kind = y.kind then if x.anchor = y.anchor then if x.days = y.days then if x.cap = y.cap then if x.mode = y.mode then if x.burst = y.burst then if x.rate = y.rate then true else false else false else false else false else false else false else false else false else false else false
def eqR (x y : ReqD) : Bool :=
  if x.kind = y.kind then if x.key.toList = y.key.toList then if x.id = y.id then if x.n = y.n then if x.ttl = y.ttl then if x.of = y.of then if x.name.toList = y.name.toList then if x.secret.toList = y.secret.toList then eqP x.plan y.plan else false else false else false else false else false else false else false else false
set_option maxRecDepth 100000 in
theorem eql_req (x y : ReqD) (w : World) : (binOp .eql 25 (.agg x.cells) (.agg y.cells)).run Try.prog w = .ok (.bool (eqR x y)) w := by
  unfold ReqD.cells
  go_simp
  simp only [ite_ok]
  rfl
set_option maxRecDepth 100000 in
theorem eql_plan (x y : PlanD) (w : World) : (binOp .eql 23 (.agg x.cells) (.agg y.cells)).run Try.prog w = .ok (.bool (eqP x y)) w := by
  unfold PlanD.cells
  go_simp
  simp only [ite_ok]
  rfl
/-- A request with nothing but what its bytes name. -/
def plainQ (q : ReqD) : ReqD :=
  if kindB q.kind = true then
    ⟨q.kind, q.key, if q.kind = 1 ∨ q.kind = 2 ∨ q.kind = 3 ∨ q.kind = 4 then q.id else 0, if q.kind = 1 ∨ q.kind = 2 ∨ q.kind = 4 ∨ q.kind = 19 ∨ q.kind = 20 then q.n else 0, if q.kind = 1 ∨ q.kind = 4 then q.ttl else 0, if q.kind = 2 ∨ q.kind = 3 then q.of else 0,
      if q.kind = 17 ∨ q.kind = 18 ∨ q.kind = 20 then q.name else ⟨#[]⟩, if q.kind = 17 then q.secret else ⟨#[]⟩,
      if q.kind = 16 then q.plan else if q.kind = 17 ∨ q.kind = 18 then { plan0 with name := q.plan.name, version := q.plan.version } else plan0⟩
  else { reqZ0 with kind := q.kind }
theorem kind_ten {k : Int} (h : kindB k = true) : k = 1 ∨ k = 2 ∨ k = 3 ∨ k = 4 ∨ k = 5 ∨ k = 16 ∨ k = 17 ∨ k = 18 ∨ k = 19 ∨ k = 20 := by simp [kindB] at h; omega
theorem plainC_eq (q : ReqD) : plainC q = (plainQ q).cells.toList := by
  cases hk : kindB q.kind with
  | false => unfold plainC plainQ; rw [if_neg (by rw [hk]; decide), if_neg (by rw [hk]; decide)]; rfl
  | true =>
    obtain ⟨k, key, id, n, ttl, of, name, secret, plan⟩ := q
    rcases kind_ten hk with rfl | rfl | rfl | rfl | rfl | rfl | rfl | rfl | rfl | rfl <;> rfl
/-- Are two requests the same? -/
def sameB (a b : ReqD) : Bool :=
  if a.kind = b.kind then
    if kindB a.kind = true then
      if a.key.toList = b.key.toList then
        if a.kind = 1 ∨ a.kind = 4 then (if a.id = b.id then if a.n = b.n then if a.ttl = b.ttl then true else false else false else false)
        else if a.kind = 2 then (if a.id = b.id then if a.of = b.of then if a.n = b.n then true else false else false else false)
        else if a.kind = 3 then (if a.id = b.id then if a.of = b.of then true else false else false)
        else if a.kind = 16 then eqP a.plan b.plan
        else if a.kind = 17 then (if a.name.toList = b.name.toList then if a.secret.toList = b.secret.toList then if a.plan.name.toList = b.plan.name.toList then if a.plan.version = b.plan.version then true else false else false else false else false)
        else if a.kind = 18 then (if a.name.toList = b.name.toList then if a.plan.name.toList = b.plan.name.toList then if a.plan.version = b.plan.version then true else false else false else false)
        else if a.kind = 19 then (if a.n = b.n then true else false)
        else if a.kind = 20 then (if a.name.toList = b.name.toList then if a.n = b.n then true else false else false)
        else true
      else false
    else true
  else false
theorem same_eq (a b : ReqD) : eqR (plainQ a) (plainQ b) = sameB a b := by
  by_cases hab : a.kind = b.kind
  · cases hk : kindB a.kind with
    | false =>
      have hk2 : kindB b.kind = false := by rw [← hab]; exact hk
      unfold sameB plainQ
      rw [if_neg (by rw [hk]; decide), if_neg (by rw [hk2]; decide), if_pos hab, if_neg (by rw [hk]; decide)]
      simp [eqR, eqP, hab]
    | true =>
      obtain ⟨k, key, id, n, ttl, of, name, secret, plan⟩ := a
      obtain ⟨k2, key2, id2, n2, ttl2, of2, name2, secret2, plan2⟩ := b
      simp only at hab hk
      subst hab
      rcases kind_ten hk with rfl | rfl | rfl | rfl | rfl | rfl | rfl | rfl | rfl | rfl <;> first
        | (simp [eqR, eqP, sameB, plainQ, kindB, plan0]; done)
        | (simp [eqR, eqP, sameB, plainQ, kindB, plan0]; rw [Bool.and_comm (decide (n = n2))])
  · have h1 : (plainQ a).kind = a.kind := by unfold plainQ; split <;> rfl
    have h2 : (plainQ b).kind = b.kind := by unfold plainQ; split <;> rfl
    unfold sameB eqR
    rw [h1, h2, if_neg hab, if_neg hab]
theorem fr_plain (q : ReqD) (w : World) : Calls Try.prog 62 #[.agg q.cells] w fun e w' => e = .returned (.agg (plainQ q).cells) ∧ Below w.heap.size w w' := by
  have h : Calls Try.prog 62 #[.agg q.cells] w (PlainPost w q) := by
    cases hk : kindB q.kind with
    | false => exact fr_plain_no q w hk
    | true => exact fr_plain_yes q w hk
  refine h.mono fun e w' h => ?_
  obtain ⟨he, hB⟩ := h
  rw [plainC_eq] at he
  exact ⟨he, hB⟩
theorem ld_req (ρ : Operand → Value) (dst : Option Tmp) (x : Operand) (t : TypeId) (pos : String) (after : Array Edge) (guard : Option (Nat × Bool)) (w : World) (h : okPtr 18 (ρ x) w = true) :
    (execOp ρ { dst, op := .load 25 x, type := t, pos, after, guard }).run Try.prog w = .ok (.value (.agg (ptrRow 18 (ρ x) w))) w :=
  run_ex_load ρ dst x t pos after guard w _ 18 _ Try.underlying25 rfl (by kernel_rfl) h
/-- A block's cells that read as a request, in a world beyond. -/
theorem rq_row {w0 w' : World} {b : Nat} {q : ReqD} (h : w0.heap[b]? = some (.cells q.cells 25 (0, 0))) (hB : Below w0.heap.size w0 w') : isRow w' b 0 18 = true ∧ rowOf w' b 0 18 = q.cells := by
  have hb : b < w0.heap.size := (Array.getElem?_eq_some_iff.1 h).1
  have hr : w'.rangeAt b 0 q.cells.toList := fun j u hj => by
    rw [Nat.zero_add]
    refine (hB.cell (p := ⟨b, j, none⟩) hb).trans ?_
    rw [cell_of_row _ _ _ _ _ _ h]; simpa using hj
  exact ⟨isRow_range (cs := q.cells) hr, rowOf_range (cs := q.cells) hr⟩

section
attribute [local go_sem ↓] ld_req
set_option maxHeartbeats 1600000 in
set_option maxRecDepth 100000 in
theorem fr_same (a b : ReqD) (w : World) : Calls Try.prog 31 #[.agg a.cells, .agg b.cells] w fun e w' => e = .returned (.bool (sameB a b)) ∧ Below w.heap.size w w' := by
  have hS := same_eq a b
  have HS := Lib.hid hS
  clear hS
  go_enter Try.func31, Try.ntmps31
  go_upto_region 1 with (fail)
  have hA : ((w.alloc (.cells a.cells 25)).alloc (.cells b.cells 25)).heap[w.heap.size]? = some (.cells a.cells 25 (0, 0)) := ((below_alloc _ _).block _ (by simp)).trans (heap_alloc_new _ _)
  have hBb : ((w.alloc (.cells a.cells 25)).alloc (.cells b.cells 25)).heap[w.heap.size + 1]? = some (.cells b.cells 25 (0, 0)) := by
    have := heap_alloc_new (w.alloc (.cells a.cells 25)) (.cells b.cells 25)
    simpa using this
  have hBW := below_alloc2 w (.cells a.cells 25) (.cells b.cells 25)
  generalize (w.alloc (.cells a.cells 25)).alloc (.cells b.cells 25) = W at *
  have BW := Lib.hid hBW
  clear hBW
  have l2 : ∀ w', Below W.heap.size W w' → isRow w' w.heap.size 0 18 = true := fun w' hB => (rq_row hA hB).1
  have m2 : ∀ w', Below W.heap.size W w' → rowOf w' w.heap.size 0 18 = a.cells := fun w' hB => (rq_row hA hB).2
  have l3 : ∀ w', Below W.heap.size W w' → isRow w' (w.heap.size + 1) 0 18 = true := fun w' hB => (rq_row hBb hB).1
  have m3 : ∀ w', Below W.heap.size W w' → rowOf w' (w.heap.size + 1) 0 18 = b.cells := fun w' hB => (rq_row hBb hB).2
  have ea : ∀ (x y : ReqD) (w' : World), (binOp .eql 25 (.agg x.cells) (.agg y.cells)).run Try.prog w' = .ok (.bool (eqR x y)) w' := eql_req
  clear hA hBb
  refine wp_region_held_drew (S := fun w' => Below W.heap.size W w') (by kernel_rfl) (Below.refl _ _).drew (fun hHeld => ?_)
  have qS := hHeld
  clear hHeld
  refine wpAnyH_take (i := 0) (oi := { dst := some 5, op := Op.load 25 (.tmp 2), type := 25, pos := "frame.go:206", after := #[], guard := none }) (v := ?_) rfl (by kernel_rfl) (by kernel_rfl) (by kernel_rfl) (fun _ _ _ h => h) (Or.inl ⟨by rfl, ?_⟩) qS ?_
  rotate_left
  · intro w hSw
    (try dsimp only at hSw)
    go_simp
    all_goals with_reducible rfl
  simp only [Act.put, List.setIfInBounds_toArray, List.set_cons_zero, List.set_cons_succ]
  refine wpAnyH_take (i := 2) (oi := { dst := some 7, op := Op.load 25 (.tmp 3), type := 25, pos := "frame.go:206", after := #[], guard := none }) (v := ?_) rfl (by kernel_rfl) (by kernel_rfl) (by kernel_rfl) (fun _ _ _ h => h) (Or.inl ⟨by rfl, ?_⟩) qS ?_
  rotate_left
  · intro w hSw
    (try dsimp only at hSw)
    go_simp
    all_goals with_reducible rfl
  simp only [Act.put, List.setIfInBounds_toArray, List.set_cons_zero, List.set_cons_succ]
  refine H_one (i := 1) (o := { dst := some 6, op := Op.call { callee := Callee.value (.func 62), args := #[.tmp 5], argTypes := #[25] }, type := 25, pos := "frame.go:206", after := #[{ on := 0, ground := .data }], guard := none }) (by kernel_rfl) rfl (fun K hK => ?_)
  go_simp
  go_at_call 62
  refine (fr_plain a _).mono ?_
  rintro e wA ⟨rfl, hB⟩
  have pvwA : Below W.heap.size W wA := qS.trans (hB.mono qS.size)
  clear hB
  go_simp
  refine hK.out _ _ pvwA ?_
  clear hK K
  (try simp only [Act.put, List.setIfInBounds_toArray, List.set_cons_zero, List.set_cons_succ])
  replace qS := pvwA
  refine H_one (i := 3) (o := { dst := some 8, op := Op.call { callee := Callee.value (.func 62), args := #[.tmp 7], argTypes := #[25] }, type := 25, pos := "frame.go:206", after := #[{ on := 2, ground := .data }, { on := 1, ground := .chain }], guard := none }) (by kernel_rfl) rfl (fun K hK => ?_)
  go_simp
  go_at_call 62
  refine (fr_plain b _).mono ?_
  rintro e wB ⟨rfl, hB⟩
  have pvwB : Below W.heap.size W wB := qS.trans (hB.mono qS.size)
  clear hB
  go_simp
  refine hK.out _ _ pvwB ?_
  clear hK K
  (try simp only [Act.put, List.setIfInBounds_toArray, List.set_cons_zero, List.set_cons_succ])
  replace qS := pvwB
  refine wpAnyH_take (i := 4) (oi := { dst := some 9, op := Op.binOp BinOp.eql 25 (.tmp 6) (.tmp 8) 25, type := 4, pos := "frame.go:206", after := #[{ on := 1, ground := .data }, { on := 3, ground := .data }], guard := none }) (v := ?_) rfl (by kernel_rfl) (by kernel_rfl) (by kernel_rfl) (fun _ _ _ h => h) (Or.inl ⟨by rfl, ?_⟩) qS ?_
  rotate_left
  · intro w hSw
    (try dsimp only at hSw)
    go_simp
    all_goals with_reducible rfl
  simp only [Act.put, List.setIfInBounds_toArray, List.set_cons_zero, List.set_cons_succ]
  refine wpAnyH_take (i := 5) (oi := { dst := some 4, op := Op.assign (.tmp 9), type := 4, pos := "frame.go:206", after := #[{ on := 4, ground := .data }, { on := 3, ground := .chain }, { on := 0, ground := .phase }, { on := 1, ground := .phase }, { on := 2, ground := .phase }, { on := 3, ground := .phase }, { on := 4, ground := .phase }], guard := none }) (v := ?_) rfl (by kernel_rfl) (by kernel_rfl) (by kernel_rfl) (fun _ _ _ h => h) (Or.inl ⟨by rfl, ?_⟩) qS ?_
  rotate_left
  · intro w hSw
    (try dsimp only at hSw)
    go_simp
    all_goals with_reducible rfl
  simp only [Act.put, List.setIfInBounds_toArray, List.set_cons_zero, List.set_cons_succ]
  refine wpAnyH_done (by kernel_rfl) ?_ _
  have FIN : Hid (Below w.heap.size w wB) := Lib.hid (BW.out.trans (qS.mono BW.out.size))
  clear l2 m2 l3 m3 ea qS
  go_wp2
  go_ret
  exact ⟨ret_bool HS.out, FIN.out⟩
end
set_option maxHeartbeats 1600000 in
set_option maxRecDepth 100000 in
theorem rs_1 (a b : ReqD) (w : World) (hk : a.kind = 1) (hb : b.kind = 1) (hkey : a.key.toList = b.key.toList) :
    Calls Try.prog 32 #[.agg a.cells, .agg b.cells] w fun e w' => e = .returned (.bool (sameB a b)) ∧ Below w.heap.size w w' := by
  have a0 : a.cells[0]? = some (.int .i64 1) := by rw [← hk]; rfl
  have b0 : b.cells[0]? = some (.int .i64 1) := by rw [← hb]; rfl
  have a1 : a.cells[1]? = some (.string a.key) := rfl
  have b1 : b.cells[1]? = some (.string b.key) := rfl
  have a2 : a.cells[2]? = some (.int .i64 a.id) := rfl
  have b2 : b.cells[2]? = some (.int .i64 b.id) := rfl
  have a3 : a.cells[3]? = some (.int .i64 a.n) := rfl
  have b3 : b.cells[3]? = some (.int .i64 b.n) := rfl
  have a4 : a.cells[4]? = some (.int .i64 a.ttl) := rfl
  have b4 : b.cells[4]? = some (.int .i64 b.ttl) := rfl
  have HSB : Hid (sameB a b = (if a.id = b.id then (if a.n = b.n then (if a.ttl = b.ttl then true else false) else false) else false)) := Lib.hid (by unfold sameB; rw [hk, hb, if_pos rfl, if_pos (by decide), if_pos hkey]; rfl)
  clear hk hb
  go_enter Try.func32, Try.ntmps32
  by_cases t2 : a.id = b.id
  · have T2 := Lib.hid t2
    by_cases t3 : a.n = b.n
    · have T3 := Lib.hid t3
      by_cases t4 : a.ttl = b.ttl
      · have T4 := Lib.hid t4
        go_wp2_with (go_at_call 53; refine (ref_kind 1 _).mono ?_; rintro e w' ⟨rfl, rfl⟩; rw [show kindB 1 = true by decide])
        go_ret
        exact ⟨ret_bool (by first | (rw [HSB.out]; done) | (rw [HSB.out]; simp_all)), below_alloc2 _ _ _⟩
      · have T4 := Lib.hid t4
        go_wp2_with (go_at_call 53; refine (ref_kind 1 _).mono ?_; rintro e w' ⟨rfl, rfl⟩; rw [show kindB 1 = true by decide])
        go_ret
        exact ⟨ret_bool (by first | (rw [HSB.out]; done) | (rw [HSB.out]; simp_all)), below_alloc2 _ _ _⟩
    · have T3 := Lib.hid t3
      go_wp2_with (go_at_call 53; refine (ref_kind 1 _).mono ?_; rintro e w' ⟨rfl, rfl⟩; rw [show kindB 1 = true by decide])
      go_ret
      exact ⟨ret_bool (by first | (rw [HSB.out]; done) | (rw [HSB.out]; simp_all)), below_alloc2 _ _ _⟩
  · have T2 := Lib.hid t2
    go_wp2_with (go_at_call 53; refine (ref_kind 1 _).mono ?_; rintro e w' ⟨rfl, rfl⟩; rw [show kindB 1 = true by decide])
    go_ret
    exact ⟨ret_bool (by first | (rw [HSB.out]; done) | (rw [HSB.out]; simp_all)), below_alloc2 _ _ _⟩
set_option maxHeartbeats 1600000 in
set_option maxRecDepth 100000 in
theorem rs_2 (a b : ReqD) (w : World) (hk : a.kind = 2) (hb : b.kind = 2) (hkey : a.key.toList = b.key.toList) :
    Calls Try.prog 32 #[.agg a.cells, .agg b.cells] w fun e w' => e = .returned (.bool (sameB a b)) ∧ Below w.heap.size w w' := by
  have a0 : a.cells[0]? = some (.int .i64 2) := by rw [← hk]; rfl
  have b0 : b.cells[0]? = some (.int .i64 2) := by rw [← hb]; rfl
  have a1 : a.cells[1]? = some (.string a.key) := rfl
  have b1 : b.cells[1]? = some (.string b.key) := rfl
  have a2 : a.cells[2]? = some (.int .i64 a.id) := rfl
  have b2 : b.cells[2]? = some (.int .i64 b.id) := rfl
  have a5 : a.cells[5]? = some (.int .i64 a.of) := rfl
  have b5 : b.cells[5]? = some (.int .i64 b.of) := rfl
  have a3 : a.cells[3]? = some (.int .i64 a.n) := rfl
  have b3 : b.cells[3]? = some (.int .i64 b.n) := rfl
  have HSB : Hid (sameB a b = (if a.id = b.id then (if a.of = b.of then (if a.n = b.n then true else false) else false) else false)) := Lib.hid (by unfold sameB; rw [hk, hb, if_pos rfl, if_pos (by decide), if_pos hkey]; rfl)
  clear hk hb
  go_enter Try.func32, Try.ntmps32
  by_cases t2 : a.id = b.id
  · have T2 := Lib.hid t2
    by_cases t5 : a.of = b.of
    · have T5 := Lib.hid t5
      by_cases t3 : a.n = b.n
      · have T3 := Lib.hid t3
        go_wp2_with (go_at_call 53; refine (ref_kind 2 _).mono ?_; rintro e w' ⟨rfl, rfl⟩; rw [show kindB 2 = true by decide])
        go_ret
        exact ⟨ret_bool (by first | (rw [HSB.out]; done) | (rw [HSB.out]; simp_all)), below_alloc2 _ _ _⟩
      · have T3 := Lib.hid t3
        go_wp2_with (go_at_call 53; refine (ref_kind 2 _).mono ?_; rintro e w' ⟨rfl, rfl⟩; rw [show kindB 2 = true by decide])
        go_ret
        exact ⟨ret_bool (by first | (rw [HSB.out]; done) | (rw [HSB.out]; simp_all)), below_alloc2 _ _ _⟩
    · have T5 := Lib.hid t5
      go_wp2_with (go_at_call 53; refine (ref_kind 2 _).mono ?_; rintro e w' ⟨rfl, rfl⟩; rw [show kindB 2 = true by decide])
      go_ret
      exact ⟨ret_bool (by first | (rw [HSB.out]; done) | (rw [HSB.out]; simp_all)), below_alloc2 _ _ _⟩
  · have T2 := Lib.hid t2
    go_wp2_with (go_at_call 53; refine (ref_kind 2 _).mono ?_; rintro e w' ⟨rfl, rfl⟩; rw [show kindB 2 = true by decide])
    go_ret
    exact ⟨ret_bool (by first | (rw [HSB.out]; done) | (rw [HSB.out]; simp_all)), below_alloc2 _ _ _⟩
set_option maxHeartbeats 1600000 in
set_option maxRecDepth 100000 in
theorem rs_3 (a b : ReqD) (w : World) (hk : a.kind = 3) (hb : b.kind = 3) (hkey : a.key.toList = b.key.toList) :
    Calls Try.prog 32 #[.agg a.cells, .agg b.cells] w fun e w' => e = .returned (.bool (sameB a b)) ∧ Below w.heap.size w w' := by
  have a0 : a.cells[0]? = some (.int .i64 3) := by rw [← hk]; rfl
  have b0 : b.cells[0]? = some (.int .i64 3) := by rw [← hb]; rfl
  have a1 : a.cells[1]? = some (.string a.key) := rfl
  have b1 : b.cells[1]? = some (.string b.key) := rfl
  have a2 : a.cells[2]? = some (.int .i64 a.id) := rfl
  have b2 : b.cells[2]? = some (.int .i64 b.id) := rfl
  have a5 : a.cells[5]? = some (.int .i64 a.of) := rfl
  have b5 : b.cells[5]? = some (.int .i64 b.of) := rfl
  have HSB : Hid (sameB a b = (if a.id = b.id then (if a.of = b.of then true else false) else false)) := Lib.hid (by unfold sameB; rw [hk, hb, if_pos rfl, if_pos (by decide), if_pos hkey]; rfl)
  clear hk hb
  go_enter Try.func32, Try.ntmps32
  by_cases t2 : a.id = b.id
  · have T2 := Lib.hid t2
    by_cases t5 : a.of = b.of
    · have T5 := Lib.hid t5
      go_wp2_with (go_at_call 53; refine (ref_kind 3 _).mono ?_; rintro e w' ⟨rfl, rfl⟩; rw [show kindB 3 = true by decide])
      go_ret
      exact ⟨ret_bool (by first | (rw [HSB.out]; done) | (rw [HSB.out]; simp_all)), below_alloc2 _ _ _⟩
    · have T5 := Lib.hid t5
      go_wp2_with (go_at_call 53; refine (ref_kind 3 _).mono ?_; rintro e w' ⟨rfl, rfl⟩; rw [show kindB 3 = true by decide])
      go_ret
      exact ⟨ret_bool (by first | (rw [HSB.out]; done) | (rw [HSB.out]; simp_all)), below_alloc2 _ _ _⟩
  · have T2 := Lib.hid t2
    go_wp2_with (go_at_call 53; refine (ref_kind 3 _).mono ?_; rintro e w' ⟨rfl, rfl⟩; rw [show kindB 3 = true by decide])
    go_ret
    exact ⟨ret_bool (by first | (rw [HSB.out]; done) | (rw [HSB.out]; simp_all)), below_alloc2 _ _ _⟩
set_option maxHeartbeats 1600000 in
set_option maxRecDepth 100000 in
theorem rs_4 (a b : ReqD) (w : World) (hk : a.kind = 4) (hb : b.kind = 4) (hkey : a.key.toList = b.key.toList) :
    Calls Try.prog 32 #[.agg a.cells, .agg b.cells] w fun e w' => e = .returned (.bool (sameB a b)) ∧ Below w.heap.size w w' := by
  have a0 : a.cells[0]? = some (.int .i64 4) := by rw [← hk]; rfl
  have b0 : b.cells[0]? = some (.int .i64 4) := by rw [← hb]; rfl
  have a1 : a.cells[1]? = some (.string a.key) := rfl
  have b1 : b.cells[1]? = some (.string b.key) := rfl
  have a2 : a.cells[2]? = some (.int .i64 a.id) := rfl
  have b2 : b.cells[2]? = some (.int .i64 b.id) := rfl
  have a3 : a.cells[3]? = some (.int .i64 a.n) := rfl
  have b3 : b.cells[3]? = some (.int .i64 b.n) := rfl
  have a4 : a.cells[4]? = some (.int .i64 a.ttl) := rfl
  have b4 : b.cells[4]? = some (.int .i64 b.ttl) := rfl
  have HSB : Hid (sameB a b = (if a.id = b.id then (if a.n = b.n then (if a.ttl = b.ttl then true else false) else false) else false)) := Lib.hid (by unfold sameB; rw [hk, hb, if_pos rfl, if_pos (by decide), if_pos hkey]; rfl)
  clear hk hb
  go_enter Try.func32, Try.ntmps32
  by_cases t2 : a.id = b.id
  · have T2 := Lib.hid t2
    by_cases t3 : a.n = b.n
    · have T3 := Lib.hid t3
      by_cases t4 : a.ttl = b.ttl
      · have T4 := Lib.hid t4
        go_wp2_with (go_at_call 53; refine (ref_kind 4 _).mono ?_; rintro e w' ⟨rfl, rfl⟩; rw [show kindB 4 = true by decide])
        go_ret
        exact ⟨ret_bool (by first | (rw [HSB.out]; done) | (rw [HSB.out]; simp_all)), below_alloc2 _ _ _⟩
      · have T4 := Lib.hid t4
        go_wp2_with (go_at_call 53; refine (ref_kind 4 _).mono ?_; rintro e w' ⟨rfl, rfl⟩; rw [show kindB 4 = true by decide])
        go_ret
        exact ⟨ret_bool (by first | (rw [HSB.out]; done) | (rw [HSB.out]; simp_all)), below_alloc2 _ _ _⟩
    · have T3 := Lib.hid t3
      go_wp2_with (go_at_call 53; refine (ref_kind 4 _).mono ?_; rintro e w' ⟨rfl, rfl⟩; rw [show kindB 4 = true by decide])
      go_ret
      exact ⟨ret_bool (by first | (rw [HSB.out]; done) | (rw [HSB.out]; simp_all)), below_alloc2 _ _ _⟩
  · have T2 := Lib.hid t2
    go_wp2_with (go_at_call 53; refine (ref_kind 4 _).mono ?_; rintro e w' ⟨rfl, rfl⟩; rw [show kindB 4 = true by decide])
    go_ret
    exact ⟨ret_bool (by first | (rw [HSB.out]; done) | (rw [HSB.out]; simp_all)), below_alloc2 _ _ _⟩
set_option maxHeartbeats 1600000 in
set_option maxRecDepth 100000 in
theorem rs_5 (a b : ReqD) (w : World) (hk : a.kind = 5) (hb : b.kind = 5) (hkey : a.key.toList = b.key.toList) :
    Calls Try.prog 32 #[.agg a.cells, .agg b.cells] w fun e w' => e = .returned (.bool (sameB a b)) ∧ Below w.heap.size w w' := by
  have a0 : a.cells[0]? = some (.int .i64 5) := by rw [← hk]; rfl
  have b0 : b.cells[0]? = some (.int .i64 5) := by rw [← hb]; rfl
  have a1 : a.cells[1]? = some (.string a.key) := rfl
  have b1 : b.cells[1]? = some (.string b.key) := rfl
  have HSB : Hid (sameB a b = true) := Lib.hid (by unfold sameB; rw [hk, hb, if_pos rfl, if_pos (by decide), if_pos hkey]; rfl)
  clear hk hb
  go_enter Try.func32, Try.ntmps32
  go_wp2_with (go_at_call 53; refine (ref_kind 5 _).mono ?_; rintro e w' ⟨rfl, rfl⟩; rw [show kindB 5 = true by decide])
  go_ret
  exact ⟨ret_bool (by first | (rw [HSB.out]; done) | (rw [HSB.out]; simp_all)), below_alloc2 _ _ _⟩
set_option maxHeartbeats 1600000 in
set_option maxRecDepth 100000 in
theorem rs_16 (a b : ReqD) (w : World) (hk : a.kind = 16) (hb : b.kind = 16) (hkey : a.key.toList = b.key.toList) :
    Calls Try.prog 32 #[.agg a.cells, .agg b.cells] w fun e w' => e = .returned (.bool (sameB a b)) ∧ Below w.heap.size w w' := by
  have a0 : a.cells[0]? = some (.int .i64 16) := by rw [← hk]; rfl
  have b0 : b.cells[0]? = some (.int .i64 16) := by rw [← hb]; rfl
  have a1 : a.cells[1]? = some (.string a.key) := rfl
  have b1 : b.cells[1]? = some (.string b.key) := rfl
  have HSB : Hid (sameB a b = eqP a.plan b.plan) := Lib.hid (by unfold sameB; rw [hk, hb, if_pos rfl, if_pos (by decide), if_pos hkey]; rfl)
  clear hk hb
  have ea : ∀ (x y : PlanD) (w' : World), (binOp .eql 23 (.agg x.cells) (.agg y.cells)).run Try.prog w' = .ok (.bool (eqP x y)) w' := eql_plan
  go_enter Try.func32, Try.ntmps32
  go_upto_region 1 with (fail)
  have hA : ((w.alloc (.cells a.cells 25)).alloc (.cells b.cells 25)).heap[w.heap.size]? = some (.cells a.cells 25 (0, 0)) := ((below_alloc _ _).block _ (by simp)).trans (heap_alloc_new _ _)
  have hBb : ((w.alloc (.cells a.cells 25)).alloc (.cells b.cells 25)).heap[w.heap.size + 1]? = some (.cells b.cells 25 (0, 0)) := by
    have := heap_alloc_new (w.alloc (.cells a.cells 25)) (.cells b.cells 25)
    simpa using this
  have RA : Hid (((w.alloc (.cells a.cells 25)).alloc (.cells b.cells 25)).rangeAt w.heap.size 8 a.plan.cells.toList) := Lib.hid (fun j u hj => by
    have e : a.cells.toList = [.int .i64 a.kind, .string a.key, .int .i64 a.id, .int .i64 a.n, .int .i64 a.ttl, .int .i64 a.of, .string a.name, .string a.secret] ++ a.plan.cells.toList := rfl
    rw [cell_of_row _ _ _ _ _ _ hA, ← Array.getElem?_toList, e, List.getElem?_append_right (by simp)]
    simpa using hj)
  have RB : Hid (((w.alloc (.cells a.cells 25)).alloc (.cells b.cells 25)).rangeAt (w.heap.size + 1) 8 b.plan.cells.toList) := Lib.hid (fun j u hj => by
    have e : b.cells.toList = [.int .i64 b.kind, .string b.key, .int .i64 b.id, .int .i64 b.n, .int .i64 b.ttl, .int .i64 b.of, .string b.name, .string b.secret] ++ b.plan.cells.toList := rfl
    rw [cell_of_row _ _ _ _ _ _ hBb, ← Array.getElem?_toList, e, List.getElem?_append_right (by simp)]
    simpa using hj)
  clear hA hBb
  go_upto_region 16 with (go_at_call 53; refine (ref_kind 16 _).mono ?_; rintro e w' ⟨rfl, rfl⟩; rw [show kindB 16 = true by decide])
  go_wp2_with (first
    | (refine wpList_load_mid rfl 23 (.tmp 80) rfl w.heap.size 8 rfl a.plan.cells.toList _ RA.out Try.underlying23 rfl (by kernel_rfl) ?_)
    | (refine wpList_load_mid rfl 23 (.tmp 82) rfl (w.heap.size + 1) 8 rfl b.plan.cells.toList _ RB.out Try.underlying23 rfl (by kernel_rfl) ?_))
  go_ret
  exact ⟨ret_bool HSB.out.symm, below_alloc2 _ _ _⟩
set_option maxHeartbeats 1600000 in
set_option maxRecDepth 100000 in
theorem rs_17 (a b : ReqD) (w : World) (hk : a.kind = 17) (hb : b.kind = 17) (hkey : a.key.toList = b.key.toList) :
    Calls Try.prog 32 #[.agg a.cells, .agg b.cells] w fun e w' => e = .returned (.bool (sameB a b)) ∧ Below w.heap.size w w' := by
  have a0 : a.cells[0]? = some (.int .i64 17) := by rw [← hk]; rfl
  have b0 : b.cells[0]? = some (.int .i64 17) := by rw [← hb]; rfl
  have a1 : a.cells[1]? = some (.string a.key) := rfl
  have b1 : b.cells[1]? = some (.string b.key) := rfl
  have a6 : a.cells[6]? = some (.string a.name) := rfl
  have b6 : b.cells[6]? = some (.string b.name) := rfl
  have a7 : a.cells[7]? = some (.string a.secret) := rfl
  have b7 : b.cells[7]? = some (.string b.secret) := rfl
  have a8 : a.cells[8]? = some (.string a.plan.name) := rfl
  have b8 : b.cells[8]? = some (.string b.plan.name) := rfl
  have a9 : a.cells[9]? = some (.int .i64 a.plan.version) := rfl
  have b9 : b.cells[9]? = some (.int .i64 b.plan.version) := rfl
  have HSB : Hid (sameB a b = (if a.name.toList = b.name.toList then (if a.secret.toList = b.secret.toList then (if a.plan.name.toList = b.plan.name.toList then (if a.plan.version = b.plan.version then true else false) else false) else false) else false)) := Lib.hid (by unfold sameB; rw [hk, hb, if_pos rfl, if_pos (by decide), if_pos hkey]; rfl)
  clear hk hb
  go_enter Try.func32, Try.ntmps32
  by_cases t6 : a.name.toList = b.name.toList
  · have T6 := Lib.hid t6
    by_cases t7 : a.secret.toList = b.secret.toList
    · have T7 := Lib.hid t7
      by_cases t8 : a.plan.name.toList = b.plan.name.toList
      · have T8 := Lib.hid t8
        by_cases t9 : a.plan.version = b.plan.version
        · have T9 := Lib.hid t9
          go_wp2_with (go_at_call 53; refine (ref_kind 17 _).mono ?_; rintro e w' ⟨rfl, rfl⟩; rw [show kindB 17 = true by decide])
          go_ret
          exact ⟨ret_bool (by first | (rw [HSB.out]; done) | (rw [HSB.out]; simp_all)), below_alloc2 _ _ _⟩
        · have T9 := Lib.hid t9
          go_wp2_with (go_at_call 53; refine (ref_kind 17 _).mono ?_; rintro e w' ⟨rfl, rfl⟩; rw [show kindB 17 = true by decide])
          go_ret
          exact ⟨ret_bool (by first | (rw [HSB.out]; done) | (rw [HSB.out]; simp_all)), below_alloc2 _ _ _⟩
      · have T8 := Lib.hid t8
        go_wp2_with (go_at_call 53; refine (ref_kind 17 _).mono ?_; rintro e w' ⟨rfl, rfl⟩; rw [show kindB 17 = true by decide])
        go_ret
        exact ⟨ret_bool (by first | (rw [HSB.out]; done) | (rw [HSB.out]; simp_all)), below_alloc2 _ _ _⟩
    · have T7 := Lib.hid t7
      go_wp2_with (go_at_call 53; refine (ref_kind 17 _).mono ?_; rintro e w' ⟨rfl, rfl⟩; rw [show kindB 17 = true by decide])
      go_ret
      exact ⟨ret_bool (by first | (rw [HSB.out]; done) | (rw [HSB.out]; simp_all)), below_alloc2 _ _ _⟩
  · have T6 := Lib.hid t6
    go_wp2_with (go_at_call 53; refine (ref_kind 17 _).mono ?_; rintro e w' ⟨rfl, rfl⟩; rw [show kindB 17 = true by decide])
    go_ret
    exact ⟨ret_bool (by first | (rw [HSB.out]; done) | (rw [HSB.out]; simp_all)), below_alloc2 _ _ _⟩
set_option maxHeartbeats 1600000 in
set_option maxRecDepth 100000 in
theorem rs_18 (a b : ReqD) (w : World) (hk : a.kind = 18) (hb : b.kind = 18) (hkey : a.key.toList = b.key.toList) :
    Calls Try.prog 32 #[.agg a.cells, .agg b.cells] w fun e w' => e = .returned (.bool (sameB a b)) ∧ Below w.heap.size w w' := by
  have a0 : a.cells[0]? = some (.int .i64 18) := by rw [← hk]; rfl
  have b0 : b.cells[0]? = some (.int .i64 18) := by rw [← hb]; rfl
  have a1 : a.cells[1]? = some (.string a.key) := rfl
  have b1 : b.cells[1]? = some (.string b.key) := rfl
  have a6 : a.cells[6]? = some (.string a.name) := rfl
  have b6 : b.cells[6]? = some (.string b.name) := rfl
  have a8 : a.cells[8]? = some (.string a.plan.name) := rfl
  have b8 : b.cells[8]? = some (.string b.plan.name) := rfl
  have a9 : a.cells[9]? = some (.int .i64 a.plan.version) := rfl
  have b9 : b.cells[9]? = some (.int .i64 b.plan.version) := rfl
  have HSB : Hid (sameB a b = (if a.name.toList = b.name.toList then (if a.plan.name.toList = b.plan.name.toList then (if a.plan.version = b.plan.version then true else false) else false) else false)) := Lib.hid (by unfold sameB; rw [hk, hb, if_pos rfl, if_pos (by decide), if_pos hkey]; rfl)
  clear hk hb
  go_enter Try.func32, Try.ntmps32
  by_cases t6 : a.name.toList = b.name.toList
  · have T6 := Lib.hid t6
    by_cases t8 : a.plan.name.toList = b.plan.name.toList
    · have T8 := Lib.hid t8
      by_cases t9 : a.plan.version = b.plan.version
      · have T9 := Lib.hid t9
        go_wp2_with (go_at_call 53; refine (ref_kind 18 _).mono ?_; rintro e w' ⟨rfl, rfl⟩; rw [show kindB 18 = true by decide])
        go_ret
        exact ⟨ret_bool (by first | (rw [HSB.out]; done) | (rw [HSB.out]; simp_all)), below_alloc2 _ _ _⟩
      · have T9 := Lib.hid t9
        go_wp2_with (go_at_call 53; refine (ref_kind 18 _).mono ?_; rintro e w' ⟨rfl, rfl⟩; rw [show kindB 18 = true by decide])
        go_ret
        exact ⟨ret_bool (by first | (rw [HSB.out]; done) | (rw [HSB.out]; simp_all)), below_alloc2 _ _ _⟩
    · have T8 := Lib.hid t8
      go_wp2_with (go_at_call 53; refine (ref_kind 18 _).mono ?_; rintro e w' ⟨rfl, rfl⟩; rw [show kindB 18 = true by decide])
      go_ret
      exact ⟨ret_bool (by first | (rw [HSB.out]; done) | (rw [HSB.out]; simp_all)), below_alloc2 _ _ _⟩
  · have T6 := Lib.hid t6
    go_wp2_with (go_at_call 53; refine (ref_kind 18 _).mono ?_; rintro e w' ⟨rfl, rfl⟩; rw [show kindB 18 = true by decide])
    go_ret
    exact ⟨ret_bool (by first | (rw [HSB.out]; done) | (rw [HSB.out]; simp_all)), below_alloc2 _ _ _⟩
set_option maxHeartbeats 1600000 in
set_option maxRecDepth 100000 in
theorem rs_19 (a b : ReqD) (w : World) (hk : a.kind = 19) (hb : b.kind = 19) (hkey : a.key.toList = b.key.toList) :
    Calls Try.prog 32 #[.agg a.cells, .agg b.cells] w fun e w' => e = .returned (.bool (sameB a b)) ∧ Below w.heap.size w w' := by
  have a0 : a.cells[0]? = some (.int .i64 19) := by rw [← hk]; rfl
  have b0 : b.cells[0]? = some (.int .i64 19) := by rw [← hb]; rfl
  have a1 : a.cells[1]? = some (.string a.key) := rfl
  have b1 : b.cells[1]? = some (.string b.key) := rfl
  have a3 : a.cells[3]? = some (.int .i64 a.n) := rfl
  have b3 : b.cells[3]? = some (.int .i64 b.n) := rfl
  have HSB : Hid (sameB a b = (if a.n = b.n then true else false)) := Lib.hid (by unfold sameB; rw [hk, hb, if_pos rfl, if_pos (by decide), if_pos hkey]; rfl)
  clear hk hb
  go_enter Try.func32, Try.ntmps32
  by_cases t3 : a.n = b.n
  · have T3 := Lib.hid t3
    go_wp2_with (go_at_call 53; refine (ref_kind 19 _).mono ?_; rintro e w' ⟨rfl, rfl⟩; rw [show kindB 19 = true by decide])
    go_ret
    exact ⟨ret_bool (by first | (rw [HSB.out]; done) | (rw [HSB.out]; simp_all)), below_alloc2 _ _ _⟩
  · have T3 := Lib.hid t3
    go_wp2_with (go_at_call 53; refine (ref_kind 19 _).mono ?_; rintro e w' ⟨rfl, rfl⟩; rw [show kindB 19 = true by decide])
    go_ret
    exact ⟨ret_bool (by first | (rw [HSB.out]; done) | (rw [HSB.out]; simp_all)), below_alloc2 _ _ _⟩
set_option maxHeartbeats 1600000 in
set_option maxRecDepth 100000 in
theorem rs_20 (a b : ReqD) (w : World) (hk : a.kind = 20) (hb : b.kind = 20) (hkey : a.key.toList = b.key.toList) :
    Calls Try.prog 32 #[.agg a.cells, .agg b.cells] w fun e w' => e = .returned (.bool (sameB a b)) ∧ Below w.heap.size w w' := by
  have a0 : a.cells[0]? = some (.int .i64 20) := by rw [← hk]; rfl
  have b0 : b.cells[0]? = some (.int .i64 20) := by rw [← hb]; rfl
  have a1 : a.cells[1]? = some (.string a.key) := rfl
  have b1 : b.cells[1]? = some (.string b.key) := rfl
  have a6 : a.cells[6]? = some (.string a.name) := rfl
  have b6 : b.cells[6]? = some (.string b.name) := rfl
  have a3 : a.cells[3]? = some (.int .i64 a.n) := rfl
  have b3 : b.cells[3]? = some (.int .i64 b.n) := rfl
  have HSB : Hid (sameB a b = (if a.name.toList = b.name.toList then (if a.n = b.n then true else false) else false)) := Lib.hid (by unfold sameB; rw [hk, hb, if_pos rfl, if_pos (by decide), if_pos hkey]; rfl)
  clear hk hb
  go_enter Try.func32, Try.ntmps32
  by_cases t6 : a.name.toList = b.name.toList
  · have T6 := Lib.hid t6
    by_cases t3 : a.n = b.n
    · have T3 := Lib.hid t3
      go_wp2_with (go_at_call 53; refine (ref_kind 20 _).mono ?_; rintro e w' ⟨rfl, rfl⟩; rw [show kindB 20 = true by decide])
      go_ret
      exact ⟨ret_bool (by first | (rw [HSB.out]; done) | (rw [HSB.out]; simp_all)), below_alloc2 _ _ _⟩
    · have T3 := Lib.hid t3
      go_wp2_with (go_at_call 53; refine (ref_kind 20 _).mono ?_; rintro e w' ⟨rfl, rfl⟩; rw [show kindB 20 = true by decide])
      go_ret
      exact ⟨ret_bool (by first | (rw [HSB.out]; done) | (rw [HSB.out]; simp_all)), below_alloc2 _ _ _⟩
  · have T6 := Lib.hid t6
    go_wp2_with (go_at_call 53; refine (ref_kind 20 _).mono ?_; rintro e w' ⟨rfl, rfl⟩; rw [show kindB 20 = true by decide])
    go_ret
    exact ⟨ret_bool (by first | (rw [HSB.out]; done) | (rw [HSB.out]; simp_all)), below_alloc2 _ _ _⟩
set_option maxHeartbeats 1600000 in
set_option maxRecDepth 100000 in
theorem rs_kinds (a b : ReqD) (w : World) (h : ¬ a.kind = b.kind) :
    Calls Try.prog 32 #[.agg a.cells, .agg b.cells] w fun e w' => e = .returned (.bool (sameB a b)) ∧ Below w.heap.size w w' := by
  have a0 : a.cells[0]? = some (.int .i64 a.kind) := rfl
  have b0 : b.cells[0]? = some (.int .i64 b.kind) := rfl
  have HSB : Hid (sameB a b = false) := Lib.hid (by unfold sameB; rw [if_neg h])
  go_enter Try.func32, Try.ntmps32
  go_wp2
  go_ret
  exact ⟨ret_bool HSB.out.symm, below_alloc2 _ _ _⟩
set_option maxHeartbeats 1600000 in
set_option maxRecDepth 100000 in
theorem rs_none (a b : ReqD) (w : World) (h : a.kind = b.kind) (hk : kindB a.kind = false) :
    Calls Try.prog 32 #[.agg a.cells, .agg b.cells] w fun e w' => e = .returned (.bool (sameB a b)) ∧ Below w.heap.size w w' := by
  have HSB : Hid (sameB a b = true) := Lib.hid (by unfold sameB; rw [if_pos h, if_neg (by rw [hk]; decide)])
  have a0 : a.cells[0]? = some (.int .i64 a.kind) := rfl
  have b0 : b.cells[0]? = some (.int .i64 a.kind) := by rw [h]; rfl
  have HK := Lib.hid hk
  clear h hk
  go_enter Try.func32, Try.ntmps32
  go_wp2_with (go_at_call 53; refine (ref_kind a.kind _).mono ?_; rintro e w' ⟨rfl, rfl⟩; rw [HK.out])
  go_ret
  exact ⟨ret_bool HSB.out.symm, below_alloc2 _ _ _⟩
set_option maxHeartbeats 1600000 in
set_option maxRecDepth 100000 in
theorem rs_key (a b : ReqD) (w : World) (h : a.kind = b.kind) (hk : kindB a.kind = true) (hkey : ¬ a.key.toList = b.key.toList) :
    Calls Try.prog 32 #[.agg a.cells, .agg b.cells] w fun e w' => e = .returned (.bool (sameB a b)) ∧ Below w.heap.size w w' := by
  have HSB : Hid (sameB a b = false) := Lib.hid (by unfold sameB; rw [if_pos h, if_pos hk, if_neg hkey])
  have a0 : a.cells[0]? = some (.int .i64 a.kind) := rfl
  have b0 : b.cells[0]? = some (.int .i64 a.kind) := by rw [h]; rfl
  have a1 : a.cells[1]? = some (.string a.key) := rfl
  have b1 : b.cells[1]? = some (.string b.key) := rfl
  have HK := Lib.hid hk
  have hk1 : (a.key.toList == b.key.toList) = false := by rw [beq_eq_false_iff_ne]; exact hkey
  have hk2 : (a.key.toList != b.key.toList) = true := by rw [bne, hk1]; rfl
  have hk3 : decide (a.key.toList = b.key.toList) = false := decide_eq_false hkey
  clear h hk
  go_enter Try.func32, Try.ntmps32
  go_wp2_with (go_at_call 53; refine (ref_kind a.kind _).mono ?_; rintro e w' ⟨rfl, rfl⟩; rw [HK.out])
  go_ret
  exact ⟨ret_bool HSB.out.symm, below_alloc2 _ _ _⟩
/-- SameRequest of the document. -/
theorem ref_same (a b : ReqD) (w : World) : Calls Try.prog 32 #[.agg a.cells, .agg b.cells] w fun e w' => e = .returned (.bool (sameB a b)) ∧ Below w.heap.size w w' := by
  by_cases h : a.kind = b.kind
  · cases hk : kindB a.kind with
    | false => exact rs_none a b w h hk
    | true =>
      by_cases hkey : a.key.toList = b.key.toList
      · rcases kind_ten hk with e | e | e | e | e | e | e | e | e | e
        · exact rs_1 a b w e (h.symm.trans e) hkey
        · exact rs_2 a b w e (h.symm.trans e) hkey
        · exact rs_3 a b w e (h.symm.trans e) hkey
        · exact rs_4 a b w e (h.symm.trans e) hkey
        · exact rs_5 a b w e (h.symm.trans e) hkey
        · exact rs_16 a b w e (h.symm.trans e) hkey
        · exact rs_17 a b w e (h.symm.trans e) hkey
        · exact rs_18 a b w e (h.symm.trans e) hkey
        · exact rs_19 a b w e (h.symm.trans e) hkey
        · exact rs_20 a b w e (h.symm.trans e) hkey
      · exact rs_key a b w h hk hkey
  · exact rs_kinds a b w h
end Go.Proofs.Ytehkgcmdndehaaa
