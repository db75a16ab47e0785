import Derived.Test.YtehkgcmdndehaaaRefC
namespace Go.Proofs.Ytehkgcmdndehaaa
set_option linter.unusedSimpArgs false
set_option linter.unusedVariables false
open Go.RowKit

theorem bl_drewN {B : Nat} {w w' : World} (h : Below B w w') (n : Nat) : Below B w (w'.drewN n) := ⟨h.os, h.tape, h.output, h.size, h.block⟩

set_option maxHeartbeats 3200000 in
set_option maxRecDepth 100000 in
theorem ref_parse_ans (v : Value) (zs : List UInt8) (w : World) (h : Reads w v zs) (hl : zs.length ≤ 1000000) :
    Calls Try.prog 18 #[v] w (ParsePost w (parseAns zs)) := by
  obtain ⟨a1, c1, rfl⟩ := h.len
  have H := Lib.hid h
  clear h
  go_enter Try.func18, Try.ntmps18
  go_upto_region 2 with (fail)
  change Code.wp _ _ _ _ ((w.alloc (.cells ansZ.cells 38)).alloc (.cells #[.slice a1 zs.length c1, .int .i64 0, .int .i64 0] 96))
  have S : RefAt ((w.alloc (.cells ansZ.cells 38)).alloc (.cells #[.slice a1 zs.length c1, .int .i64 0, .int .i64 0] 96)) (w.heap.size + 1) (.slice a1 zs.length c1) zs ⟨zs, false⟩ := by
    have hrow := heap_alloc_new (w.alloc (.cells ansZ.cells 38)) (.cells #[.slice a1 zs.length c1, .int .i64 0, .int .i64 0] 96)
    rw [show (w.alloc (.cells ansZ.cells 38)).heap.size = w.heap.size + 1 by simp] at hrow
    refine ⟨by simp, hl, (cell_of_row _ _ _ _ _ _ hrow).trans rfl, ⟨0, Nat.zero_le _, (cell_of_row _ _ _ _ _ _ hrow).trans rfl, fun _ => rfl⟩, (cell_of_row _ _ _ _ _ _ hrow).trans rfl, fun o => frozen_of_row _ _ _ _ _ hrow, H.out.below (below_alloc2 _ _ _), fun e => ?_⟩
    have := H.out.own_lt _ e
    omega
  have hB := below_alloc2 w (.cells ansZ.cells 38) (.cells #[.slice a1 zs.length c1, .int .i64 0, .int .i64 0] 96)
  have res0 : ((w.alloc (.cells ansZ.cells 38)).alloc (.cells #[.slice a1 zs.length c1, .int .i64 0, .int .i64 0] 96)).heap[w.heap.size]? = some (.cells ansZ.cells 38 (0, 0)) :=
    ((below_alloc _ _).block _ (by simp)).trans (heap_alloc_new _ _)
  have hsz : ((w.alloc (.cells ansZ.cells 38)).alloc (.cells #[.slice a1 zs.length c1, .int .i64 0, .int .i64 0] 96)).heap.size = w.heap.size + 2 := by simp
  generalize (w.alloc (.cells ansZ.cells 38)).alloc (.cells #[.slice a1 zs.length c1, .int .i64 0, .int .i64 0] 96) = W1 at *
  have hsx : w.heap.size < w.heap.size + 1 := by omega
  have H1 := Lib.hid (And.intro S (And.intro hB (And.intro res0 hsz)))
  clear S hB res0 hsz
  go_upto_region 3 with (first | (go_at_call 48; refine (ref_rans _ _ zs W1 H1.out.1).mono ?_; rintro ee w3 ⟨a, n, er, rfl, k0, k1, k2, hn, hg, hp2, hp1⟩; have H3 := Lib.hid (And.intro k0 (And.intro k1 (And.intro k2 (And.intro hn (And.intro hg (And.intro hp2 hp1)))))); clear k0 k1 k2 hn hg hp2 hp1) | (refine wpList_store_row rfl 38 (.tmp 5) (.tmp 10) rfl w3.heap.size a.cells rfl rfl 38 ansZ.cells (heap_alloc_new _ _) (by kernel_rfl) rfl (ans_one_cells _) ?_))
  change Code.wp _ _ _ _ ((w3.alloc (.cells ansZ.cells 38)).setRow w3.heap.size a.cells)
  obtain ⟨k0, k1, k2, hn, hg, hp2, hp1⟩ := H3.out
  have hg3 := hg.size
  have h1s := H1.out.2.2.2
  have hal := below_alloc w3 (.cells ansZ.cells 38)
  have keepc : ∀ o, ((w3.alloc (.cells ansZ.cells 38)).setRow w3.heap.size a.cells).cell? ⟨w.heap.size + 1, o, none⟩ = w3.cell? ⟨w.heap.size + 1, o, none⟩ := fun o =>
    (cell_setRow_other _ _ _ ⟨w.heap.size + 1, o, none⟩ (by show w.heap.size + 1 ≠ w3.heap.size; omega)).trans (hal.cell (p := ⟨w.heap.size + 1, o, none⟩) (by show w.heap.size + 1 < w3.heap.size; omega))
  have c0 := (keepc 0).trans k0
  have c1' := (keepc 1).trans k1
  have c2 := (keepc 2).trans k2
  have res4 : ((w3.alloc (.cells ansZ.cells 38)).setRow w3.heap.size a.cells).heap[w.heap.size]? = some (.cells ansZ.cells 38 (0, 0)) :=
    (setRow_other _ _ _ _ (by omega)).trans ((hal.block _ (by omega)).trans ((hg.block _ (by omega) (by omega)).trans H1.out.2.2.1))
  have row4 : ((w3.alloc (.cells ansZ.cells 38)).setRow w3.heap.size a.cells).heap[w3.heap.size]? = some (.cells a.cells 38 (0, 0)) := setRow_heap _ _ _ _ _ _ (heap_alloc_new _ _)
  have B4 : Below w.heap.size w ((w3.alloc (.cells ansZ.cells 38)).setRow w3.heap.size a.cells) := by
    refine below_setRow (H1.out.2.1.trans (Below.trans ⟨hg.os, hg.tape, hg.output, hg.size, fun k hk => hg.block k (by omega) (by omega)⟩ (hal.mono (by omega)))) (by omega) _
  generalize (w3.alloc (.cells ansZ.cells 38)).setRow w3.heap.size a.cells = W4 at *
  have H4 := Lib.hid (And.intro c0 (And.intro c1' (And.intro c2 (And.intro res4 (And.intro row4 B4)))))
  have HP := Lib.hid (And.intro hn (And.intro hp2 hp1))
  generalize hxb : w.heap.size + 1 = xb at *
  generalize hab : w3.heap.size = ab at *
  generalize hsb : w.heap.size = sb at *
  have HSB := Lib.hid hsb
  clear c0 c1' c2 res4 row4 B4 keepc k0 k1 k2 hn hg hp2 hp1 hg3 h1s hal H3 hxb hab hsb H1
  generalize hp : parseAns zs = p at *
  generalize hev : (if er = 0 ∧ n < zs.length then (9 : Int) else er) = ev at *
  obtain ⟨pa, pe⟩ := p
  have hpe : pe = ev := HP.out.2.1
  have hpa : pa = (if pe = 0 then a else ansZ) := HP.out.2.2
  have HEV := Lib.hid hev
  clear hp hev
  subst hpe
  have hend : ∀ k, Calls Try.prog 49 #[.pointer (some ⟨xb, 0, none⟩)] (W4.drewN k) (DrewPost (W4.drewN k) (.int .i64 pe)) := fun k => by
    have := ref_end xb n zs.length a1 c1 er (W4.drewN k) hl HP.out.1 H4.out.1 H4.out.2.1 H4.out.2.2.1
    rw [HEV.out] at this
    exact this
  have HD := Lib.hid hend
  clear hend
  by_cases hz : pe = 0
  · rw [if_pos hz] at hpa
    subst hz hpa
    have HP0 : Hid (0 = 0) := Lib.hid rfl
    go_upto_region 5 with (go_at_call 49; refine (HD.out 0).mono ?_; rintro ee w5 ⟨rfl, k, rfl⟩)
    go_step
    refine wpList_load_row rfl 38 (.tmp 5) rfl ab rfl 38 pa.cells (0, 0) _ H4.out.2.2.2.2.1 Try.underlying38 rfl (by kernel_rfl) ?_
    refine wpList_store_row rfl 38 (.tmp 2) (.tmp 17) rfl sb pa.cells rfl rfl 38 ansZ.cells H4.out.2.2.2.1 (by kernel_rfl) rfl (ans_one_cells _) ?_
    go_wp2
    (try simp only [Exit.inBlock, Exit.then])
    refine bodyPost_ret (results_cell_row_tmp rfl _ _ sb rfl pa.cells.toList _ (range_setRow H4.out.2.2.2.1) Try.underlying38 rfl (by kernel_rfl)) rfl ?_
    exact ⟨rfl, by rw [HSB.out]; exact below_setRow (bl_drewN H4.out.2.2.2.2.2 _) (Nat.le_refl _) _⟩
  · rw [if_neg hz] at hpa
    subst hpa
    have hzb : (pe == 0) = false := by simp [hz]
    go_upto_region 4 with (go_at_call 49; refine (HD.out 0).mono ?_; rintro ee w5 ⟨rfl, k, rfl⟩)
    go_wp2_with (first | (go_at_call 49; refine (HD.out _).mono ?_; rintro ee w5 ⟨rfl, k, rfl⟩) | (refine wpList_store_row rfl 38 (.tmp 2) (.tmp 14) rfl sb ansZ.cells rfl rfl 38 ansZ.cells H4.out.2.2.2.1 (by kernel_rfl) rfl (ans_one_cells _) ?_))
    (try simp only [Exit.inBlock, Exit.then])
    refine bodyPost_ret (results_cell_row_tmp rfl _ _ sb rfl ansZ.cells.toList _ (range_setRow H4.out.2.2.2.1) Try.underlying38 rfl (by kernel_rfl)) rfl ?_
    exact ⟨rfl, by rw [HSB.out]; exact below_setRow (bl_drewN H4.out.2.2.2.2.2 _) (Nat.le_refl _) _⟩
end Go.Proofs.Ytehkgcmdndehaaa
