/- Part of the proof: merged texts. -/
import Derived.Test.YtehkgcmdndehaaaDoorGPRA09
import Derived.Test.YtehkgcmdndehaaaDoorGPRA05
import Derived.Test.YtehkgcmdndehaaaDoorGPRA02
import Derived.Test.YtehkgcmdndehaaaDoorGPRA03
import Derived.Deep.QuietTactic
import Derived.BigQuiet
namespace Go.Proofs.YtehkgcmdndehaaaDoor
set_option linter.unusedSimpArgs false
set_option linter.unusedVariables false
open Go.RowKit

/-- A plan out of all of some bytes, and what was wrong (0: nothing). -/
def plan0 : PlanD := ⟨⟨#[]⟩, 0, 0, 0, 0, 0, 0, 0, 0, 0⟩
def planEnd (r : Re) : Int := if r.err = 0 ∧ 0 < r.bs.length then 9 else r.err
def parsePlan (bs : List UInt8) : PlanD × Int :=
  let p := planRd ⟨bs, 0⟩
  if planEnd p.2 ≠ 0 then (plan0, planEnd p.2) else (p.1, 0)
attribute [local irreducible] planRd

theorem reads_own_lt {w : World} {v : Value} {zs : List UInt8} (h : Reads w v zs) : ∀ k, v.ownBlock = some k → k < w.heap.size := by
  intro k hk
  rcases h with ⟨rfl, _⟩ | ⟨b, off, cap, rfl, _, hb, _⟩
  · cases hk
  · simp [Value.ownBlock] at hk; omega
theorem zrec_size : 12 ≤ Tryd.zeroCells79.size := by rw [Tryd.zeroCells79_size]; decide

def RpPost (w : World) (bs : List UInt8) (e : Ending) (w' : World) : Prop :=
  ∃ rb, e = .returned (.tuple #[.pointer (some ⟨rb, 0, none⟩), .int .i64 (planEnd (planRd ⟨bs, 0⟩).2)]) ∧ w.heap.size ≤ rb ∧ rb < w'.heap.size ∧ w'.rangeAt rb 2 (planRd ⟨bs, 0⟩).1.cells.toList ∧ Below w.heap.size w w'

theorem rp_drewN {w w' : World} {bs : List UInt8} {e : Ending} (h : RpPost w bs e w') (n : Nat) : RpPost w bs e (w'.drewN n) := by
  obtain ⟨rb, h1, h2, h3, h4, h5⟩ := h
  exact ⟨rb, h1, h2, h3, h4, ⟨h5.os, h5.tape, h5.output, h5.size, h5.block⟩⟩
set_option maxHeartbeats 1600000 in
set_option maxRecDepth 100000 in
theorem rr_parse_plan (v : Value) (zs : List UInt8) (w : World) (h : Reads w v zs) (hl : zs.length ≤ 1000000) :
    Calls Tryd.prog 31 #[v, .int .i64 0] w (RpPost w zs) := by
  have H := Lib.hid h
  clear h
  have hfit : Fits zs.length := fits_of _ (by omega)
  go_enter Tryd.func31, Tryd.ntmps31
  go_upto_region 2 with (go_at_call 60; refine (clone_bytes v zs w H.out hfit).mono ?_; rintro e w1 ⟨v1, rfl, hr1, hv1, hB1⟩; obtain ⟨a1, c1, rfl⟩ := hr1.len; have X1 := Lib.hid (And.intro hr1 (And.intro hv1 hB1)); clear hr1 hv1 hB1)
  generalize hcs : (Tryd.zeroCells79.setIfInBounds 0 (.slice a1 zs.length c1)).setIfInBounds 1 (.int .i64 0) = cs
  have hsz : 12 ≤ cs.size := by rw [← hcs]; simp
  have h0 : cs[0]? = some (.slice a1 zs.length c1) := by
    rw [← hcs, Array.getElem?_setIfInBounds_ne (by decide), Array.getElem?_setIfInBounds_self_of_lt (by have := zrec_size; omega)]
  have h1 : cs[1]? = some (.int .i64 0) := by
    rw [← hcs, Array.getElem?_setIfInBounds_self_of_lt (by rw [Array.size_setIfInBounds]; have := zrec_size; omega)]
  clear hcs
  have hblk := heap_alloc_new w1 (.cells cs 79)
  have hBa := below_alloc w1 (.cells cs 79)
  have hsW : (w1.alloc (.cells cs 79)).heap.size = w1.heap.size + 1 := by simp
  generalize w1.alloc (.cells cs 79) = W at *
  generalize hrb : w1.heap.size = rb at *
  have HRB := Lib.hid hrb
  clear hrb
  have A0 : Hid (ReAt W rb (.slice a1 zs.length c1) ⟨zs, 0⟩) := Lib.hid
    ⟨(cell_of_row _ _ _ _ _ _ hblk).trans h0, (cell_of_row _ _ _ _ _ _ hblk).trans h1, frozen_of_row _ _ _ _ _ hblk, frozen_of_row _ _ _ _ _ hblk, X1.out.1.below (by rw [HRB.out]; exact hBa), fun e => by
      have := reads_own_lt X1.out.1 _ e
      have := HRB.out
      omega⟩
  have hth : W.there rb 2 10 := fun j hj => ⟨by rw [cell_of_row _ _ _ _ _ _ hblk, Array.getElem?_eq_getElem (by omega)]; rfl, frozen_of_row _ _ _ _ _ hblk⟩
  have T0 := Lib.hid (And.intro hth hsW)
  have BW : Hid (Below w.heap.size w W ∧ w.heap.size ≤ rb) := Lib.hid ⟨X1.out.2.2.trans (hBa.mono (by have := X1.out.2.2.size; have := HRB.out; omega)), by have := X1.out.2.2.size; have := HRB.out; omega⟩
  clear hblk hBa hsW hth h0 h1 hsz X1
  go_upto_region 3 with (go_at_call 61; refine (rr_read_plan rb _ ⟨zs, 0⟩ W A0.out (by have := T0.out.2; omega) hl T0.out.1).mono ?_; rintro e w2 ⟨v2, rfl, hat, hob, hrg, hm⟩; have X2 := Lib.hid (And.intro hat (And.intro hrg hm)); clear hat hob hrg hm)
  have hat := X2.out.1
  have c0 := hat.c0
  have c1' := hat.c1
  have f1 := hat.f1
  obtain ⟨a2, c2, hv2⟩ := hat.reads.len
  subst hv2
  have hlt2 : Hid (rb < w2.heap.size ∧ Below w.heap.size w w2) := Lib.hid ⟨by have := T0.out.2; have := X2.out.2.2.size; omega, BW.out.1.trans (X2.out.2.2.below BW.out.2 BW.out.1.size)⟩
  have HRG := Lib.hid X2.out.2.1
  have FIN0 : Hid (∀ (er : Int) (w' : World), planEnd (planRd ⟨zs, 0⟩).2 = er → Mods w2 w' rb (fun o => o = 1) → RpPost w zs (.returned (.tuple #[.pointer (some ⟨rb, 0, none⟩), .int .i64 er])) w') := Lib.hid (fun er w' he hm =>
    ⟨rb, by rw [he], BW.out.2, by have := hlt2.out.1; have := hm.size; omega, fun j u hj => (hm.row (2 + j) (by omega)).trans (HRG.out j u hj), hlt2.out.2.trans (hm.below BW.out.2 hlt2.out.2.size)⟩)
  unfold planEnd at FIN0
  generalize (planRd ⟨zs, 0⟩).2 = r2 at *
  clear hat X2 T0 A0
  by_cases he : r2.err = 0
  · have hb0 : (r2.err == 0) = true := by rw [he]; rfl
    by_cases hl2 : 0 < r2.bs.length
    · have hd : decide (0 < r2.bs.length) = true := decide_eq_true hl2
      have F := Lib.hid (FIN0.out 9 (w2.setCell ⟨rb, 1, none⟩ (.int .i64 9)) (if_pos ⟨he, hl2⟩) (Mods.of_setCell rfl))
      clear he FIN0
      go_wp2
      go_quiet (fail)
      go_wp2
      go_ret2
      exact rp_drewN F.out _
    · have hd : decide (0 < r2.bs.length) = false := decide_eq_false hl2
      have F := Lib.hid (FIN0.out r2.err w2 (if_neg (fun h => hl2 h.2)) (Mods.refl _ _ _))
      clear he FIN0
      go_wp2
      go_quiet (fail)
      go_wp2
      go_ret2
      exact rp_drewN F.out _
  · have hb0 : (r2.err == 0) = false := by simp [he]
    have F := Lib.hid (FIN0.out r2.err w2 (if_neg (fun h => he h.1)) (Mods.refl _ _ _))
    clear he FIN0
    go_wp2
    go_quiet (fail)
    go_wp2
    go_ret2
    exact rp_drewN F.out _

theorem parsePlan_eq (bs : List UInt8) : parsePlan bs = if planEnd (planRd ⟨bs, 0⟩).2 ≠ 0 then (plan0, planEnd (planRd ⟨bs, 0⟩).2) else ((planRd ⟨bs, 0⟩).1, 0) := rfl
def PpPost (w : World) (p : PlanD × Int) (e : Ending) (w' : World) : Prop := e = .returned (.tuple #[.agg p.1.cells, .int .i64 p.2]) ∧ Below w.heap.size w w'

set_option maxHeartbeats 1600000 in
set_option maxRecDepth 100000 in
theorem rr_parsePlan (v : Value) (zs : List UInt8) (w : World) (h : Reads w v zs) (hl : zs.length ≤ 1000000) :
    Calls Tryd.prog 12 #[v] w (PpPost w (parsePlan zs)) := by
  have H := Lib.hid h
  clear h
  go_enter Tryd.func12, Tryd.ntmps12
  go_upto_region 1 with (fail)
  change Code.wp _ _ _ _ (w.alloc (.cells plan0.cells 26))
  have hblk := heap_alloc_new w (.cells plan0.cells 26)
  have hBa := below_alloc w (.cells plan0.cells 26)
  have hsW : (w.alloc (.cells plan0.cells 26)).heap.size = w.heap.size + 1 := by simp
  generalize w.alloc (.cells plan0.cells 26) = W at *
  have X0 := Lib.hid (And.intro hblk (And.intro hBa (And.intro hsW (H.out.below hBa))))
  clear hblk hBa hsW
  generalize hsb : w.heap.size = sb at *
  have HSB := Lib.hid hsb
  clear hsb
  go_upto_region 2 with (go_at_call 31; refine (rr_parse_plan v zs W X0.out.2.2.2 hl).mono ?_; rintro e w1 ⟨rb, rfl, h1, h2, h3, h4⟩; have X1 := Lib.hid (And.intro h1 (And.intro h2 (And.intro h3 h4))); clear h1 h2 h3 h4)
  have res1 : Hid (w1.heap[sb]? = some (.cells plan0.cells 26 (0, 0)) ∧ Below sb w w1) := Lib.hid ⟨(X1.out.2.2.2.block sb (by have := X0.out.2.2.1; omega)).trans X0.out.1, X0.out.2.1.trans (X1.out.2.2.2.mono (by have := X0.out.2.2.1; omega))⟩
  have hpe := parsePlan_eq zs
  have HRG := Lib.hid X1.out.2.2.1
  generalize parsePlan zs = pp at *
  generalize planEnd (planRd ⟨zs, 0⟩).2 = er at *
  generalize (planRd ⟨zs, 0⟩).1 = pl at *
  clear X0 X1
  by_cases he : er = 0
  · have hb0 : (er != 0) = false := by simp [he]
    have hp : Hid (pp = (pl, 0)) := Lib.hid (by rw [hpe, if_neg (by simp [he])])
    clear hpe he
    go_upto_region 4 with (fail)
    go_wp2_with (first
      | (refine wpList_load_mid rfl 26 (.tmp 17) rfl rb 2 rfl pl.cells.toList _ HRG.out Tryd.underlying26 rfl (by kernel_rfl) ?_)
      | (refine wpList_store_row rfl 26 (.tmp 2) (.tmp 18) rfl sb pl.cells rfl rfl 26 plan0.cells res1.out.1 (by kernel_rfl) rfl (plan_one_cells _) ?_))
    (try simp only [Exit.inBlock, Exit.then])
    refine bodyPost_ret (res_cell_tmp rfl _ _ sb rfl pl.cells.toList _ (rng_setRow res1.out.1) Tryd.underlying26 rfl (by kernel_rfl)) rfl ?_
    exact ⟨by rw [hp.out]; rfl, by rw [HSB.out]; exact below_setRow res1.out.2 (Nat.le_refl _) _⟩
  · have hb0 : (er != 0) = true := by simp [he]
    have hp : Hid (pp = (plan0, er)) := Lib.hid (by rw [hpe, if_pos he])
    clear hpe he
    go_wp2_with (refine wpList_store_row rfl 26 (.tmp 2) (.tmp 13) rfl sb plan0.cells rfl rfl 26 plan0.cells res1.out.1 (by kernel_rfl) rfl (plan_one_cells _) ?_)
    (try simp only [Exit.inBlock, Exit.then])
    refine bodyPost_ret (res_cell_tmp rfl _ _ sb rfl plan0.cells.toList _ (rng_setRow res1.out.1) Tryd.underlying26 rfl (by kernel_rfl)) rfl ?_
    exact ⟨by rw [hp.out]; rfl, by rw [HSB.out]; exact below_setRow res1.out.2 (Nat.le_refl _) _⟩
end Go.Proofs.YtehkgcmdndehaaaDoor

namespace Go.Proofs.YtehkgcmdndehaaaDoor
set_option linter.unusedSimpArgs false
set_option linter.unusedVariables false
open Go.RowKit

def parseStmt (bs : List UInt8) : StmtD × Int :=
  let p := stmtRd ⟨bs, 0⟩
  if planEnd p.2 ≠ 0 then (stmtZ, planEnd p.2) else (p.1, 0)
attribute [local irreducible] stmtRd

def RsmPost (w : World) (bs : List UInt8) (e : Ending) (w' : World) : Prop :=
  ∃ rb, e = .returned (.tuple #[.pointer (some ⟨rb, 0, none⟩), .int .i64 (planEnd (stmtRd ⟨bs, 0⟩).2)]) ∧ w.heap.size ≤ rb ∧ rb < w'.heap.size ∧ w'.rangeAt rb 12 (stmtRd ⟨bs, 0⟩).1.cells.toList ∧ Below w.heap.size w w'

theorem rsm_drewN {w w' : World} {bs : List UInt8} {e : Ending} (h : RsmPost w bs e w') (n : Nat) : RsmPost w bs e (w'.drewN n) := by
  obtain ⟨rb, h1, h2, h3, h4, h5⟩ := h
  exact ⟨rb, h1, h2, h3, h4, ⟨h5.os, h5.tape, h5.output, h5.size, h5.block⟩⟩
set_option maxHeartbeats 1600000 in
set_option maxRecDepth 100000 in
theorem rr_parse_stmt (v : Value) (zs : List UInt8) (w : World) (h : Reads w v zs) (hl : zs.length ≤ 1000000) :
    Calls Tryd.prog 31 #[v, .int .i64 1] w (RsmPost w zs) := by
  have H := Lib.hid h
  clear h
  have hfit : Fits zs.length := fits_of _ (by omega)
  go_enter Tryd.func31, Tryd.ntmps31
  go_upto_region 2 with (go_at_call 60; refine (clone_bytes v zs w H.out hfit).mono ?_; rintro e w1 ⟨v1, rfl, hr1, hv1, hB1⟩; obtain ⟨a1, c1, rfl⟩ := hr1.len; have X1 := Lib.hid (And.intro hr1 (And.intro hv1 hB1)); clear hr1 hv1 hB1)
  generalize hcs : (Tryd.zeroCells79.setIfInBounds 0 (.slice a1 zs.length c1)).setIfInBounds 1 (.int .i64 0) = cs
  have hsz : 21 ≤ cs.size := by rw [← hcs]; simp
  have h0 : cs[0]? = some (.slice a1 zs.length c1) := by
    rw [← hcs, Array.getElem?_setIfInBounds_ne (by decide), Array.getElem?_setIfInBounds_self_of_lt (by have := zrec_size; omega)]
  have h1 : cs[1]? = some (.int .i64 0) := by
    rw [← hcs, Array.getElem?_setIfInBounds_self_of_lt (by rw [Array.size_setIfInBounds]; have := zrec_size; omega)]
  clear hcs
  have hblk := heap_alloc_new w1 (.cells cs 79)
  have hBa := below_alloc w1 (.cells cs 79)
  have hsW : (w1.alloc (.cells cs 79)).heap.size = w1.heap.size + 1 := by simp
  generalize w1.alloc (.cells cs 79) = W at *
  generalize hrb : w1.heap.size = rb at *
  have HRB := Lib.hid hrb
  clear hrb
  have A0 : Hid (ReAt W rb (.slice a1 zs.length c1) ⟨zs, 0⟩) := Lib.hid
    ⟨(cell_of_row _ _ _ _ _ _ hblk).trans h0, (cell_of_row _ _ _ _ _ _ hblk).trans h1, frozen_of_row _ _ _ _ _ hblk, frozen_of_row _ _ _ _ _ hblk, X1.out.1.below (by rw [HRB.out]; exact hBa), fun e => by
      have := reads_own_lt X1.out.1 _ e
      have := HRB.out
      omega⟩
  have hth : W.there rb 12 9 := fun j hj => ⟨by rw [cell_of_row _ _ _ _ _ _ hblk, Array.getElem?_eq_getElem (by omega)]; rfl, frozen_of_row _ _ _ _ _ hblk⟩
  have T0 := Lib.hid (And.intro hth hsW)
  have BW : Hid (Below w.heap.size w W ∧ w.heap.size ≤ rb) := Lib.hid ⟨X1.out.2.2.trans (hBa.mono (by have := X1.out.2.2.size; have := HRB.out; omega)), by have := X1.out.2.2.size; have := HRB.out; omega⟩
  clear hblk hBa hsW hth h0 h1 hsz X1
  go_upto_region 3 with (go_at_call 61; refine (rr_read_stmt rb _ ⟨zs, 0⟩ W A0.out (by have := T0.out.2; omega) hl T0.out.1).mono ?_; rintro e w2 ⟨v2, rfl, hat, hob, hrg, hm⟩; have X2 := Lib.hid (And.intro hat (And.intro hrg hm)); clear hat hob hrg hm)
  have hat := X2.out.1
  have c0 := hat.c0
  have c1' := hat.c1
  have f1 := hat.f1
  obtain ⟨a2, c2, hv2⟩ := hat.reads.len
  subst hv2
  have hlt2 : Hid (rb < w2.heap.size ∧ Below w.heap.size w w2) := Lib.hid ⟨by have := T0.out.2; have := X2.out.2.2.size; omega, BW.out.1.trans (X2.out.2.2.below BW.out.2 BW.out.1.size)⟩
  have HRG := Lib.hid X2.out.2.1
  have FIN0 : Hid (∀ (er : Int) (w' : World), planEnd (stmtRd ⟨zs, 0⟩).2 = er → Mods w2 w' rb (fun o => o = 1) → RsmPost w zs (.returned (.tuple #[.pointer (some ⟨rb, 0, none⟩), .int .i64 er])) w') := Lib.hid (fun er w' he hm =>
    ⟨rb, by rw [he], BW.out.2, by have := hlt2.out.1; have := hm.size; omega, fun j u hj => (hm.row (12 + j) (by omega)).trans (HRG.out j u hj), hlt2.out.2.trans (hm.below BW.out.2 hlt2.out.2.size)⟩)
  unfold planEnd at FIN0
  generalize (stmtRd ⟨zs, 0⟩).2 = r2 at *
  clear hat X2 T0 A0
  by_cases he : r2.err = 0
  · have hb0 : (r2.err == 0) = true := by rw [he]; rfl
    by_cases hl2 : 0 < r2.bs.length
    · have hd : decide (0 < r2.bs.length) = true := decide_eq_true hl2
      have F := Lib.hid (FIN0.out 9 (w2.setCell ⟨rb, 1, none⟩ (.int .i64 9)) (if_pos ⟨he, hl2⟩) (Mods.of_setCell rfl))
      clear he FIN0
      go_wp2
      go_quiet (fail)
      go_wp2
      go_ret2
      exact rsm_drewN F.out _
    · have hd : decide (0 < r2.bs.length) = false := decide_eq_false hl2
      have F := Lib.hid (FIN0.out r2.err w2 (if_neg (fun h => hl2 h.2)) (Mods.refl _ _ _))
      clear he FIN0
      go_wp2
      go_quiet (fail)
      go_wp2
      go_ret2
      exact rsm_drewN F.out _
  · have hb0 : (r2.err == 0) = false := by simp [he]
    have F := Lib.hid (FIN0.out r2.err w2 (if_neg (fun h => he h.1)) (Mods.refl _ _ _))
    clear he FIN0
    go_wp2
    go_quiet (fail)
    go_wp2
    go_ret2
    exact rsm_drewN F.out _

theorem parseStmt_eq (bs : List UInt8) : parseStmt bs = if planEnd (stmtRd ⟨bs, 0⟩).2 ≠ 0 then (stmtZ, planEnd (stmtRd ⟨bs, 0⟩).2) else ((stmtRd ⟨bs, 0⟩).1, 0) := rfl
def PsPost (w : World) (p : StmtD × Int) (e : Ending) (w' : World) : Prop := e = .returned (.tuple #[.agg p.1.cells, .int .i64 p.2]) ∧ Below w.heap.size w w'

set_option maxHeartbeats 1600000 in
set_option maxRecDepth 100000 in
theorem rr_parseStmt (v : Value) (zs : List UInt8) (w : World) (h : Reads w v zs) (hl : zs.length ≤ 1000000) :
    Calls Tryd.prog 13 #[v] w (PsPost w (parseStmt zs)) := by
  have H := Lib.hid h
  clear h
  go_enter Tryd.func13, Tryd.ntmps13
  go_upto_region 1 with (fail)
  change Code.wp _ _ _ _ (w.alloc (.cells stmtZ.cells 28))
  have hblk := heap_alloc_new w (.cells stmtZ.cells 28)
  have hBa := below_alloc w (.cells stmtZ.cells 28)
  have hsW : (w.alloc (.cells stmtZ.cells 28)).heap.size = w.heap.size + 1 := by simp
  generalize w.alloc (.cells stmtZ.cells 28) = W at *
  have X0 := Lib.hid (And.intro hblk (And.intro hBa (And.intro hsW (H.out.below hBa))))
  clear hblk hBa hsW
  generalize hsb : w.heap.size = sb at *
  have HSB := Lib.hid hsb
  clear hsb
  go_upto_region 2 with (go_at_call 31; refine (rr_parse_stmt v zs W X0.out.2.2.2 hl).mono ?_; rintro e w1 ⟨rb, rfl, h1, h2, h3, h4⟩; have X1 := Lib.hid (And.intro h1 (And.intro h2 (And.intro h3 h4))); clear h1 h2 h3 h4)
  have res1 : Hid (w1.heap[sb]? = some (.cells stmtZ.cells 28 (0, 0)) ∧ Below sb w w1) := Lib.hid ⟨(X1.out.2.2.2.block sb (by have := X0.out.2.2.1; omega)).trans X0.out.1, X0.out.2.1.trans (X1.out.2.2.2.mono (by have := X0.out.2.2.1; omega))⟩
  have hpe := parseStmt_eq zs
  have HRG := Lib.hid X1.out.2.2.1
  generalize parseStmt zs = pp at *
  generalize planEnd (stmtRd ⟨zs, 0⟩).2 = er at *
  generalize (stmtRd ⟨zs, 0⟩).1 = pl at *
  clear X0 X1
  by_cases he : er = 0
  · have hb0 : (er != 0) = false := by simp [he]
    have hp : Hid (pp = (pl, 0)) := Lib.hid (by rw [hpe, if_neg (by simp [he])])
    clear hpe he
    go_upto_region 4 with (fail)
    go_wp2_with (first
      | (refine wpList_load_mid rfl 28 (.tmp 17) rfl rb 12 rfl pl.cells.toList _ HRG.out Tryd.underlying28 rfl (by kernel_rfl) ?_)
      | (refine wpList_store_row rfl 28 (.tmp 2) (.tmp 18) rfl sb pl.cells rfl rfl 28 stmtZ.cells res1.out.1 (by kernel_rfl) rfl (stmt_one_cells _) ?_))
    (try simp only [Exit.inBlock, Exit.then])
    refine bodyPost_ret (res_cell_tmp rfl _ _ sb rfl pl.cells.toList _ (rng_setRow res1.out.1) Tryd.underlying28 rfl (by kernel_rfl)) rfl ?_
    exact ⟨by rw [hp.out]; rfl, by rw [HSB.out]; exact below_setRow res1.out.2 (Nat.le_refl _) _⟩
  · have hb0 : (er != 0) = true := by simp [he]
    have hp : Hid (pp = (stmtZ, er)) := Lib.hid (by rw [hpe, if_pos he])
    clear hpe he
    go_wp2_with (refine wpList_store_row rfl 28 (.tmp 2) (.tmp 13) rfl sb stmtZ.cells rfl rfl 28 stmtZ.cells res1.out.1 (by kernel_rfl) rfl (stmt_one_cells _) ?_)
    (try simp only [Exit.inBlock, Exit.then])
    refine bodyPost_ret (res_cell_tmp rfl _ _ sb rfl stmtZ.cells.toList _ (rng_setRow res1.out.1) Tryd.underlying28 rfl (by kernel_rfl)) rfl ?_
    exact ⟨by rw [hp.out]; rfl, by rw [HSB.out]; exact below_setRow res1.out.2 (Nat.le_refl _) _⟩
end Go.Proofs.YtehkgcmdndehaaaDoor

