/- Part of the proof: merged texts. -/
import Derived.Test.YtehkgcmdndehaaaDoorGPRA05
import Derived.Test.YtehkgcmdndehaaaDoorGPRA09
import Derived.Test.YtehkgcmdndehaaaDoorChecked
import Derived.Test.YtehkgcmdndehaaaDoorGPRA02
namespace Go.Proofs.YtehkgcmdndehaaaDoor
set_option linter.unusedSimpArgs false
set_option linter.unusedVariables false
open Go.RowKit

theorem plan_num_cell (p : PlanD) (k : Nat) (n : Int) (h : p.nums[k]? = some n) : (p.nums.map (Value.int .i64))[k]? = some (.int .i64 n) := by simp [h]

set_option maxHeartbeats 1600000 in
set_option maxRecDepth 100000 in
theorem ref_wplan (base : Nat) (v : Value) (xs : List UInt8) (p : PlanD) (w : World) (hown : OwnB w base v xs) (hb : base ≤ w.heap.size) (hx : xs.length ≤ 100000) (hn : p.name.size ≤ 3000) :
    Calls Tryd.prog 14 #[v, .agg p.cells] w (GrewPost w base v (xs ++ encPlan p)) := by
  have HO := Lib.hid hown
  clear hown
  go_enter Tryd.func14, Tryd.ntmps14
  go_upto_region 1 with (fail)
  have hB0 := below_alloc w (.cells p.cells 26)
  have hblk := heap_alloc_new w (.cells p.cells 26)
  have hs0 : (w.alloc (.cells p.cells 26)).heap.size = w.heap.size + 1 := by simp
  generalize w.alloc (.cells p.cells 26) = W at *
  have HC : Hid (∀ o u, p.cells[o]? = some u → W.cell? ⟨w.heap.size, o, none⟩ = some u) := Lib.hid (fun o u h => by rw [cell_of_row W _ _ _ _ _ hblk]; exact h)
  have HOW := Lib.hid (HO.out.of_below hB0)
  have HS0 := Lib.hid hs0
  have HB0 := Lib.hid hB0
  have hv0 : Hid (v.ownBlock ≠ some w.heap.size) := Lib.hid (fun e => by have := (HO.out.lt _ e).2; omega)
  clear hblk hs0 hB0
  generalize hbb : w.heap.size = bb at *
  have HBB := Lib.hid hbb
  clear hbb
  have k0 : W.cell? ⟨bb, 0, none⟩ = some (.string p.name) := HC.out 0 _ rfl
  go_upto_region 2 with (go_at_call 32; refine (ref_wtext base v xs p.name W HOW.out (by have := HS0.out; omega) (fits_of _ (by omega))).mono ?_; rintro e w2 ⟨v1, rfl, ho1, hg1⟩)
  have hs2 := hg1.size
  have hcells : ∀ o u, p.cells[o]? = some u → w2.cell? ⟨bb, o, none⟩ = some u := fun o u h => (hg1.cell (a := ⟨bb, o, none⟩) (by show bb < W.heap.size; have := HS0.out; omega) hv0.out).trans (HC.out o u h)
  have k1 : w2.cell? ⟨bb, 1, none⟩ = some (.int .i64 p.version) := hcells 1 _ rfl
  have k2 : w2.cell? ⟨bb, 2, none⟩ = some (.int .i64 p.allowance) := hcells 2 _ rfl
  have k3 : w2.cell? ⟨bb, 3, none⟩ = some (.int .i64 p.kind) := hcells 3 _ rfl
  have k4 : w2.cell? ⟨bb, 4, none⟩ = some (.int .i64 p.anchor) := hcells 4 _ rfl
  have k5 : w2.cell? ⟨bb, 5, none⟩ = some (.int .i64 p.days) := hcells 5 _ rfl
  have k6 : w2.cell? ⟨bb, 6, none⟩ = some (.int .i64 p.cap) := hcells 6 _ rfl
  have k7 : w2.cell? ⟨bb, 7, none⟩ = some (.int .i64 p.mode) := hcells 7 _ rfl
  have k8 : w2.cell? ⟨bb, 8, none⟩ = some (.int .i64 p.burst) := hcells 8 _ rfl
  have k9 : w2.cell? ⟨bb, 9, none⟩ = some (.int .i64 p.rate) := hcells 9 _ rfl
  have G2 := Lib.hid (And.intro ho1 hg1)
  clear ho1 hg1 hcells k0 hs2
  go_upto_block 0 with (fail)
  clear k1 k2 k3 k4 k5 k6 k7 k8 k9
  change Code.wp _ _ _ _ (w2.alloc (.cells (p.nums.map (Value.int .i64)).toArray 3))
  have hB3 := below_alloc w2 (.cells (p.nums.map (Value.int .i64)).toArray 3)
  have hb3 := heap_alloc_new w2 (.cells (p.nums.map (Value.int .i64)).toArray 3)
  have hs3 : (w2.alloc (.cells (p.nums.map (Value.int .i64)).toArray 3)).heap.size = w2.heap.size + 1 := by simp
  generalize w2.alloc (.cells (p.nums.map (Value.int .i64)).toArray 3) = W3 at *
  have HN : Hid (∀ k n, p.nums[k]? = some n → W3.cell? ⟨w2.heap.size, k, none⟩ = some (.int .i64 n)) := Lib.hid (fun k n h => by rw [cell_of_row W3 _ _ _ _ _ hb3]; simp [h])
  have HS3 := Lib.hid hs3
  have HO3 := Lib.hid (G2.out.1.of_below hB3)
  have HB3 := Lib.hid hB3
  have hv1 : Hid (v1.ownBlock ≠ some w2.heap.size) := Lib.hid (fun e => by have := (G2.out.1.lt _ e).2; omega)
  clear hb3 hs3 hB3
  generalize hnb : w2.heap.size = nb at *
  have HNB := Lib.hid hnb
  clear hnb
  have hzl : (xs ++ encText p.name).length ≤ 110000 := by rw [List.length_append, encText_length]; omega
  generalize hzz : xs ++ encText p.name = z1 at *
  have HZ := Lib.hid hzz
  clear hzz
  have hnl : p.nums.length = 9 := rfl
  go_wp2
  go_loopg [0, 6] 9 (fun g s0 s6 wr => ∃ k : Nat, k + g = 9 ∧ s6 = .int .i64 k ∧ OwnB wr base s0 (z1 ++ encInts (p.nums.take k)) ∧ Grew W3 wr v1 s0)
  case atStart => exact ⟨0, by omega, rfl, by simpa [encInts] using HO3.out, Grew.refl _ _⟩
  case round =>
    obtain ⟨k, hkg, rfl, ho, hg⟩ := hrel
    have hsz := hg.size
    cases gk with
    | zero =>
      have hk : ¬ ((k : Int) < 9) := by omega
      have F : Hid (GrewPost w base v (xs ++ encPlan p) (.returned u0) wr) := Lib.hid (by
        refine ⟨u0, rfl, ?_, (((Grew.of_below (by rw [HBB.out]; exact HB0.out)).trans G2.out.2).trans (Grew.of_below (by rw [HNB.out]; exact HB3.out))).trans hg⟩
        rw [List.take_of_length_le (by omega), ← HZ.out] at ho
        rw [encPlan, ← List.append_assoc]
        exact ho)
      clear ho hg
      go_wp2
      go_ret
      exact F.out
    | succ g =>
      have hk : (k : Int) < 9 := by omega
      have hk9 : k < 9 := by omega
      obtain ⟨n, hn2⟩ : ∃ n, p.nums[k]? = some n := ⟨_, List.getElem?_eq_getElem (by omega)⟩
      have hcn : wr.cell? ⟨nb, k, none⟩ = some (.int .i64 n) := (hg.cell (a := ⟨nb, k, none⟩) (by show nb < W3.heap.size; have := HS3.out; omega) hv1.out).trans (HN.out k n hn2)
      have HT := Lib.hid (encInts_take p.nums k n hn2)
      have hlt := encInts_take_length p.nums k
      have hfit : Fits ((z1 ++ encInts (p.nums.take k)).length + 8) := fits_of _ (by rw [List.length_append]; omega)
      have hbw : base ≤ wr.heap.size := by have := HS3.out; have := HS0.out; have := G2.out.2.size; have := HNB.out; omega
      have HR := Lib.hid (And.intro ho hg)
      clear ho hg hn2
      go_wp2_with (go_at_call 33; refine (ref_int base u0 _ n wr HR.out.1 hbw hfit).mono ?_; rintro e w7 ⟨v7, rfl, ho7, hg7⟩; have X := Lib.hid (And.intro ho7 hg7); clear ho7 hg7)
      go_roundg g
      case measure => omega
      case rel =>
        refine ⟨k + 1, by omega, by first | rfl | go_num, ?_, HR.out.2.trans X.out.2⟩
        rw [HT.out, ← List.append_assoc]
        exact X.out.1
end Go.Proofs.YtehkgcmdndehaaaDoor

namespace Go.Proofs.YtehkgcmdndehaaaDoor
set_option linter.unusedSimpArgs false
set_option linter.unusedVariables false
open Go.ChangeShapes Go.WideShapes Go.RowKit

def PlanOk (q : PlanD) : Prop := q.name.size ≤ 140737488351232 ∧ (Lit.int .i64 q.version).wf = true ∧ (Lit.int .i64 q.allowance).wf = true ∧ (Lit.int .i64 q.kind).wf = true ∧ (Lit.int .i64 q.anchor).wf = true ∧ (Lit.int .i64 q.days).wf = true ∧ (Lit.int .i64 q.cap).wf = true ∧ (Lit.int .i64 q.mode).wf = true ∧ (Lit.int .i64 q.burst).wf = true ∧ (Lit.int .i64 q.rate).wf = true
def StmtOk (q : StmtD) : Prop := q.name.size ≤ 140737488351232 ∧ (Lit.int .i64 q.term).wf = true ∧ (Lit.int .i64 q.frm).wf = true ∧ (Lit.int .i64 q.till).wf = true ∧ (Lit.int .i64 q.granted).wf = true ∧ (Lit.int .i64 q.consumed).wf = true ∧ (Lit.int .i64 q.expired).wf = true ∧ (Lit.int .i64 q.rolled).wf = true ∧ (Lit.int .i64 q.over).wf = true

set_option maxRecDepth 100000 in
set_option maxHeartbeats 800000 in
theorem open_plan {H : Type} {enc : TypeId × Value → H} {w : World} {base : Nat} {spare : Nat → Bool} {held : Bool} {r : Reach} {b0 : Nat} {v : Value} {d : DataW H} {p : List MemPlace}
    (hv : Value.okWide Tryd.prog w r b0 26 v) (h : DataW.Trod enc Tryd.prog w base spare held 26 v d p) (hw : (d.weights Tryd.prog 26).all (· ≤ reachBytes) = true) :
    ∃ q, v = Value.agg (PlanD.cells q) ∧ PlanOk q := by
  obtain ⟨cs, rfl, hsz⟩ := okWide_struct Tryd.underlying26 hv
  obtain ⟨fuel, hf⟩ := h
  have hsz' : cs.size = 10 := hsz.trans (by kernel_rfl)
  obtain ⟨x0, h0, w0⟩ := leaf_string (m := 6) hf hw 0 9 (by kernel_rfl) Tryd.underlying9
  obtain ⟨x1, h1, w1⟩ := leaf_int (m := 6) hf hw 1 3 .i64 (by kernel_rfl) Tryd.underlying3
  obtain ⟨x2, h2, w2⟩ := leaf_int (m := 6) hf hw 2 3 .i64 (by kernel_rfl) Tryd.underlying3
  obtain ⟨x3, h3, w3⟩ := leaf_int (m := 6) hf hw 3 3 .i64 (by kernel_rfl) Tryd.underlying3
  obtain ⟨x4, h4, w4⟩ := leaf_int (m := 6) hf hw 4 3 .i64 (by kernel_rfl) Tryd.underlying3
  obtain ⟨x5, h5, w5⟩ := leaf_int (m := 6) hf hw 5 3 .i64 (by kernel_rfl) Tryd.underlying3
  obtain ⟨x6, h6, w6⟩ := leaf_int (m := 6) hf hw 6 3 .i64 (by kernel_rfl) Tryd.underlying3
  obtain ⟨x7, h7, w7⟩ := leaf_int (m := 6) hf hw 7 3 .i64 (by kernel_rfl) Tryd.underlying3
  obtain ⟨x8, h8, w8⟩ := leaf_int (m := 6) hf hw 8 3 .i64 (by kernel_rfl) Tryd.underlying3
  obtain ⟨x9, h9, w9⟩ := leaf_int (m := 6) hf hw 9 3 .i64 (by kernel_rfl) Tryd.underlying3
  simp only [Value.cells, Array.getElem?_toList] at h0 h1 h2 h3 h4 h5 h6 h7 h8 h9
  refine ⟨⟨x0, x1, x2, x3, x4, x5, x6, x7, x8, x9⟩, ?_, w0, w1, w2, w3, w4, w5, w6, w7, w8, w9⟩
  congr 1
  apply Array.ext_getElem?
  intro i
  match i with
  | 0 => rw [h0]; rfl
  | 1 => rw [h1]; rfl
  | 2 => rw [h2]; rfl
  | 3 => rw [h3]; rfl
  | 4 => rw [h4]; rfl
  | 5 => rw [h5]; rfl
  | 6 => rw [h6]; rfl
  | 7 => rw [h7]; rfl
  | 8 => rw [h8]; rfl
  | 9 => rw [h9]; rfl
  | i + 10 => rw [Array.getElem?_eq_none (by omega)]; rfl

set_option maxRecDepth 100000 in
set_option maxHeartbeats 800000 in
theorem open_stmt {H : Type} {enc : TypeId × Value → H} {w : World} {base : Nat} {spare : Nat → Bool} {held : Bool} {r : Reach} {b0 : Nat} {v : Value} {d : DataW H} {p : List MemPlace}
    (hv : Value.okWide Tryd.prog w r b0 28 v) (h : DataW.Trod enc Tryd.prog w base spare held 28 v d p) (hw : (d.weights Tryd.prog 28).all (· ≤ reachBytes) = true) :
    ∃ q, v = Value.agg (StmtD.cells q) ∧ StmtOk q := by
  obtain ⟨cs, rfl, hsz⟩ := okWide_struct Tryd.underlying28 hv
  obtain ⟨fuel, hf⟩ := h
  have hsz' : cs.size = 9 := hsz.trans (by kernel_rfl)
  obtain ⟨x0, h0, w0⟩ := leaf_string (m := 6) hf hw 0 9 (by kernel_rfl) Tryd.underlying9
  obtain ⟨x1, h1, w1⟩ := leaf_int (m := 6) hf hw 1 3 .i64 (by kernel_rfl) Tryd.underlying3
  obtain ⟨x2, h2, w2⟩ := leaf_int (m := 6) hf hw 2 3 .i64 (by kernel_rfl) Tryd.underlying3
  obtain ⟨x3, h3, w3⟩ := leaf_int (m := 6) hf hw 3 3 .i64 (by kernel_rfl) Tryd.underlying3
  obtain ⟨x4, h4, w4⟩ := leaf_int (m := 6) hf hw 4 3 .i64 (by kernel_rfl) Tryd.underlying3
  obtain ⟨x5, h5, w5⟩ := leaf_int (m := 6) hf hw 5 3 .i64 (by kernel_rfl) Tryd.underlying3
  obtain ⟨x6, h6, w6⟩ := leaf_int (m := 6) hf hw 6 3 .i64 (by kernel_rfl) Tryd.underlying3
  obtain ⟨x7, h7, w7⟩ := leaf_int (m := 6) hf hw 7 3 .i64 (by kernel_rfl) Tryd.underlying3
  obtain ⟨x8, h8, w8⟩ := leaf_int (m := 6) hf hw 8 3 .i64 (by kernel_rfl) Tryd.underlying3
  simp only [Value.cells, Array.getElem?_toList] at h0 h1 h2 h3 h4 h5 h6 h7 h8
  refine ⟨⟨x0, x1, x2, x3, x4, x5, x6, x7, x8⟩, ?_, w0, w1, w2, w3, w4, w5, w6, w7, w8⟩
  congr 1
  apply Array.ext_getElem?
  intro i
  match i with
  | 0 => rw [h0]; rfl
  | 1 => rw [h1]; rfl
  | 2 => rw [h2]; rfl
  | 3 => rw [h3]; rfl
  | 4 => rw [h4]; rfl
  | 5 => rw [h5]; rfl
  | 6 => rw [h6]; rfl
  | 7 => rw [h7]; rfl
  | 8 => rw [h8]; rfl
  | i + 9 => rw [Array.getElem?_eq_none (by omega)]; rfl

end Go.Proofs.YtehkgcmdndehaaaDoor

