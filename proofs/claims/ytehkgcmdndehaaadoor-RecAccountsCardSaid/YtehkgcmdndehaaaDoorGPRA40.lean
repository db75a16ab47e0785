/- Part of the proof: merged texts. -/
import Derived.Test.YtehkgcmdndehaaaDoorGPRA39
namespace Go.Proofs.YtehkgcmdndehaaaDoor
set_option linter.unusedSimpArgs false
set_option linter.unusedVariables false
open Go.RowKit

theorem rg_end {W : World} {xb : Nat} {bv : Value} {zs : List UInt8} {q : Re} (h : RefE W xb bv zs q) : Calls Tryd.prog 36 #[.pointer (some ⟨xb, 0, none⟩)] W (DrewPost W (.int .i64 (planEnd q))) := by
  obtain ⟨n, hn, c1, hd⟩ := h.c1
  obtain ⟨a0, k0, hb⟩ := h.reads.len
  have e : planEnd q = if q.err = 0 ∧ n < zs.length then 9 else q.err := by
    unfold planEnd
    by_cases he : q.err = 0
    · have hl : q.bs.length = zs.length - n := by rw [hd he, List.length_drop]
      rw [hl]
      by_cases h2 : n < zs.length
      · rw [if_pos ⟨he, by omega⟩, if_pos ⟨he, h2⟩]
      · rw [if_neg (by omega), if_neg (by omega)]
    · rw [if_neg (by simp [he]), if_neg (by simp [he])]
  rw [e]
  exact ref_end xb n zs.length a0 k0 q.err W h.len hn (by rw [← hb]; exact h.c0) c1 h.c2
theorem RefE.new {W : World} {a1 : Option Addr} {c1 : Nat} {zs : List UInt8} (h : Reads W (.slice a1 zs.length c1) zs) (hl : zs.length ≤ 1000000) : RefE (W.alloc (.cells #[.slice a1 zs.length c1, .int .i64 0, .int .i64 0] 90)) W.heap.size (.slice a1 zs.length c1) zs ⟨zs, 0⟩ := by
  have hn := heap_alloc_new W (.cells #[.slice a1 zs.length c1, .int .i64 0, .int .i64 0] 90)
  refine ⟨by simp, hl, cell_of_row _ _ _ _ _ _ hn, ⟨0, Nat.zero_le _, cell_of_row _ _ _ _ _ _ hn, fun _ => rfl⟩, cell_of_row _ _ _ _ _ _ hn, fun o => frozen_of_row _ _ _ _ _ hn, h.below (below_alloc _ _), fun e => ?_⟩
  have := reads_own_lt h _ e
  omega
theorem AccOut.below {w w' : World} {B : Nat} {a : AccD} {lv hv wv : Value} {hs : List (HoldD × Value)} (h : AccOut w B a lv hv wv hs) (m : Below w.heap.size w w') : AccOut w' B a lv hv wv hs :=
  ⟨Items.below h.lots m, h.holds.below m, h.heq, Items.below h.win m, h.nl, h.nh, h.nw, h.np⟩
attribute [local irreducible] accRd
set_option maxHeartbeats 1600000 in
set_option maxRecDepth 100000 in
theorem ref_parseAcc (v : Value) (zs : List UInt8) (w : World) (h : Reads w v zs) (hl : zs.length ≤ 1000000) :
    Calls Tryd.prog 21 #[v] w (PaPost w (parseAcc zs)) := by
  obtain ⟨a1, c1, rfl⟩ := h.len
  have H := Lib.hid h
  clear h
  go_enter Tryd.func21, Tryd.ntmps21
  go_upto_region 1 with (fail)
  change Code.wp _ _ _ _ (w.alloc (.cells accZc 45))
  have X0 : Hid (Blk (w.alloc (.cells accZc 45)) w.heap.size 45 accZc ∧ Below w.heap.size w (w.alloc (.cells accZc 45)) ∧ (w.alloc (.cells accZc 45)).heap.size = w.heap.size + 1 ∧ Reads (w.alloc (.cells accZc 45)) (.slice a1 zs.length c1) zs) := Lib.hid ⟨Blk.new _ _ _, below_alloc _ _, by simp, H.out.below (below_alloc _ _)⟩
  generalize w.alloc (.cells accZc 45) = W at *
  generalize hsb : w.heap.size = sb at *
  have HSB := Lib.hid hsb
  clear hsb
  go_upto_region 2 with (fail)
  have RN : Hid (RefE (W.alloc (.cells #[.slice a1 zs.length c1, .int .i64 0, .int .i64 0] 90)) W.heap.size (.slice a1 zs.length c1) zs ⟨zs, 0⟩ ∧ Below W.heap.size W (W.alloc (.cells #[.slice a1 zs.length c1, .int .i64 0, .int .i64 0] 90)) ∧ W.heap.size < (W.alloc (.cells #[.slice a1 zs.length c1, .int .i64 0, .int .i64 0] 90)).heap.size) := Lib.hid ⟨RefE.new X0.out.2.2.2 hl, below_alloc _ _, by simp⟩
  generalize W.alloc (.cells #[.slice a1 zs.length c1, .int .i64 0, .int .i64 0] 90) = WX at *
  have hxb : Hid (W.heap.size = sb + 1) := Lib.hid (by have := X0.out.2.2.1; omega)
  have B0 : Hid (Below sb w WX ∧ Blk WX sb 45 accZc) := Lib.hid ⟨X0.out.2.1.trans (RN.out.2.1.mono (by have := hxb.out; omega)), X0.out.1.below RN.out.2.1⟩
  generalize W.heap.size = xb at *
  clear X0
  have hpe := parseAcc_eq zs
  have HPE := Lib.hid hpe
  clear hpe
  go_upto_region 3 with (first
    | (go_at_call 35; go_must (refine (ref_racc6 xb _ zs ⟨zs, 0⟩ WX RN.out.1 (.inl rfl)).mono ?_); rintro e w1 ⟨lv, hv, wv, hs, rfl, ho, hr, hg⟩; have X1 := Lib.hid (And.intro ho (And.intro hr hg)); clear ho hr hg)
    | (refine wpList_store_row rfl 45 (.tmp 5) (.tmp 10) rfl w1.heap.size ((accRd ⟨zs, 0⟩).1.cells lv hv wv) rfl rfl 45 accZc (heap_alloc_new w1 (.cells accZc 45)) (by kernel_rfl) rfl (acc_one_cells _ (items_one X1.out.1.lots) (items_one X1.out.1.holds.1) (items_one X1.out.1.win)) ?_))
  generalize accRd ⟨zs, 0⟩ = ar at *
  obtain ⟨ac, q⟩ := ar
  simp only at X1 HPE ⊢
  change Code.wp _ _ _ _ ((w1.alloc (.cells accZc 45)).setRow w1.heap.size (ac.cells lv hv wv))
  have hB2 : Below w1.heap.size w1 ((w1.alloc (.cells accZc 45)).setRow w1.heap.size (ac.cells lv hv wv)) := below_setRow (below_alloc _ _) (Nat.le_refl _) _
  have X2 : Hid (RefE ((w1.alloc (.cells accZc 45)).setRow w1.heap.size (ac.cells lv hv wv)) xb (.slice a1 zs.length c1) zs q ∧ AccOut ((w1.alloc (.cells accZc 45)).setRow w1.heap.size (ac.cells lv hv wv)) WX.heap.size ac lv hv wv hs ∧ Blk ((w1.alloc (.cells accZc 45)).setRow w1.heap.size (ac.cells lv hv wv)) w1.heap.size 45 (ac.cells lv hv wv) ∧ Blk ((w1.alloc (.cells accZc 45)).setRow w1.heap.size (ac.cells lv hv wv)) sb 45 accZc
      ∧ Below sb w ((w1.alloc (.cells accZc 45)).setRow w1.heap.size (ac.cells lv hv wv)) ∧ sb < WX.heap.size) := Lib.hid ⟨X1.out.2.1.refs hB2, X1.out.1.below hB2, (Blk.new w1 45 accZc).setRow _, (B0.out.2.grow X1.out.2.2 (by have := hxb.out; omega)).below hB2, by
    have h1 := X1.out.2.2
    have h2 : Below sb w w1 := B0.out.1.trans ⟨h1.os, h1.tape, h1.output, h1.size, fun k hk => h1.block k (by have := B0.out.2.lt; omega) (by have := hxb.out; omega)⟩
    exact h2.trans (hB2.mono (by have := h2.size; have := HSB.out; omega)), B0.out.2.lt⟩
  generalize (w1.alloc (.cells accZc 45)).setRow w1.heap.size (ac.cells lv hv wv) = W2 at *
  generalize w1.heap.size = ab at *
  clear X1 hB2 RN B0
  generalize parseAcc zs = pp at *
  obtain ⟨er, her⟩ : ∃ x, x = planEnd q := ⟨_, rfl⟩
  have RE : Hid (∀ n, Calls Tryd.prog 36 #[.pointer (some ⟨xb, 0, none⟩)] (W2.drewN n) (DrewPost (W2.drewN n) (.int .i64 er))) := Lib.hid (fun n => by rw [her]; exact rg_end (X2.out.1.refs (⟨rfl, rfl, rfl, Nat.le_refl _, fun _ _ => rfl⟩ : Below W2.heap.size W2 (W2.drewN n))))
  rw [← her] at HPE
  clear her
  by_cases he : er = 0
  · have hb0 : (er != 0) = false := by simp [he]
    have hp : Hid (pp = (ac, 0)) := Lib.hid (by rw [HPE.out, if_neg (by simp [he])])
    clear HPE he
    go_upto_region 5 with (go_at_call 36; go_must (refine (RE.out 0).mono ?_); rintro e w3 ⟨rfl, n3, rfl⟩)
    generalize hW3 : W2.drewN n3 = W3 at *
    have X3 : Hid (AccOut W3 WX.heap.size ac lv hv wv hs ∧ Blk W3 ab 45 (ac.cells lv hv wv) ∧ Blk W3 sb 45 accZc ∧ Below sb w W3 ∧ sb < WX.heap.size) := Lib.hid (by
      rw [← hW3]
      have hB3 : Below W2.heap.size W2 (W2.drewN n3) := ⟨rfl, rfl, rfl, Nat.le_refl _, fun _ _ => rfl⟩
      exact ⟨X2.out.2.1.below hB3, X2.out.2.2.1, X2.out.2.2.2.1, X2.out.2.2.2.2.1.trans (hB3.mono (Nat.le_of_lt X2.out.2.2.2.1.lt)), X2.out.2.2.2.2.2⟩)
    clear hW3 X2 RE
    go_wp2_with (first
      | (refine wpList_load_row rfl 45 (.tmp 5) rfl ab rfl 45 (ac.cells lv hv wv) (0, 0) _ X3.out.2.1 Tryd.underlying45 (by kernel_rfl) (by kernel_rfl) ?_)
      | (refine wpList_store_row rfl 45 (.tmp 2) (.tmp 17) rfl sb (ac.cells lv hv wv) rfl rfl 45 accZc X3.out.2.2.1 (by kernel_rfl) rfl (acc_one_cells _ (items_one X3.out.1.lots) (items_one X3.out.1.holds.1) (items_one X3.out.1.win)) ?_))
    (try simp only [Exit.inBlock, Exit.then])
    refine bodyPost_ret (res_cell_tmp rfl _ _ sb rfl (ac.cells lv hv wv).toList _ (rng_setRow X3.out.2.2.1) Tryd.underlying45 rfl (by kernel_rfl)) rfl ?_
    rw [hp.out]
    have hsz2 : W3.heap.size ≤ (W3.setRow sb (ac.cells lv hv wv)).heap.size := by simp
    have hne : ∀ {u : Value}, Fr WX.heap.size u → ∀ k, liveB u = some k → k < W3.heap.size → (W3.setRow sb (ac.cells lv hv wv)).heap[k]? = W3.heap[k]? := fun hf k hk _ => setRow_other _ _ _ _ (by have := hf k (live_own hk); have := X3.out.2.2.2.2; omega)
    have HO := X3.out.1
    exact ⟨_, rfl, ⟨lv, hv, wv, hs, by simp, HO.lots.of_block hsz2 (hne HO.nl), ⟨HO.holds.1.of_block hsz2 (hne HO.nh), fun x hx => Items.of_block (HO.holds.2 x hx) hsz2 (hne (HO.np x hx))⟩, HO.heq, HO.win.of_block hsz2 (hne HO.nw)⟩, by rw [HSB.out]; exact below_setRow X3.out.2.2.2.1 (Nat.le_refl _) _⟩
  · have hb0 : (er != 0) = true := by simp [he]
    have hp : Hid (pp = (accZero, er)) := Lib.hid (by rw [HPE.out, if_pos he])
    clear HPE he
    have XB : Hid (∀ n, Blk (W2.drewN n) sb 45 accZc ∧ Below sb w (W2.drewN n)) := Lib.hid (fun n => ⟨X2.out.2.2.2.1, X2.out.2.2.2.2.1.trans ⟨rfl, rfl, rfl, Nat.le_refl _, fun _ _ => rfl⟩⟩)
    go_upto_region 4 with (go_at_call 36; go_must (refine (RE.out 0).mono ?_); rintro e w3 ⟨rfl, n3, rfl⟩)
    go_wp2_with (first
      | (go_at_call 36; go_must (refine (RE.out n3).mono ?_); rintro e w4 ⟨rfl, n4, rfl⟩)
      | (refine wpList_store_row rfl 45 (.tmp 2) (.tmp 14) rfl sb accZc rfl rfl 45 accZc ((XB.out n3).1.drewN n4) (by kernel_rfl) rfl (acc_one_cells _ rfl rfl rfl) ?_))
    (try simp only [Exit.inBlock, Exit.then])
    refine bodyPost_ret (res_cell_tmp rfl _ _ sb rfl accZc.toList _ (rng_setRow ((XB.out n3).1.drewN n4)) Tryd.underlying45 rfl (by kernel_rfl)) rfl ?_
    rw [hp.out]
    refine ⟨_, rfl, ?_, ?_⟩
    · have := accVal_zero (((W2.drewN n3).drewN n4).setRow sb accZc); simpa using this
    · rw [HSB.out]; exact below_setRow (XB.out (n3 + n4)).2 (Nat.le_refl _) _
end Go.Proofs.YtehkgcmdndehaaaDoor

