/- Part of the proof: merged texts. -/
import Derived.Test.YtehkgcmdndehaaaDoorGPRA32
import Derived.Deep.QuietTactic
import Derived.BigQuiet
namespace Go.Proofs.YtehkgcmdndehaaaDoor
set_option linter.unusedSimpArgs false
set_option linter.unusedVariables false
open Go.RowKit

def accZero : AccD := ⟨⟨#[]⟩, ⟨#[]⟩, plan0, 0, 0, 0, [], 0, 0, [], []⟩
def parseAcc (bs : List UInt8) : AccD × Int := if planEnd (accRd ⟨bs, 0⟩).2 ≠ 0 then (accZero, planEnd (accRd ⟨bs, 0⟩).2) else ((accRd ⟨bs, 0⟩).1, 0)
attribute [local irreducible] accRd
/-- A value that reads as an account. -/
def AccVal (w : World) (val : Value) (a : AccD) : Prop := ∃ (lv hv wv : Value) (hs : List (HoldD × Value)), val = .agg (a.cells lv hv wv) ∧ RdLots w lv a.lots ∧ RdHolds w hv hs ∧ hs.map (·.1) = a.holds ∧ RdWin w wv a.window
theorem AccVal.below {w w' : World} {val : Value} {a : AccD} (h : AccVal w val a) (hB : Below w.heap.size w w') : AccVal w' val a := by
  obtain ⟨lv, hv, wv, hs, rfl, h1, h2, h3, h4⟩ := h
  exact ⟨lv, hv, wv, hs, rfl, Items.below h1 hB, h2.below hB, h3, Items.below h4 hB⟩
def RpaPost (w : World) (bs : List UInt8) (e : Ending) (w' : World) : Prop :=
  ∃ (rb : Nat) (lv hv wv : Value) (hs : List (HoldD × Value)), e = .returned (.tuple #[.pointer (some ⟨rb, 0, none⟩), .int .i64 (planEnd (accRd ⟨bs, 0⟩).2)]) ∧ w.heap.size ≤ rb ∧ rb < w'.heap.size ∧ w'.rangeAt rb 61 ((accRd ⟨bs, 0⟩).1.cells lv hv wv).toList ∧ AccOut w' w.heap.size (accRd ⟨bs, 0⟩).1 lv hv wv hs ∧ Below w.heap.size w w'
theorem accOut_drewN {w : World} {B : Nat} {a : AccD} {lv hv wv : Value} {hs : List (HoldD × Value)} (h : AccOut w B a lv hv wv hs) (n : Nat) : AccOut (w.drewN n) B a lv hv wv hs := ⟨h.lots, h.holds, h.heq, h.win, h.nl, h.nh, h.nw, h.np⟩
theorem rpa_drewN {w w' : World} {bs : List UInt8} {e : Ending} (h : RpaPost w bs e w') (n : Nat) : RpaPost w bs e (w'.drewN n) := by
  obtain ⟨rb, lv, hv, wv, hs, h1, h2, h3, h4, h5, h6⟩ := h
  exact ⟨rb, lv, hv, wv, hs, h1, h2, h3, h4, accOut_drewN h5 n, ⟨h6.os, h6.tape, h6.output, h6.size, h6.block⟩⟩
set_option maxHeartbeats 1600000 in
set_option maxRecDepth 100000 in
theorem rr_parse_acc (v : Value) (zs : List UInt8) (w : World) (h : Reads w v zs) (hl : zs.length ≤ 1000000) :
    Calls Tryd.prog 31 #[v, .int .i64 6] w (RpaPost w zs) := by
  have H := Lib.hid h
  clear h
  have hfit : Fits zs.length := fits_of _ (by omega)
  go_enter Tryd.func31, Tryd.ntmps31
  go_upto_region 2 with (go_at_call 60; refine (clone_bytes v zs w H.out hfit).mono ?_; rintro e w1 ⟨v1, rfl, hr1, hv1, hB1⟩; obtain ⟨a1, c1, rfl⟩ := hr1.len; have X1 := Lib.hid (And.intro hr1 (And.intro hv1 hB1)); clear hr1 hv1 hB1)
  generalize hcs : (Tryd.zeroCells79.setIfInBounds 0 (.slice a1 zs.length c1)).setIfInBounds 1 (.int .i64 0) = cs
  have hsz : cs.size = 81 := by rw [← hcs, Array.size_setIfInBounds, Array.size_setIfInBounds, Tryd.zeroCells79_size]
  have h0 : cs[0]? = some (.slice a1 zs.length c1) := by
    rw [← hcs, Array.getElem?_setIfInBounds_ne (by decide), Array.getElem?_setIfInBounds_self_of_lt (by have := zrec_size; omega)]
  have h1 : cs[1]? = some (.int .i64 0) := by
    rw [← hcs, Array.getElem?_setIfInBounds_self_of_lt (by rw [Array.size_setIfInBounds]; have := zrec_size; omega)]
  clear hcs
  have hblk := heap_alloc_new w1 (.cells cs 79)
  have hBa := below_alloc w1 (.cells cs 79)
  have hsW : (w1.alloc (.cells cs 79)).heap.size = w1.heap.size + 1 := by simp
  generalize w1.alloc (.cells cs 79) = W at *
  generalize hrb : w1.heap.size = rb at *
  have HRB := Lib.hid hrb
  clear hrb
  have A0 : Hid (RR W rb (.slice a1 zs.length c1) ⟨zs, 0⟩ (cs.toList.drop 2)) := Lib.hid
    ⟨⟨(cell_of_row _ _ _ _ _ _ hblk).trans h0, (cell_of_row _ _ _ _ _ _ hblk).trans h1, frozen_of_row _ _ _ _ _ hblk, frozen_of_row _ _ _ _ _ hblk, X1.out.1.below (by rw [HRB.out]; exact hBa), fun e => by
      have := reads_own_lt X1.out.1 _ e
      have := HRB.out
      omega⟩, fun j u hj => by
      rw [cell_of_row _ _ _ _ _ _ hblk, ← Array.getElem?_toList, ← List.getElem?_drop]; exact hj, by rw [List.length_drop, Array.length_toList, hsz], fun o _ _ => frozen_of_row _ _ _ _ _ hblk, by omega, hl⟩
  have T0 := Lib.hid hsW
  have BW : Hid (Below w.heap.size w W ∧ w.heap.size ≤ rb) := Lib.hid ⟨X1.out.2.2.trans (hBa.mono (by have := X1.out.2.2.size; have := HRB.out; omega)), by have := X1.out.2.2.size; have := HRB.out; omega⟩
  clear hblk hBa hsW h0 h1 hsz X1
  go_upto_region 3 with (go_at_call 61; refine (rr_acc rb _ ⟨zs, 0⟩ _ W A0.out).mono ?_; rintro e w2 ⟨v2, c2, lv, hv, wv, hs, rfl, hr, hob, hm, hc, hout⟩; have X2 := Lib.hid (And.intro hr (And.intro hm (And.intro hc hout))); clear hr hob hm hc hout)
  have hat := X2.out.1.rat
  have c0 := hat.c0
  have c1' := hat.c1
  have f1 := hat.f1
  obtain ⟨a2, cc2, hv2⟩ := hat.reads.len
  subst hv2
  have hlt2 : Hid (rb < w2.heap.size ∧ Below w.heap.size w w2) := Lib.hid ⟨X2.out.1.lt, BW.out.1.trans (X2.out.2.1.below BW.out.2 BW.out.1.size)⟩
  have HRG : Hid (w2.rangeAt rb 61 ((accRd ⟨zs, 0⟩).1.cells lv hv wv).toList) := Lib.hid (X2.out.1.range 61 (by omega) _ (fun j u hj => by rw [show 61 - 2 + j = 59 + j by omega]; exact X2.out.2.2.1 j u hj))
  have FIN0 : Hid (∀ (er : Int) (w' : World), planEnd (accRd ⟨zs, 0⟩).2 = er → Mods w2 w' rb (fun o => o = 1) → RpaPost w zs (.returned (.tuple #[.pointer (some ⟨rb, 0, none⟩), .int .i64 er])) w') := Lib.hid (fun er w' he hm =>
    ⟨rb, lv, hv, wv, hs, by rw [he], BW.out.2, by have := hlt2.out.1; have := hm.size; omega, fun j u hj => (hm.row (61 + j) (by omega)).trans (HRG.out j u hj), (X2.out.2.2.2.ma (hm.mono (fun _ _ => trivial)) A0.out.lt).lower BW.out.1.size, hlt2.out.2.trans (hm.below BW.out.2 hlt2.out.2.size)⟩)
  unfold planEnd at FIN0
  generalize (accRd ⟨zs, 0⟩).2 = r2 at *
  clear hat X2 T0 A0
  by_cases he : r2.err = 0
  · have hb0 : (r2.err == 0) = true := by rw [he]; rfl
    by_cases hl2 : 0 < r2.bs.length
    · have hd : decide (0 < r2.bs.length) = true := decide_eq_true hl2
      have F := Lib.hid (FIN0.out 9 (w2.setCell ⟨rb, 1, none⟩ (.int .i64 9)) (if_pos ⟨he, hl2⟩) (Mods.of_setCell rfl))
      clear he FIN0
      go_wp2
      go_quiet (fail)
      go_wp2
      go_ret2
      exact rpa_drewN F.out _
    · have hd : decide (0 < r2.bs.length) = false := decide_eq_false hl2
      have F := Lib.hid (FIN0.out r2.err w2 (if_neg (fun h => hl2 h.2)) (Mods.refl _ _ _))
      clear he FIN0
      go_wp2
      go_quiet (fail)
      go_wp2
      go_ret2
      exact rpa_drewN F.out _
  · have hb0 : (r2.err == 0) = false := by simp [he]
    have F := Lib.hid (FIN0.out r2.err w2 (if_neg (fun h => he h.1)) (Mods.refl _ _ _))
    clear he FIN0
    go_wp2
    go_quiet (fail)
    go_wp2
    go_ret2
    exact rpa_drewN F.out _

theorem parseAcc_eq (bs : List UInt8) : parseAcc bs = if planEnd (accRd ⟨bs, 0⟩).2 ≠ 0 then (accZero, planEnd (accRd ⟨bs, 0⟩).2) else ((accRd ⟨bs, 0⟩).1, 0) := rfl
def accZc : Array Value := accZero.cells (.slice none 0 0) (.slice none 0 0) (.slice none 0 0)
theorem acc_one_cells (a : AccD) {lv hv wv : Value} (h1 : lv.oneCell' = true) (h2 : hv.oneCell' = true) (h3 : wv.oneCell' = true) : (a.cells lv hv wv).all (·.oneCell') = true := by
  unfold AccD.cells
  rw [Array.all_eq_true_iff_forall_mem]
  intro x hx
  simp only [List.mem_toArray, List.mem_cons, List.not_mem_nil, or_false] at hx
  rcases hx with rfl | rfl | rfl | rfl | rfl | rfl | rfl | rfl | rfl | rfl | rfl | rfl | rfl | rfl | rfl | rfl | rfl | rfl | rfl | rfl <;> first | rfl | assumption
theorem items_one {w : World} {v : Value} {n : Nat} {xs : List (List Value)} (h : Items w v n xs) : v.oneCell' = true := by
  obtain ⟨a, c, rfl⟩ := h.len
  rfl
theorem accVal_zero (w : World) : AccVal w (.agg accZc) accZero := ⟨_, _, _, [], rfl, .inl ⟨rfl, _, _, rfl⟩, ⟨.inl ⟨rfl, _, _, rfl⟩, fun _ h => by cases h⟩, rfl, .inl ⟨rfl, _, _, rfl⟩⟩
def PaPost (w : World) (p : AccD × Int) (e : Ending) (w' : World) : Prop := ∃ val, e = .returned (.tuple #[val, .int .i64 p.2]) ∧ AccVal w' val p.1 ∧ Below w.heap.size w w'

set_option maxHeartbeats 1600000 in
set_option maxRecDepth 100000 in
theorem rr_parseAcc (v : Value) (zs : List UInt8) (w : World) (h : Reads w v zs) (hl : zs.length ≤ 1000000) :
    Calls Tryd.prog 20 #[v] w (PaPost w (parseAcc zs)) := by
  have H := Lib.hid h
  clear h
  go_enter Tryd.func20, Tryd.ntmps20
  go_upto_region 1 with (fail)
  change Code.wp _ _ _ _ (w.alloc (.cells accZc 45))
  have hblk := heap_alloc_new w (.cells accZc 45)
  have hBa := below_alloc w (.cells accZc 45)
  have hsW : (w.alloc (.cells accZc 45)).heap.size = w.heap.size + 1 := by simp
  generalize w.alloc (.cells accZc 45) = W at *
  have X0 := Lib.hid (And.intro hblk (And.intro hBa (And.intro hsW (H.out.below hBa))))
  clear hblk hBa hsW
  generalize hsb : w.heap.size = sb at *
  have HSB := Lib.hid hsb
  clear hsb
  go_upto_region 2 with (go_at_call 31; refine (rr_parse_acc v zs W X0.out.2.2.2 hl).mono ?_; rintro e w1 ⟨rb, lv, hv, wv, hs, rfl, h1, h2, h3, h4, h5⟩; have X1 := Lib.hid (And.intro h1 (And.intro h2 (And.intro h3 (And.intro h4 h5)))); clear h1 h2 h3 h4 h5)
  have res1 : Hid (w1.heap[sb]? = some (.cells accZc 45 (0, 0)) ∧ Below sb w w1) := Lib.hid ⟨(X1.out.2.2.2.2.block sb (by have := X0.out.2.2.1; omega)).trans X0.out.1, X0.out.2.1.trans (X1.out.2.2.2.2.mono (by have := X0.out.2.2.1; omega))⟩
  have hpe := parseAcc_eq zs
  have HRG := Lib.hid X1.out.2.2.1
  have HO := Lib.hid X1.out.2.2.2.1
  have hsr : Hid (sb < rb) := Lib.hid (by have := X1.out.1; have := X0.out.2.2.1; omega)
  generalize parseAcc zs = pp at *
  generalize planEnd (accRd ⟨zs, 0⟩).2 = er at *
  generalize (accRd ⟨zs, 0⟩).1 = pl at *
  have HW0 : Hid (∀ k, k < W.heap.size → w1.heap[k]? = W.heap[k]?) := Lib.hid (fun k hk => X1.out.2.2.2.2.block k hk)
  clear X1
  by_cases he : er = 0
  · have hb0 : (er != 0) = false := by simp [he]
    have hp : Hid (pp = (pl, 0)) := Lib.hid (by rw [hpe, if_neg (by simp [he])])
    clear hpe he
    go_upto_region 4 with (fail)
    go_wp2_with (first
      | (refine wpList_load_mid rfl 45 (.tmp 17) rfl rb 61 rfl (pl.cells lv hv wv).toList _ HRG.out Tryd.underlying45 rfl (by kernel_rfl) ?_)
      | (refine wpList_store_row rfl 45 (.tmp 2) (.tmp 18) rfl sb (pl.cells lv hv wv) rfl rfl 45 accZc res1.out.1 (by kernel_rfl) rfl (acc_one_cells _ (items_one HO.out.lots) (items_one HO.out.holds.1) (items_one HO.out.win)) ?_))
    (try simp only [Exit.inBlock, Exit.then])
    refine bodyPost_ret (res_cell_tmp rfl _ _ sb rfl (pl.cells lv hv wv).toList _ (rng_setRow res1.out.1) Tryd.underlying45 rfl (by kernel_rfl)) rfl ?_
    rw [hp.out]
    have hrow : ∀ k, k ≠ sb → (w1.setRow sb (pl.cells lv hv wv)).heap[k]? = w1.heap[k]? := fun k hk => setRow_other _ _ _ _ hk
    have hsz2 : w1.heap.size ≤ (w1.setRow sb (pl.cells lv hv wv)).heap.size := by simp
    have hb2 := X0.out.2.2.1
    have hne : ∀ {u : Value}, Fr W.heap.size u → ∀ k, liveB u = some k → k < w1.heap.size → (w1.setRow sb (pl.cells lv hv wv)).heap[k]? = w1.heap[k]? := fun hf k hk _ => hrow k (by have := hf k (live_own hk); omega)
    refine ⟨_, rfl, ⟨lv, hv, wv, hs, by simp, HO.out.lots.of_block hsz2 (hne HO.out.nl), ⟨HO.out.holds.1.of_block hsz2 (hne HO.out.nh), fun x hx => Items.of_block (HO.out.holds.2 x hx) hsz2 (hne (HO.out.np x hx))⟩, HO.out.heq, HO.out.win.of_block hsz2 (hne HO.out.nw)⟩, by rw [HSB.out]; exact below_setRow res1.out.2 (Nat.le_refl _) _⟩
  · have hb0 : (er != 0) = true := by simp [he]
    have hp : Hid (pp = (accZero, er)) := Lib.hid (by rw [hpe, if_pos he])
    clear hpe he
    go_wp2_with (refine wpList_store_row rfl 45 (.tmp 2) (.tmp 13) rfl sb accZc rfl rfl 45 accZc res1.out.1 (by kernel_rfl) rfl (acc_one_cells _ rfl rfl rfl) ?_)
    (try simp only [Exit.inBlock, Exit.then])
    refine bodyPost_ret (res_cell_tmp rfl _ _ sb rfl accZc.toList _ (rng_setRow res1.out.1) Tryd.underlying45 rfl (by kernel_rfl)) rfl ?_
    rw [hp.out]
    exact ⟨_, rfl, accVal_zero _, by rw [HSB.out]; exact below_setRow res1.out.2 (Nat.le_refl _) _⟩
end Go.Proofs.YtehkgcmdndehaaaDoor

