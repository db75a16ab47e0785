/- Part of the proof: merged texts. -/
import Derived.Test.YtehkgcmdndehaaaDoorGPRA13
import Derived.Test.YtehkgcmdndehaaaDoorGPRA28
import Derived.Test.YtehkgcmdndehaaaDoorGPRA22
import Derived.Test.YtehkgcmdndehaaaDoorGPRA14
import Derived.Test.YtehkgcmdndehaaaDoorGPRA45
import Derived.Deep.RegionHeld3
import Derived.Deep.RegionWith
import Derived.Deep.DeepCutAuto
import Derived.Deep.CutBlock
namespace Go.Proofs.YtehkgcmdndehaaaDoor
set_option linter.unusedSimpArgs false
set_option linter.unusedVariables false
open Go.RowKit

/-- Bytes that the call itself has made, beside all that there was in W0. -/
def AW (W0 w : World) (v : Value) (xs : List UInt8) : Prop := OwnB w W0.heap.size v xs ∧ Below W0.heap.size W0 w
def AWPost (W0 w : World) (v : Value) (xs : List UInt8) (e : Ending) (w' : World) : Prop := ∃ v', e = .returned v' ∧ AW W0 w' v' xs ∧ Grew w w' v v'
theorem AW.grow {W0 w w' : World} {v v' : Value} {xs ys : List UInt8} (h : AW W0 w v xs) (ho : OwnB w' W0.heap.size v' ys) (hg : Grew w w' v v') : AW W0 w' v' ys :=
  ⟨ho, h.2.trans ⟨hg.os, hg.tape, hg.output, hg.size, fun k hk => hg.block k (Nat.lt_of_lt_of_le hk h.2.size) (fun e => by have := (h.1.lt k e).1; omega)⟩⟩
theorem AW.below {W0 w w' : World} {v : Value} {xs : List UInt8} (h : AW W0 w v xs) (hB : Below w.heap.size w w') : AW W0 w' v xs := ⟨h.1.of_below hB, h.2.trans (hB.mono h.2.size)⟩
theorem aw_int {W0 w : World} {v : Value} {xs : List UInt8} (n : Int) (h : AW W0 w v xs) (hl : xs.length ≤ 2000000) : Calls Tryd.prog 33 #[v, .int .i64 n] w (AWPost W0 w v (xs ++ encInt n)) := by
  refine (ref_int W0.heap.size v xs n w h.1 h.2.size (fits_of _ (by omega))).mono ?_
  rintro e w' ⟨v', rfl, ho, hg⟩
  exact ⟨v', rfl, h.grow ho hg, hg⟩
theorem aw_text {W0 w : World} {v : Value} {xs : List UInt8} (s : ByteArray) (h : AW W0 w v xs) (hl : xs.length + s.size ≤ 2000000) : Calls Tryd.prog 32 #[v, .string s] w (AWPost W0 w v (xs ++ encText s)) := by
  refine (ref_wtext W0.heap.size v xs s w h.1 h.2.size (fits_of _ (by omega))).mono ?_
  rintro e w' ⟨v', rfl, ho, hg⟩
  exact ⟨v', rfl, h.grow ho hg, hg⟩
theorem aw_plan {W0 w : World} {v : Value} {xs : List UInt8} (p : PlanD) (h : AW W0 w v xs) (hl : xs.length ≤ 100000) (hn : p.name.size ≤ 3000) : Calls Tryd.prog 14 #[v, .agg p.cells] w (AWPost W0 w v (xs ++ encPlan p)) := by
  refine (ref_wplan W0.heap.size v xs p w h.1 h.2.size hl hn).mono ?_
  rintro e w' ⟨v', rfl, ho, hg⟩
  exact ⟨v', rfl, h.grow ho hg, hg⟩
theorem aw_ans {W0 w : World} {v : Value} {xs : List UInt8} (a : AnsD) (h : AW W0 w v xs) (hl : xs.length ≤ 2000000) (hn : a.stmt.name.size ≤ 3000) : Calls Tryd.prog 34 #[v, .agg a.cells] w (AWPost W0 w v (xs ++ encAns a)) := by
  refine (ref_wans W0.heap.size v xs a w h.1 h.2.size (by omega) hn).mono ?_
  rintro e w' ⟨v', rfl, ho, hg⟩
  exact ⟨v', rfl, h.grow ho hg, hg⟩
/-- Behind an append of one byte. -/
theorem AW.byte {W0 w wa w1 : World} {v : Value} {xs : List UInt8} {b : UInt8} {g cap S : Nat} (h : AW W0 w v xs) (ha : Below w.heap.size w wa) (hown : w1.ownsRow W0.heap.size 5 1 (.slice (some ⟨g, 0, none⟩) (xs.length + 1) cap) (xs.length + 1) (bcells xs ++ bcells [b])) (hgrow : wa.grownBy w1 v.ownBlock) (hg : v.ownBlock = some g ∨ g = S) (hS : w.heap.size ≤ S) : AW W0 w1 (.slice (some ⟨g, 0, none⟩) (xs.length + 1) cap) (xs ++ [b]) :=
  h.grow (by unfold OwnB; simpa [bcells] using hown) (grew_of ha hgrow hg hS)
theorem byte_news (w : World) (n : Int) (T : TypeId) : ∀ j u, (bcells [byteOf n])[j]? = some u → (w.alloc (.cells #[.int .u8 (IntKind.u8.wrap n)] T)).cell? ((⟨w.heap.size, 0, none⟩ : Addr).add j) = some u := news_one w _ _ (wrap_byteOf n) T
theorem H_pair {P : Program} {ops : Array Oper} {Q : Exit → Act → World → Prop} {md : Region.Mode} {S : World → Prop} {i j : Nat} {oi oj : Oper} {n : Nat} {l : Array Bool} {a : Act} {w : World} (hr : Region.ready md ops l = [i, j]) (hi : ops[i]? = some oi) (hj : ops[j]? = some oj)
    (h1 : ∀ K : Act → World → Prop, Hid (∀ a w, S w → wpAnyH P md ops Q S n (l.setIfInBounds i true) a w → K a w) → if Region.wanted oi (yielded ops a.tmps) = true then Oper.wp P oi a w K Q else K (a.put oi.dst undef) w)
    (h2 : ∀ K : Act → World → Prop, Hid (∀ a w, S w → wpAnyH P md ops Q S n (l.setIfInBounds j true) a w → K a w) → if Region.wanted oj (yielded ops a.tmps) = true then Oper.wp P oj a w K Q else K (a.put oj.dst undef) w) :
    wpAnyH P md ops Q S (n + 1) l a w :=
  wpAnyH_all hr (by simp) fun x hx => by
    simp only [List.mem_cons, List.not_mem_nil, or_false] at hx
    rcases hx with rfl | rfl
    · exact wpOp_step hi (fun K' hK => h1 K' (Lib.hid fun a w hS hW => hK a w ⟨hS, hW⟩))
    · exact wpOp_step hj (fun K' hK => h2 K' (Lib.hid fun a w hS hW => hK a w ⟨hS, hW⟩))
def HoldBlk (w : World) (pb : Nat) (hd : HoldD) (pv : Value) : Prop := ∀ (o : Nat) u, (hd.cells pv)[o]? = some u → w.cell? ⟨pb, o, none⟩ = some u
theorem encParts_take_le (ps : List PartD) (j : Nat) : (encParts (ps.take j)).length ≤ 16 * ps.length := by
  rw [encParts_length, List.length_take]; omega
theorem encInts3 (a b c : Int) (xs : List UInt8) : xs ++ encInt a ++ encInt b ++ encInt c = xs ++ encInts [a, b, c] := by simp [encInts]
theorem encInts2 (a b : Int) (xs : List UInt8) : xs ++ encInt a ++ encInt b = xs ++ encInts [a, b] := by simp [encInts]
theorem ldm_plan (ρ : Operand → Value) (dst : Option Tmp) (x : Operand) (t : TypeId) (pos : String) (after : Array Edge) (guard : Option (Nat × Bool)) (w : World) (h : okAt 10 (ρ x) w = true) :
    (execOp ρ { dst, op := .load 26 x, type := t, pos, after, guard }).run Tryd.prog w = .ok (.value (.agg (ptrAt 10 (ρ x) w))) w :=
  run_ex_loadAt ρ dst x t pos after guard w _ 10 _ Tryd.underlying26 rfl (by kernel_rfl) h
theorem ldm_ans (ρ : Operand → Value) (dst : Option Tmp) (x : Operand) (t : TypeId) (pos : String) (after : Array Edge) (guard : Option (Nat × Bool)) (w : World) (h : okAt 13 (ρ x) w = true) :
    (execOp ρ { dst, op := .load 70 x, type := t, pos, after, guard }).run Tryd.prog w = .ok (.value (.agg (ptrAt 13 (ρ x) w))) w :=
  run_ex_loadAt ρ dst x t pos after guard w _ 13 _ Tryd.underlying70 rfl (by kernel_rfl) h
attribute [local go_sem ↓] ldm_plan ldm_ans
set_option maxHeartbeats 3200000 in
set_option maxRecDepth 100000 in
theorem ref_wacc (a : AccD) (lv hv wv : Value) (hs : List (HoldD × Value)) (w : World) (h1 : RdLots w lv a.lots) (h2 : RdHolds w hv hs) (h3 : RdWin w wv a.window) (hh : hs.map (·.1) = a.holds) (hsh : ∀ e ∈ a.window, e.ans.stmt.name.size ≤ 255) (hnm : a.name.size ≤ 255 ∧ a.key.size ≤ 255 ∧ a.plan.name.size ≤ 255) (hl : (encAcc a).length + 1000 ≤ 1000000) :
    Calls Tryd.prog 18 #[.slice none 0 0, .agg (a.cells lv hv wv)] w (BytesPost w (encAcc a)) := by
  obtain ⟨i0, hi, hz0, hz1, hz2⟩ := info_parts infoU8
  obtain ⟨la, lc, rfl⟩ : ∃ la lc, lv = .slice la a.lots.length lc := by obtain ⟨x, y, e⟩ := Items.len h1; exact ⟨x, y, by rw [e]; simp⟩
  obtain ⟨ha, hc, rfl⟩ : ∃ ha hc, hv = .slice ha hs.length hc := by obtain ⟨x, y, e⟩ := Items.len h2.1; exact ⟨x, y, by rw [e]; simp⟩
  obtain ⟨wa, wcp, rfl⟩ : ∃ wa wcp, wv = .slice wa a.window.length wcp := by obtain ⟨x, y, e⟩ := Items.len h3; exact ⟨x, y, by rw [e]; simp⟩
  have e1 : hs.flatMap encHV = encHolds a.holds := by rw [← hh, encHolds, List.flatMap_map]; rfl
  have TL : Hid ((a.lots.flatMap encLot).length ≤ 1000000 ∧ (hs.flatMap encHV).length ≤ 1000000 ∧ (a.window.flatMap encEntry).length ≤ 1000000 ∧ (a.lots.flatMap encLot).length + (hs.flatMap encHV).length + (a.window.flatMap encEntry).length ≤ 1000000) := Lib.hid (by
    rw [e1]
    simp only [encAcc, encLists, encLots, encEntries, List.length_append, List.length_singleton, encInts_length, List.length_cons, List.length_nil] at hl
    omega)
  have NL : Hid (a.lots.length ≤ 1000000) := Lib.hid (by have := flat_len encLot encLot_pos a.lots; have := TL.out; omega)
  have NH : Hid (hs.length ≤ 1000000) := Lib.hid (by have := flat_len encHV encHV_pos hs; have := TL.out; omega)
  have NW : Hid (a.window.length ≤ 1000000) := Lib.hid (by have := flat_len encEntry encEntry_pos a.window; have := TL.out; omega)
  clear e1
  have H := Lib.hid (And.intro h1 (And.intro h2 (And.intro h3 (And.intro hh (And.intro hsh hl)))))
  have HL := Lib.hid hnm
  clear h1 h2 h3 hh hsh hl hnm
  go_enter Tryd.func18, Tryd.ntmps18
  go_upto_region 1 with (fail)
  have hB0 := below_alloc w (.cells (a.cells (.slice la a.lots.length lc) (.slice ha hs.length hc) (.slice wa a.window.length wcp)) 45)
  have hblk := heap_alloc_new w (.cells (a.cells (.slice la a.lots.length lc) (.slice ha hs.length hc) (.slice wa a.window.length wcp)) 45)
  have hs0 : (w.alloc (.cells (a.cells (.slice la a.lots.length lc) (.slice ha hs.length hc) (.slice wa a.window.length wcp)) 45)).heap.size = w.heap.size + 1 := by simp
  generalize w.alloc (.cells (a.cells (.slice la a.lots.length lc) (.slice ha hs.length hc) (.slice wa a.window.length wcp)) 45) = W0 at *
  generalize hbb : w.heap.size = bb at *
  have HBB := Lib.hid hbb
  clear hbb
  have HC : Hid (∀ (o : Nat) u, (a.cells (.slice la a.lots.length lc) (.slice ha hs.length hc) (.slice wa a.window.length wcp))[o]? = some u → W0.cell? ⟨bb, o, none⟩ = some u) := Lib.hid (fun o u h => by rw [cell_of_row W0 _ _ _ _ _ hblk]; exact h)
  have HLT : Hid (bb < W0.heap.size) := Lib.hid (by omega)
  have HBX : Hid (Below w.heap.size w W0) := Lib.hid (by rw [HBB.out]; exact hB0)
  have HA0 : Hid (AW W0 W0 (.slice none 0 0) []) := Lib.hid ⟨OwnB.nil _ _, Below.refl _ _⟩
  have HR : Hid (RdLots W0 (.slice la a.lots.length lc) a.lots ∧ RdHolds W0 (.slice ha hs.length hc) hs ∧ RdWin W0 (.slice wa a.window.length wcp) a.window) := Lib.hid ⟨Items.below H.out.1 HBX.out, H.out.2.1.below HBX.out, Items.below H.out.2.2.1 HBX.out⟩
  have plan_rng : ∀ {wx : World}, Below W0.heap.size W0 wx → wx.rangeAt bb 2 a.plan.cells.toList := fun hB j u hj => (hB.cell (p := ⟨bb, 2 + j, none⟩) HLT.out).trans (HC.out (2 + j) u (by
    match j, hj with
    | 0, hj | 1, hj | 2, hj | 3, hj | 4, hj | 5, hj | 6, hj | 7, hj | 8, hj | 9, hj => exact hj
    | j + 10, hj => simp [PlanD.cells] at hj))
  have q0 : W0.cell? ⟨bb, 0, none⟩ = some (.string a.name) := HC.out 0 _ rfl
  have q1 : W0.cell? ⟨bb, 1, none⟩ = some (.string a.key) := HC.out 1 _ rfl
  have q2 : isRow W0 bb 2 10 = true := (row_mid (cs := a.plan.cells) (plan_rng (Below.refl _ _)) rfl).1
  have q3 : rowOf W0 bb 2 10 = a.plan.cells := (row_mid (cs := a.plan.cells) (plan_rng (Below.refl _ _)) rfl).2
  clear hB0 hblk hs0
  go_region_held3 (fun w' => w'.cell? ⟨bb, 0, none⟩ = some (.string a.name) ∧ w'.cell? ⟨bb, 1, none⟩ = some (.string a.key) ∧ isRow w' bb 2 10 = true ∧ rowOf w' bb 2 10 = a.plan.cells) (first | exact ⟨q0, q1, q2, q3⟩ | go_keep)
    (first
     | (go_at_call_of 32 (Value.string a.name)
        go_must (refine (aw_text a.name (HA0.out.below (Below.refl _ _).drew) (by have := HL.out; simp; omega)).mono ?_)
        rintro e w1 ⟨v1, rfl, sw1, gw1⟩
        have q0 : w1.cell? ⟨bb, 0, none⟩ = some (.string a.name) := (sw1.2.cell (p := ⟨bb, 0, none⟩) (by exact HLT.out)).trans (HC.out 0 _ rfl)
        have q1 : w1.cell? ⟨bb, 1, none⟩ = some (.string a.key) := (sw1.2.cell (p := ⟨bb, 1, none⟩) (by exact HLT.out)).trans (HC.out 1 _ rfl)
        have q2 : isRow w1 bb 2 10 = true := (row_mid (cs := a.plan.cells) (plan_rng sw1.2) rfl).1
        have q3 : rowOf w1 bb 2 10 = a.plan.cells := (row_mid (cs := a.plan.cells) (plan_rng sw1.2) rfl).2
        have Hw1 := Lib.hid sw1
        clear sw1
        clear gw1)
     | (go_at_call_of 32 (Value.string a.key)
        go_must (refine (aw_text a.key Hw1.out (by have := HL.out; simp only [List.nil_append, encText_length]; omega)).mono ?_)
        rintro e w2 ⟨v2, rfl, sw2, gw2⟩
        have q0 : w2.cell? ⟨bb, 0, none⟩ = some (.string a.name) := (sw2.2.cell (p := ⟨bb, 0, none⟩) (by exact HLT.out)).trans (HC.out 0 _ rfl)
        have q1 : w2.cell? ⟨bb, 1, none⟩ = some (.string a.key) := (sw2.2.cell (p := ⟨bb, 1, none⟩) (by exact HLT.out)).trans (HC.out 1 _ rfl)
        have q2 : isRow w2 bb 2 10 = true := (row_mid (cs := a.plan.cells) (plan_rng sw2.2) rfl).1
        have q3 : rowOf w2 bb 2 10 = a.plan.cells := (row_mid (cs := a.plan.cells) (plan_rng sw2.2) rfl).2
        have Hw2 := Lib.hid sw2
        clear sw2
        clear gw2)
     | (go_at_call 14
        go_must (refine (aw_plan a.plan Hw2.out (by have := HL.out; simp only [List.nil_append, List.length_append, encText_length]; omega) (by have := HL.out; omega)).mono ?_)
        rintro e w3 ⟨v3, rfl, sw3, gw3⟩
        have q0 : w3.cell? ⟨bb, 0, none⟩ = some (.string a.name) := (sw3.2.cell (p := ⟨bb, 0, none⟩) (by exact HLT.out)).trans (HC.out 0 _ rfl)
        have q1 : w3.cell? ⟨bb, 1, none⟩ = some (.string a.key) := (sw3.2.cell (p := ⟨bb, 1, none⟩) (by exact HLT.out)).trans (HC.out 1 _ rfl)
        have q2 : isRow w3 bb 2 10 = true := (row_mid (cs := a.plan.cells) (plan_rng sw3.2) rfl).1
        have q3 : rowOf w3 bb 2 10 = a.plan.cells := (row_mid (cs := a.plan.cells) (plan_rng sw3.2) rfl).2
        have Hw3 := Lib.hid sw3
        clear sw3
        clear gw3))
  clear q0 q1 q2 q3
  obtain ⟨z3, hz3⟩ : ∃ z, z = [] ++ encText a.name ++ encText a.key ++ encPlan a.plan := ⟨_, rfl⟩
  have HA3 : Hid (AW W0 w3 v3 z3) := Lib.hid (hz3 ▸ Hw3.out)
  have HZ3 := Lib.hid hz3
  have HL3 : Hid (z3.length ≤ 1000) := Lib.hid (by rw [hz3]; have := HL.out; simp only [List.nil_append, List.length_append, encText_length, encPlan_length]; omega)
  clear hz3 Hw1 Hw2 Hw3
  have q0 : w3.cell? ⟨bb, 12, none⟩ = some (.int .i64 a.term) := (HA3.out.2.cell (p := ⟨bb, 12, none⟩) HLT.out).trans (HC.out 12 _ rfl)
  have q1 : w3.cell? ⟨bb, 13, none⟩ = some (.int .i64 a.frm) := (HA3.out.2.cell (p := ⟨bb, 13, none⟩) HLT.out).trans (HC.out 13 _ rfl)
  have q2 : w3.cell? ⟨bb, 14, none⟩ = some (.int .i64 a.till) := (HA3.out.2.cell (p := ⟨bb, 14, none⟩) HLT.out).trans (HC.out 14 _ rfl)
  go_upto_region 2 with (fail)
  go_region_held3 (fun w' => w'.cell? ⟨bb, 12, none⟩ = some (.int .i64 a.term) ∧ w'.cell? ⟨bb, 13, none⟩ = some (.int .i64 a.frm) ∧ w'.cell? ⟨bb, 14, none⟩ = some (.int .i64 a.till)) (first | exact ⟨q0, q1, q2⟩ | go_keep)
    (first
     | (go_at_call_of 33 (Value.int .i64 a.term)
        go_must (refine (aw_int a.term (HA3.out.below (Below.refl _ _).drew) (by have := HL3.out; omega)).mono ?_)
        rintro e w4 ⟨v4, rfl, sw4, gw4⟩
        have q0 : w4.cell? ⟨bb, 12, none⟩ = some (.int .i64 a.term) := (sw4.2.cell (p := ⟨bb, 12, none⟩) (by exact HLT.out)).trans (HC.out 12 _ rfl)
        have q1 : w4.cell? ⟨bb, 13, none⟩ = some (.int .i64 a.frm) := (sw4.2.cell (p := ⟨bb, 13, none⟩) (by exact HLT.out)).trans (HC.out 13 _ rfl)
        have q2 : w4.cell? ⟨bb, 14, none⟩ = some (.int .i64 a.till) := (sw4.2.cell (p := ⟨bb, 14, none⟩) (by exact HLT.out)).trans (HC.out 14 _ rfl)
        have Hw4 := Lib.hid sw4
        clear sw4
        clear gw4)
     | (go_at_call_of 33 (Value.int .i64 a.frm)
        go_must (refine (aw_int a.frm Hw4.out (by have := HL3.out; simp only [List.length_append, encInt_length]; omega)).mono ?_)
        rintro e w5 ⟨v5, rfl, sw5, gw5⟩
        have q0 : w5.cell? ⟨bb, 12, none⟩ = some (.int .i64 a.term) := (sw5.2.cell (p := ⟨bb, 12, none⟩) (by exact HLT.out)).trans (HC.out 12 _ rfl)
        have q1 : w5.cell? ⟨bb, 13, none⟩ = some (.int .i64 a.frm) := (sw5.2.cell (p := ⟨bb, 13, none⟩) (by exact HLT.out)).trans (HC.out 13 _ rfl)
        have q2 : w5.cell? ⟨bb, 14, none⟩ = some (.int .i64 a.till) := (sw5.2.cell (p := ⟨bb, 14, none⟩) (by exact HLT.out)).trans (HC.out 14 _ rfl)
        have Hw5 := Lib.hid sw5
        clear sw5
        clear gw5)
     | (go_at_call_of 33 (Value.int .i64 a.till)
        go_must (refine (aw_int a.till Hw5.out (by have := HL3.out; simp only [List.length_append, encInt_length]; omega)).mono ?_)
        rintro e w6 ⟨v6, rfl, sw6, gw6⟩
        have q0 : w6.cell? ⟨bb, 12, none⟩ = some (.int .i64 a.term) := (sw6.2.cell (p := ⟨bb, 12, none⟩) (by exact HLT.out)).trans (HC.out 12 _ rfl)
        have q1 : w6.cell? ⟨bb, 13, none⟩ = some (.int .i64 a.frm) := (sw6.2.cell (p := ⟨bb, 13, none⟩) (by exact HLT.out)).trans (HC.out 13 _ rfl)
        have q2 : w6.cell? ⟨bb, 14, none⟩ = some (.int .i64 a.till) := (sw6.2.cell (p := ⟨bb, 14, none⟩) (by exact HLT.out)).trans (HC.out 14 _ rfl)
        have Hw6 := Lib.hid sw6
        clear sw6
        clear gw6))
  clear q0 q1 q2
  obtain ⟨z6, hz6⟩ : ∃ z, z = z3 ++ encInt a.term ++ encInt a.frm ++ encInt a.till := ⟨_, rfl⟩
  have HA6 : Hid (AW W0 w6 v6 z6) := Lib.hid (hz6 ▸ Hw6.out)
  have HZ6 := Lib.hid hz6
  have HL6 : Hid (z6.length ≤ 1100) := Lib.hid (by rw [hz6]; have := HL3.out; simp only [List.length_append, encInt_length]; omega)
  clear hz6 Hw4 Hw5 Hw6
  have hown := HA6.out.1
  unfold OwnB at hown
  have hfit : Fits (z6.length + 1) := fits_of _ (by have := HL6.out; omega)
  have cq : w6.cell? ⟨bb, 15, none⟩ = some (.slice la a.lots.length lc) := (HA6.out.2.cell (p := ⟨bb, 15, none⟩) HLT.out).trans (HC.out 15 _ rfl)
  have hszw := HA6.out.2.size
  go_wp2_with (at_builtin; refine wpList_append_lies _ rfl (.tmp 33) (.tmp 38) 29 rfl W0.heap.size 5 i0 (.int .u8 0) 1 1 Tryd.underlying29 hi hz0 hz1 hz2 rfl (by decide) v6 z6.length (bcells z6) rfl (hown.alloc _) ⟨w6.heap.size, 0, none⟩ 1 1 (bcells [byteOf a.lots.length]) rfl rfl (byte_news _ _ _) (bcells_oneCell _) (by decide) hfit.max hfit.reach (by simp; omega) (w6.heap.size + 1) (by simp) ?_)
  intro g' cap wn0 hownn hgrow hg hlt
  have HB0 : Hid (AW W0 wn0 (.slice (some ⟨g', 0, none⟩) (z6.length + 1) cap) (z6 ++ [byteOf a.lots.length])) := Lib.hid (HA6.out.byte (below_alloc _ _) hownn hgrow hg (by omega))
  have hsz0 := HB0.out.2.size
  clear hown hownn hgrow hg hfit cq hszw hlt
  obtain ⟨y0, hy0⟩ : ∃ y, y = z6 ++ [byteOf a.lots.length] := ⟨_, rfl⟩
  rw [← hy0] at HB0
  have HY0 := Lib.hid hy0
  have YL0 : Hid (y0.length = z6.length + 1) := Lib.hid (by rw [hy0, List.length_append]; rfl)
  clear hy0
  go_wp2
  go_loopg [0, 5, 6, 7, 8] a.lots.length (fun g s0 s5 s6 s7 s8 wr => ∃ k : Nat, k + g = a.lots.length ∧ s5 = .int .i64 k ∧ AW W0 wr s0 (y0 ++ (a.lots.take k).flatMap encLot))
  case atStart => exact ⟨0, by omega, rfl, by simpa using HB0.out⟩
  case round =>
    obtain ⟨k, hkg, rfl, ha⟩ := hrel
    obtain ⟨wo, rfl⟩ : ∃ x : World, x = wr := ⟨_, rfl⟩
    have hszo := ha.2.size
    have cl : wo.cell? ⟨bb, 15, none⟩ = some (.slice la a.lots.length lc) := (ha.2.cell (p := ⟨bb, 15, none⟩) HLT.out).trans (HC.out 15 _ rfl)
    cases gk with
    | zero =>
      have hk : ¬ ((k : Int) < (a.lots.length : Int)) := by omega
      have HA7 : Hid (AW W0 wo u0 (y0 ++ a.lots.flatMap encLot)) := Lib.hid (by rwa [List.take_of_length_le (by omega)] at ha)
      clear ha hkg
      go_upto_region 13 with (fail)
      have HL7 : Hid ((y0 ++ a.lots.flatMap encLot).length + 100 ≤ 1200000) := Lib.hid (by rw [List.length_append]; have := YL0.out; have := HL6.out; have := TL.out; omega)
      have q0 : wo.cell? ⟨bb, 16, none⟩ = some (.int .i64 a.next) := (HA7.out.2.cell (p := ⟨bb, 16, none⟩) HLT.out).trans (HC.out 16 _ rfl)
      have q1 : wo.cell? ⟨bb, 17, none⟩ = some (.int .i64 a.over) := (HA7.out.2.cell (p := ⟨bb, 17, none⟩) HLT.out).trans (HC.out 17 _ rfl)
      clear cl hk
      go_region_held3 (fun w' => w'.cell? ⟨bb, 16, none⟩ = some (.int .i64 a.next) ∧ w'.cell? ⟨bb, 17, none⟩ = some (.int .i64 a.over)) (first | exact ⟨q0, q1⟩ | go_keep)
        (first
         | (go_at_call_of 33 (Value.int .i64 a.next)
            go_must (refine (aw_int a.next (HA7.out.below (Below.refl _ _).drew) (by have := HL7.out; omega)).mono ?_)
            rintro e w8 ⟨v8, rfl, sw8, gw8⟩
            have q0 : w8.cell? ⟨bb, 16, none⟩ = some (.int .i64 a.next) := (sw8.2.cell (p := ⟨bb, 16, none⟩) (by exact HLT.out)).trans (HC.out 16 _ rfl)
            have q1 : w8.cell? ⟨bb, 17, none⟩ = some (.int .i64 a.over) := (sw8.2.cell (p := ⟨bb, 17, none⟩) (by exact HLT.out)).trans (HC.out 17 _ rfl)
            have Hw8 := Lib.hid sw8
            clear sw8
            clear gw8)
         | (go_at_call_of 33 (Value.int .i64 a.over)
            go_must (refine (aw_int a.over Hw8.out (by have := HL7.out; simp only [List.length_append, encInt_length] at this ⊢; omega)).mono ?_)
            rintro e w9 ⟨v9, rfl, sw9, gw9⟩
            have q0 : w9.cell? ⟨bb, 16, none⟩ = some (.int .i64 a.next) := (sw9.2.cell (p := ⟨bb, 16, none⟩) (by exact HLT.out)).trans (HC.out 16 _ rfl)
            have q1 : w9.cell? ⟨bb, 17, none⟩ = some (.int .i64 a.over) := (sw9.2.cell (p := ⟨bb, 17, none⟩) (by exact HLT.out)).trans (HC.out 17 _ rfl)
            have Hw9 := Lib.hid sw9
            clear sw9
            clear gw9))
      clear q0 q1
      obtain ⟨z9, hz9⟩ : ∃ z, z = y0 ++ a.lots.flatMap encLot ++ encInt a.next ++ encInt a.over := ⟨_, rfl⟩
      have HA9 : Hid (AW W0 w9 v9 z9) := Lib.hid (hz9 ▸ Hw9.out)
      have HZ9 := Lib.hid hz9
      have HL9 : Hid (z9.length = 1 + z6.length + (a.lots.flatMap encLot).length + 16) := Lib.hid (by rw [hz9]; have := YL0.out; simp only [List.length_append, encInt_length]; omega)
      have HL9' : Hid (z9.length ≤ 1200000) := Lib.hid (by have := HL9.out; have := HL6.out; have := TL.out; omega)
      clear hz9 Hw8 Hw9 HA7
      have hown := HA9.out.1
      unfold OwnB at hown
      have hfit : Fits (z9.length + 1) := fits_of _ (by have := HL9'.out; omega)
      have cq : w9.cell? ⟨bb, 18, none⟩ = some (.slice ha hs.length hc) := (HA9.out.2.cell (p := ⟨bb, 18, none⟩) HLT.out).trans (HC.out 18 _ rfl)
      have hszw := HA9.out.2.size
      go_wp2_with (at_builtin; refine wpList_append_lies _ rfl (.tmp 90) (.tmp 95) 29 rfl W0.heap.size 5 i0 (.int .u8 0) 1 1 Tryd.underlying29 hi hz0 hz1 hz2 rfl (by decide) v9 z9.length (bcells z9) rfl (hown.alloc _) ⟨w9.heap.size, 0, none⟩ 1 1 (bcells [byteOf hs.length]) rfl rfl (byte_news _ _ _) (bcells_oneCell _) (by decide) hfit.max hfit.reach (by simp; omega) (w9.heap.size + 1) (by simp) ?_)
      intro g' cap wn1 hownn hgrow hg hlt
      have HB1 : Hid (AW W0 wn1 (.slice (some ⟨g', 0, none⟩) (z9.length + 1) cap) (z9 ++ [byteOf hs.length])) := Lib.hid (HA9.out.byte (below_alloc _ _) hownn hgrow hg (by omega))
      have hsz1 := HB1.out.2.size
      clear hown hownn hgrow hg hfit cq hszw hlt
      obtain ⟨y1, hy1⟩ : ∃ y, y = z9 ++ [byteOf hs.length] := ⟨_, rfl⟩
      rw [← hy1] at HB1
      have HY1 := Lib.hid hy1
      have YL1 : Hid (y1.length = z9.length + 1) := Lib.hid (by rw [hy1, List.length_append]; rfl)
      clear hy1
      go_wp2
      have NH2 := NH.out
      go_loopg [0, 9, 10, 11] hs.length (fun g s0 s9 s10 s11 wr => ∃ k : Nat, k + g = hs.length ∧ s9 = .int .i64 k ∧ AW W0 wr s0 (y1 ++ (hs.take k).flatMap encHV))
      case atStart => exact ⟨0, by omega, rfl, by simpa using HB1.out⟩
      case round =>
        obtain ⟨k, hkg, rfl, ha'⟩ := hrel
        obtain ⟨wo, rfl⟩ : ∃ x : World, x = wr := ⟨_, rfl⟩
        have hszo := ha'.2.size
        have cl : wo.cell? ⟨bb, 18, none⟩ = some (.slice ha hs.length hc) := (ha'.2.cell (p := ⟨bb, 18, none⟩) HLT.out).trans (HC.out 18 _ rfl)
        cases gk with
        | zero =>
          have hk : ¬ ((k : Int) < (hs.length : Int)) := by omega
          have HAH : Hid (AW W0 wo u0 (y1 ++ hs.flatMap encHV)) := Lib.hid (by rwa [List.take_of_length_le (by omega)] at ha')
          clear ha' hkg
          go_upto_region 25 with (fail)
          clear cl hk
          obtain ⟨zh, hzh⟩ : ∃ z, z = y1 ++ hs.flatMap encHV := ⟨_, rfl⟩
          rw [← hzh] at HAH
          have HZH := Lib.hid hzh
          have HLH : Hid (zh.length = y1.length + (hs.flatMap encHV).length) := Lib.hid (by rw [hzh, List.length_append])
          have HLH' : Hid (zh.length ≤ 1300000) := Lib.hid (by have := HLH.out; have := YL1.out; have := HL9.out; have := HL6.out; have := TL.out; omega)
          clear hzh
          have hown := HAH.out.1
          unfold OwnB at hown
          have hfit : Fits (zh.length + 1) := fits_of _ (by have := HLH'.out; omega)
          have cq : wo.cell? ⟨bb, 19, none⟩ = some (.slice wa a.window.length wcp) := (HAH.out.2.cell (p := ⟨bb, 19, none⟩) HLT.out).trans (HC.out 19 _ rfl)
          have hszw := HAH.out.2.size
          go_wp2_with (at_builtin; refine wpList_append_lies _ rfl (.tmp 148) (.tmp 153) 29 rfl W0.heap.size 5 i0 (.int .u8 0) 1 1 Tryd.underlying29 hi hz0 hz1 hz2 rfl (by decide) u0 zh.length (bcells zh) rfl (hown.alloc _) ⟨wo.heap.size, 0, none⟩ 1 1 (bcells [byteOf a.window.length]) rfl rfl (byte_news _ _ _) (bcells_oneCell _) (by decide) hfit.max hfit.reach (by simp; omega) (wo.heap.size + 1) (by simp) ?_)
          intro g' cap wn2 hownn hgrow hg hlt
          have HB2 : Hid (AW W0 wn2 (.slice (some ⟨g', 0, none⟩) (zh.length + 1) cap) (zh ++ [byteOf a.window.length])) := Lib.hid (HAH.out.byte (below_alloc _ _) hownn hgrow hg (by omega))
          have hsz2 := HB2.out.2.size
          clear hown hownn hgrow hg hfit cq hszw hlt
          obtain ⟨y2, hy2⟩ : ∃ y, y = zh ++ [byteOf a.window.length] := ⟨_, rfl⟩
          rw [← hy2] at HB2
          have HY2 := Lib.hid hy2
          have YL2 : Hid (y2.length = zh.length + 1) := Lib.hid (by rw [hy2, List.length_append]; rfl)
          clear hy2
          go_wp2
          have NW2 := NW.out
          go_loopg [0, 12] a.window.length (fun g s0 s12 wr => ∃ k : Nat, k + g = a.window.length ∧ s12 = .int .i64 k ∧ AW W0 wr s0 (y2 ++ (a.window.take k).flatMap encEntry))
          case atStart => exact ⟨0, by omega, rfl, by simpa using HB2.out⟩
          case round =>
            obtain ⟨k, hkg, rfl, ha'⟩ := hrel
            obtain ⟨wo, rfl⟩ : ∃ x : World, x = wr := ⟨_, rfl⟩
            have hszo := ha'.2.size
            have cl : wo.cell? ⟨bb, 19, none⟩ = some (.slice wa a.window.length wcp) := (ha'.2.cell (p := ⟨bb, 19, none⟩) HLT.out).trans (HC.out 19 _ rfl)
            cases gk with
            | zero =>
              have hk : ¬ ((k : Int) < (a.window.length : Int)) := by omega
              have FIN : Hid (BytesPost w (encAcc a) (.returned u0) wo) := Lib.hid (by
                rw [List.take_of_length_le (by omega)] at ha'
                have e1 : hs.flatMap encHV = encHolds a.holds := by rw [← H.out.2.2.2.1, encHolds, List.flatMap_map]; rfl
                have e2 : hs.length = a.holds.length := by rw [← H.out.2.2.2.1, List.length_map]
                rw [HY2.out, HZH.out, HY1.out, HZ9.out, HY0.out, HZ6.out, HZ3.out, e1, e2] at ha'
                have e3 : [] ++ encText a.name ++ encText a.key ++ encPlan a.plan ++ encInt a.term ++ encInt a.frm ++ encInt a.till ++ [byteOf a.lots.length] ++ a.lots.flatMap encLot ++ encInt a.next ++ encInt a.over ++ [byteOf a.holds.length] ++ encHolds a.holds ++ [byteOf a.window.length] ++ a.window.flatMap encEntry = encAcc a := by
                  simp [encAcc, encLists, encLots, encEntries, encInts]
                rw [e3] at ha'
                exact ⟨u0, rfl, ownsRow_base ha'.1 HBX.out.size, HBX.out.trans (ha'.2.mono HBX.out.size)⟩)
              clear ha' hkg
              go_wp2
              go_ret
              exact FIN.out
            | succ g =>
              obtain ⟨x, hxk⟩ : ∃ x, a.window[k]? = some x := ⟨_, List.getElem?_eq_getElem (by omega)⟩
              have hk : (k : Int) < (a.window.length : Int) := by omega
              have hk0 : (0 : Int) ≤ (k : Int) := by omega
              have hkn : k < a.window.length := by omega
              have hk2 : a.window.length ≤ 1000000 := NW.out
              have PR := HR.out.2.2
              have HT := Lib.hid (flat_take encEntry a.window k x hxk)
              have hst := flat_step encEntry a.window k x hxk
              have HST : Hid ((y2 ++ (a.window.take k).flatMap encEntry).length + 100 ≤ 1300000) := Lib.hid (by
                rw [List.length_append]; have := YL2.out; have := HLH.out; have := YL1.out; have := HL9.out; have := HL6.out; have := TL.out; omega)
              have HA := Lib.hid ha'
              have HSH := Lib.hid (H.out.2.2.2.2.1 x (List.mem_of_getElem? hxk))
              clear ha' hst
              rcases PR with ⟨he, _, _, hv0⟩ | ⟨b, off, cp, hv0, hc0, hb, hx⟩
              · simp at he; rw [he] at hxk; simp at hxk
              · simp only [List.length_map, Value.slice.injEq] at hv0 hc0
                obtain ⟨hv1, _, hv2⟩ := hv0
                subst hv1 hv2
                have HRG0 : Hid (W0.rangeAt b (off + k * 14) x.cells.toList) := Lib.hid (hx k _ (by rw [List.getElem?_map, hxk]; rfl)).2
                have HBL : Hid (b < W0.heap.size) := Lib.hid hb
                clear hx hxk hb
                have win_id : ∀ {wx : World}, Below W0.heap.size W0 wx → wx.cell? ⟨b, off + k * 14, none⟩ = some (.int .i64 x.id) := fun hB => (hB.cell (p := ⟨b, off + k * 14, none⟩) HBL.out).trans (HRG0.out 0 _ rfl)
                have win_rng : ∀ {wx : World}, Below W0.heap.size W0 wx → wx.rangeAt b (off + k * 14 + 1) x.ans.cells.toList := fun hB j u hj => (hB.cell (p := ⟨b, off + k * 14 + 1 + j, none⟩) HBL.out).trans (by
                  rw [Nat.add_assoc (off + k * 14)]
                  refine HRG0.out (1 + j) u ?_
                  match j, hj with
                  | 0, hj | 1, hj | 2, hj | 3, hj | 4, hj | 5, hj | 6, hj | 7, hj | 8, hj | 9, hj | 10, hj | 11, hj | 12, hj => exact hj
                  | j + 13, hj => simp [AnsD.cells] at hj)
                have q0 := cl
                have q1 := win_id HA.out.2
                have q2 := (row_mid (cs := x.ans.cells) (n := 13) (win_rng HA.out.2) rfl).1
                have q3 := (row_mid (cs := x.ans.cells) (n := 13) (win_rng HA.out.2) rfl).2
                clear cl
                go_upto_region 29 with (fail)
                go_region_held3 (fun w' => w'.cell? ⟨bb, 19, none⟩ = some (.slice (some ⟨b, off, none⟩) a.window.length wcp) ∧ w'.cell? ⟨b, off + k * 14, none⟩ = some (.int .i64 x.id) ∧ isRow w' b (off + k * 14 + 1) 13 = true ∧ rowOf w' b (off + k * 14 + 1) 13 = x.ans.cells) (first | exact ⟨q0, q1, q2, q3⟩ | go_keep)
                  (first
                   | (go_at_call 33
                      go_must (refine (aw_int x.id (HA.out.below (Below.refl _ _).drew) (by have := HST.out; omega)).mono ?_)
                      rintro e w11 ⟨v11, rfl, sw11, gw11⟩
                      have q0 : w11.cell? ⟨bb, 19, none⟩ = some (.slice (some ⟨b, off, none⟩) a.window.length wcp) := (sw11.2.cell (p := ⟨bb, 19, none⟩) (by exact HLT.out)).trans (HC.out 19 _ rfl)
                      have q1 : w11.cell? ⟨b, off + k * 14, none⟩ = some (.int .i64 x.id) := win_id sw11.2
                      have q2 : isRow w11 b (off + k * 14 + 1) 13 = true := (row_mid (cs := x.ans.cells) (n := 13) (win_rng sw11.2) rfl).1
                      have q3 : rowOf w11 b (off + k * 14 + 1) 13 = x.ans.cells := (row_mid (cs := x.ans.cells) (n := 13) (win_rng sw11.2) rfl).2
                      have Hw11 := Lib.hid sw11
                      clear sw11
                      clear gw11)
                   | (go_at_call 34
                      go_must (refine (aw_ans x.ans Hw11.out (by have := HST.out; simp only [List.length_append, encInt_length] at this ⊢; omega) (by have := HSH.out; omega)).mono ?_)
                      rintro e w12 ⟨v12, rfl, sw12, gw12⟩
                      have q0 : w12.cell? ⟨bb, 19, none⟩ = some (.slice (some ⟨b, off, none⟩) a.window.length wcp) := (sw12.2.cell (p := ⟨bb, 19, none⟩) (by exact HLT.out)).trans (HC.out 19 _ rfl)
                      have q1 : w12.cell? ⟨b, off + k * 14, none⟩ = some (.int .i64 x.id) := win_id sw12.2
                      have q2 : isRow w12 b (off + k * 14 + 1) 13 = true := (row_mid (cs := x.ans.cells) (n := 13) (win_rng sw12.2) rfl).1
                      have q3 : rowOf w12 b (off + k * 14 + 1) 13 = x.ans.cells := (row_mid (cs := x.ans.cells) (n := 13) (win_rng sw12.2) rfl).2
                      have Hw12 := Lib.hid sw12
                      clear sw12
                      clear gw12))
                have FX : Hid (AW W0 w12 v12 (y2 ++ (a.window.take (k + 1)).flatMap encEntry)) := Lib.hid (by
                  rw [HT.out, ← List.append_assoc, encEntry, ← List.append_assoc]
                  have := Hw12.out
                  simpa [encInts] using this)
                clear q0 q1 q2 q3 Hw11 Hw12
                go_wp2
                go_roundg g
                case measure => omega
                case rel => exact ⟨k + 1, by omega, by first | rfl | go_num, FX.out⟩
        | succ g =>
          obtain ⟨x, hxk⟩ : ∃ x, hs[k]? = some x := ⟨_, List.getElem?_eq_getElem (by omega)⟩
          have hk : (k : Int) < (hs.length : Int) := by omega
          have hk2 : hs.length ≤ 1000000 := NH.out
          have PR := Items.below HR.out.2.1.1 ha'.2
          have HPX := Lib.hid (HR.out.2.1.2 x (List.mem_of_getElem? hxk))
          have HT := Lib.hid (flat_take encHV hs k x hxk)
          have hst := flat_step encHV hs k x hxk
          have HST : Hid ((y1 ++ (hs.take k).flatMap encHV).length + (encHV x).length ≤ 1250000) := Lib.hid (by
            rw [List.length_append]; have := YL1.out; have := HL9.out; have := HL6.out; have := TL.out; omega)
          have HA := Lib.hid ha'
          clear ha' hst
          rcases PR with ⟨he, _, _, hv0⟩ | ⟨b, off, cp, hv0, hc0, hb, hx⟩
          · simp at he; rw [he] at hxk; simp at hxk
          · simp only [List.length_map, Value.slice.injEq] at hv0 hc0
            obtain ⟨hv1, _, hv2⟩ := hv0
            subst hv1 hv2
            have hrg : wo.rangeAt b (off + k * 4) (x.1.cells x.2).toList := (hx k _ (by rw [List.getElem?_map, hxk]; rfl)).2
            have HRG := Lib.hid hrg
            clear hrg hx hxk
            obtain ⟨hd, pv⟩ := x
            obtain ⟨pa, pc, hpv⟩ : ∃ pa pc, pv = .slice pa hd.parts.length pc := by obtain ⟨x, y, e⟩ := Items.len HPX.out; have e2 : pv = _ := e; exact ⟨x, y, by rw [e2]; simp⟩
            subst hpv
            go_upto_region 19 with (first
              | (refine wpList_load_mid rfl 75 (.tmp 107) rfl b (off + k * 4) rfl (hd.cells (.slice pa hd.parts.length pc)).toList _ HRG.out Tryd.underlying75 rfl (by kernel_rfl) ?_)
              | (refine wpList_store_row rfl 75 (.tmp 10) (.tmp 108) rfl wo.heap.size (hd.cells (.slice pa hd.parts.length pc)) rfl rfl 75 (holdZ.cells (.slice none 0 0)) (heap_alloc_new _ _) (by kernel_rfl) rfl (hold_one_cells _ _ _ _) ?_))
            change Code.wp _ _ _ _ ((wo.alloc (.cells (holdZ.cells (.slice none 0 0)) 75)).setRow wo.heap.size (hd.cells (.slice pa hd.parts.length pc)))
            have hm := made_row wo (hd.cells (.slice pa hd.parts.length pc)) (holdZ.cells (.slice none 0 0)) 75
            generalize (wo.alloc (.cells (holdZ.cells (.slice none 0 0)) 75)).setRow wo.heap.size (hd.cells (.slice pa hd.parts.length pc)) = W3 at *
            have HA3' : Hid (AW W0 W3 u0 (y1 ++ (hs.take k).flatMap encHV)) := Lib.hid (HA.out.below hm.1)
            have HPB : Hid (W0.heap.size ≤ wo.heap.size ∧ wo.heap.size < W3.heap.size) := Lib.hid ⟨HA.out.2.size, by have := hm.2.2; omega⟩
            have HUP : Hid (u0.ownBlock ≠ some wo.heap.size) := Lib.hid (fun e => by have := (HA.out.1.lt _ e).2; omega)
            have HK : Hid (∀ (o : Nat) u, (hd.cells (.slice pa hd.parts.length pc))[o]? = some u → W3.cell? ⟨wo.heap.size, o, none⟩ = some u) := Lib.hid (fun o u h => by rw [cell_of_row _ _ _ _ _ _ hm.2.1]; exact h)
            generalize wo.heap.size = pb at *
            clear hm HRG HA cl
            have k0 : W3.cell? ⟨pb, 0, none⟩ = some (.int .i64 hd.id) := HK.out 0 _ rfl
            have k1 : W3.cell? ⟨pb, 1, none⟩ = some (.slice pa hd.parts.length pc) := HK.out 1 _ rfl
            go_upto_region 19 with (fail)
            obtain ⟨zk, hzk⟩ : ∃ z, z = y1 ++ (hs.take k).flatMap encHV := ⟨_, rfl⟩
            rw [← hzk] at HA3' HST
            have HZK := Lib.hid hzk
            have HST2 : Hid (zk.length + 16 * hd.parts.length + 25 ≤ 1250000) := Lib.hid (by have := HST.out; rw [encHV_length] at this; simp only at this; omega)
            clear hzk
            obtain ⟨ze, hze⟩ : ∃ z, z = zk ++ encInt hd.id := ⟨_, rfl⟩
            have HZE := Lib.hid hze
            have hfit : Fits (ze.length + 1) := fits_of _ (by rw [hze, List.length_append, encInt_length]; have := HST2.out; omega)
            clear hze
            go_frame
            go_cut [0] (fun s0 wx => AW W0 wx s0 (ze ++ [byteOf hd.parts.length]) ∧ (∀ (o : Nat) u, (hd.cells (.slice pa hd.parts.length pc))[o]? = some u → wx.cell? ⟨pb, o, none⟩ = some u) ∧ s0.ownBlock ≠ some pb ∧ pb < wx.heap.size)
            case first =>
              have hown3 := HA3'.out.1
              refine wp_region_held_drew (S := fun w' => w'.cell? ⟨pb, 0, none⟩ = some (.int .i64 hd.id) ∧ w'.cell? ⟨pb, 1, none⟩ = some (.slice pa hd.parts.length pc)) (by kernel_rfl) ⟨k0, k1⟩ (fun hHeld => ?_)
              have qS := hHeld
              clear hHeld
              refine wpAnyH_take (i := 0) (oi := { dst := some 109, op := Op.move (.tmp 0), type := 29, pos := "ref.go:167", after := #[], guard := none }) (v := ?_) rfl (by kernel_rfl) (by kernel_rfl) (by kernel_rfl) (fun _ _ _ h => h) (Or.inl ⟨by rfl, ?_⟩) qS ?_
              rotate_left
              · intro w hSw
                (try dsimp only at hSw)
                go_simp
                all_goals with_reducible rfl
              simp only [Act.put, List.setIfInBounds_toArray, List.set_cons_zero, List.set_cons_succ]
              refine wpAnyH_take (i := 1) (oi := { dst := some 110, op := Op.fieldAddr 75 (.tmp 10) 0, type := 0, pos := "ref.go:167", after := #[], guard := none }) (v := ?_) rfl (by kernel_rfl) (by kernel_rfl) (by kernel_rfl) (fun _ _ _ h => h) (Or.inl ⟨by rfl, ?_⟩) qS ?_
              rotate_left
              · intro w hSw
                (try dsimp only at hSw)
                go_simp
                all_goals with_reducible rfl
              simp only [Act.put, List.setIfInBounds_toArray, List.set_cons_zero, List.set_cons_succ]
              refine wpAnyH_take (i := 2) (oi := { dst := some 111, op := Op.load 3 (.tmp 110), type := 3, pos := "ref.go:167", after := #[{ on := 1, ground := .data }], guard := none }) (v := ?_) rfl (by kernel_rfl) (by kernel_rfl) (by kernel_rfl) (fun _ _ _ h => h) (Or.inl ⟨by rfl, ?_⟩) qS ?_
              rotate_left
              · intro w hSw
                (try dsimp only at hSw)
                go_simp
                all_goals with_reducible rfl
              simp only [Act.put, List.setIfInBounds_toArray, List.set_cons_zero, List.set_cons_succ]
              refine wpAnyH_take (i := 4) (oi := { dst := some 113, op := Op.fieldAddr 75 (.tmp 10) 1, type := 0, pos := "ref.go:167", after := #[], guard := none }) (v := ?_) rfl (by kernel_rfl) (by kernel_rfl) (by kernel_rfl) (fun _ _ _ h => h) (Or.inl ⟨by rfl, ?_⟩) qS ?_
              rotate_left
              · intro w hSw
                (try dsimp only at hSw)
                go_simp
                all_goals with_reducible rfl
              simp only [Act.put, List.setIfInBounds_toArray, List.set_cons_zero, List.set_cons_succ]
              refine wpAnyH_take (i := 5) (oi := { dst := some 114, op := Op.load 73 (.tmp 113), type := 73, pos := "ref.go:167", after := #[{ on := 4, ground := .data }], guard := none }) (v := ?_) rfl (by kernel_rfl) (by kernel_rfl) (by kernel_rfl) (fun _ _ _ h => h) (Or.inl ⟨by rfl, ?_⟩) qS ?_
              rotate_left
              · intro w hSw
                (try dsimp only at hSw)
                go_simp
                all_goals with_reducible rfl
              simp only [Act.put, List.setIfInBounds_toArray, List.set_cons_zero, List.set_cons_succ]
              refine wpAnyH_take (i := 6) (oi := { dst := some 115, op := Op.call { callee := Callee.builtin Builtin.len, args := #[.tmp 114], argTypes := #[73] }, type := 3, pos := "ref.go:167", after := #[{ on := 5, ground := .data }], guard := none }) (v := ?_) rfl (by kernel_rfl) (by kernel_rfl) (by kernel_rfl) (fun _ _ _ h => h) (Or.inl ⟨by rfl, ?_⟩) qS ?_
              rotate_left
              · intro w hSw
                (try dsimp only at hSw)
                go_simp
                all_goals with_reducible rfl
              simp only [Act.put, List.setIfInBounds_toArray, List.set_cons_zero, List.set_cons_succ]
              refine wpAnyH_take (i := 7) (oi := { dst := some 116, op := Op.convert 3 5 (.tmp 115), type := 5, pos := "ref.go:167", after := #[{ on := 6, ground := .data }], guard := none }) (v := ?_) rfl (by kernel_rfl) (by kernel_rfl) (by kernel_rfl) (fun _ _ _ h => h) (Or.inl ⟨by rfl, ?_⟩) qS ?_
              rotate_left
              · intro w hSw
                (try dsimp only at hSw)
                go_simp
                all_goals with_reducible rfl
              simp only [Act.put, List.setIfInBounds_toArray, List.set_cons_zero, List.set_cons_succ]
              refine H_pair (i := 3) (j := 8) (oi := { dst := some 112, op := Op.call { callee := Callee.value (.func 33), args := #[.tmp 109, .tmp 111], argTypes := #[29, 3] }, type := 29, pos := "ref.go:167", after := #[{ on := 0, ground := .data }, { on := 2, ground := .data }], guard := none }) (oj := { dst := some 117, op := Op.buildSlice 29 1 #[(0, .tmp 116)], type := 29, pos := "ref.go:167", after := #[{ on := 7, ground := .data }], guard := none }) (by kernel_rfl) rfl rfl (fun K hK => ?_) (fun K hK => ?_)
              · go_simp
                go_at_call 33
                go_must (refine (aw_int hd.id (HA3'.out.below (Below.refl _ _).drew) (by have := HST2.out; omega)).mono ?_)
                rintro e wc ⟨vc, rfl, swc, gwc⟩
                rw [← HZE.out] at swc
                have kc : ∀ (o : Nat) u, (hd.cells (.slice pa hd.parts.length pc))[o]? = some u → wc.cell? ⟨pb, o, none⟩ = some u := fun o u h => (gwc.cell (a := ⟨pb, o, none⟩) HPB.out.2 HUP.out).trans (HK.out o u h)
                have nc : vc.ownBlock ≠ some pb := gwc.other (by exact HPB.out.2) HUP.out
                have hsc : W3.heap.size ≤ wc.heap.size := gwc.size
                have q0 : wc.cell? ⟨pb, 0, none⟩ = some (.int .i64 hd.id) := kc 0 _ rfl
                have q1 : wc.cell? ⟨pb, 1, none⟩ = some (.slice pa hd.parts.length pc) := kc 1 _ rfl
                go_simp
                refine hK.out _ _ ⟨q0, q1⟩ ?_
                clear hK K
                (try simp only [Act.put, List.setIfInBounds_toArray, List.set_cons_zero, List.set_cons_succ])
                have qS2 := And.intro q0 q1
                clear qS
                have qS := qS2
                clear qS2
                refine H_one (i := 8) (o := { dst := some 117, op := Op.buildSlice 29 1 #[(0, .tmp 116)], type := 29, pos := "ref.go:167", after := #[{ on := 7, ground := .data }], guard := none }) (by kernel_rfl) rfl (fun K hK => ?_)
                go_simp
                refine hK.out _ _ ⟨Lib.cell?_alloc_some _ q0, Lib.cell?_alloc_some _ q1⟩ ?_
                clear hK K
                (try simp only [Act.put, List.setIfInBounds_toArray, List.set_cons_zero, List.set_cons_succ])
                have qS3 := And.intro (Lib.cell?_alloc_some (.cells #[.int .u8 (IntKind.u8.wrap hd.parts.length)] 5) q0) (Lib.cell?_alloc_some (.cells #[.int .u8 (IntKind.u8.wrap hd.parts.length)] 5) q1)
                clear qS
                have qS := qS3
                clear qS3
                have hbs : W0.heap.size ≤ wc.heap.size := swc.2.size
                have hownc := swc.1
                unfold OwnB at hownc
                refine H_one (i := 9) (o := { dst := some 118, op := Op.call { callee := Callee.builtin Builtin.append, args := #[.tmp 112, .tmp 117], argTypes := #[29, 29] }, type := 29, pos := "ref.go:167", after := #[{ on := 3, ground := .data }, { on := 8, ground := .data }, { on := 3, ground := .chain }], guard := none }) (by kernel_rfl) rfl (fun K hK => ?_)
                refine step_append_lies _ rfl (.tmp 112) (.tmp 117) 29 rfl W0.heap.size 5 i0 (.int .u8 0) 1 1 Tryd.underlying29 hi hz0 hz1 hz2 rfl (by decide) vc ze.length (bcells ze) rfl (hownc.alloc _) ⟨wc.heap.size, 0, none⟩ 1 1 (bcells [byteOf hd.parts.length]) rfl rfl (byte_news _ _ _) (bcells_oneCell _) (by decide) hfit.max hfit.reach (by first | exact hbs | (simp; omega)) _ rfl ?_
                intro g' cap wz hownz hgrow hg hltz
                have azf := Lib.hid (swc.byte (b := byteOf hd.parts.length) (below_alloc wc _) hownz hgrow hg (by simp))
                have gz := grew_of (n := ze.length + 1) (cap := cap) (below_alloc wc _) hgrow hg (by simp)
                have kz : ∀ (o : Nat) u, (hd.cells (.slice pa hd.parts.length pc))[o]? = some u → wz.cell? ⟨pb, o, none⟩ = some u := fun o u h => (gz.cell (a := ⟨pb, o, none⟩) (by show pb < wc.heap.size; have := HPB.out; omega) nc).trans (kc o u h)
                have nz : (Value.slice (some ⟨g', 0, none⟩) (ze.length + 1) cap).ownBlock ≠ some pb := gz.other (by have := HPB.out; omega) nc
                have hszz := gz.size
                clear hownz hgrow hg gz hownc
                (try go_simp)
                refine hK.out _ _ ⟨kz 0 _ rfl, kz 1 _ rfl⟩ ?_
                clear hK K
                (try simp only [Act.put, List.setIfInBounds_toArray, List.set_cons_zero, List.set_cons_succ])
                have qS2 : wz.cell? ⟨pb, 0, none⟩ = some (.int .i64 hd.id) ∧ wz.cell? ⟨pb, 1, none⟩ = some (.slice pa hd.parts.length pc) := ⟨kz 0 _ rfl, kz 1 _ rfl⟩
                clear qS
                have qS := qS2
                clear qS2
                refine wpAnyH_take (i := 10) (oi := { dst := some 0, op := Op.assign (.tmp 118), type := 29, pos := "ref.go:167", after := #[{ on := 9, ground := .data }, { on := 9, ground := .chain }, { on := 0, ground := .phase }, { on := 1, ground := .phase }, { on := 2, ground := .phase }, { on := 3, ground := .phase }, { on := 4, ground := .phase }, { on := 5, ground := .phase }, { on := 6, ground := .phase }, { on := 7, ground := .phase }, { on := 8, ground := .phase }, { on := 9, ground := .phase }], guard := none }) (v := ?_) rfl (by kernel_rfl) (by kernel_rfl) (by kernel_rfl) (fun _ _ _ h => h) (Or.inl ⟨by rfl, ?_⟩) qS ?_
                rotate_left
                · intro w hSw
                  (try dsimp only at hSw)
                  go_simp
                  all_goals with_reducible rfl
                simp only [Act.put, List.setIfInBounds_toArray, List.set_cons_zero, List.set_cons_succ]
                refine wpAnyH_done (by kernel_rfl) ?_ _
                go_wp2
                go_meet
                exact ⟨azf.out, kz, nz, by have := HPB.out; omega⟩
              · go_simp
                refine hK.out _ _ ⟨Lib.cell?_alloc_some _ k0, Lib.cell?_alloc_some _ k1⟩ ?_
                clear hK K
                (try simp only [Act.put, List.setIfInBounds_toArray, List.set_cons_zero, List.set_cons_succ])
                have qS3 := And.intro (Lib.cell?_alloc_some (.cells #[.int .u8 (IntKind.u8.wrap hd.parts.length)] 5) k0) (Lib.cell?_alloc_some (.cells #[.int .u8 (IntKind.u8.wrap hd.parts.length)] 5) k1)
                clear qS
                have qS := qS3
                clear qS3
                refine H_one (i := 3) (o := { dst := some 112, op := Op.call { callee := Callee.value (.func 33), args := #[.tmp 109, .tmp 111], argTypes := #[29, 3] }, type := 29, pos := "ref.go:167", after := #[{ on := 0, ground := .data }, { on := 2, ground := .data }], guard := none }) (by kernel_rfl) rfl (fun K hK => ?_)
                go_simp
                go_at_call 33
                go_must (refine (aw_int hd.id (by first | exact HA3'.out.below (below_alloc _ _).drew | exact HA3'.out.below ((below_alloc _ _))) (by have := HST2.out; omega)).mono ?_)
                rintro e wc ⟨vc, rfl, swc, gwc⟩
                rw [← HZE.out] at swc
                have hsb : (W3.alloc (.cells #[.int .u8 (IntKind.u8.wrap hd.parts.length)] 5)).heap.size = W3.heap.size + 1 := by simp
                have kc : ∀ (o : Nat) u, (hd.cells (.slice pa hd.parts.length pc))[o]? = some u → wc.cell? ⟨pb, o, none⟩ = some u := fun o u h => (gwc.cell (a := ⟨pb, o, none⟩) (by show pb < (W3.alloc _).heap.size; have := HPB.out; simp; omega) HUP.out).trans (Lib.cell?_alloc_some _ (HK.out o u h))
                have nc : vc.ownBlock ≠ some pb := gwc.other (by show pb < (W3.alloc _).heap.size; have := HPB.out; simp; omega) HUP.out
                have hsc : W3.heap.size ≤ wc.heap.size := by have h1 : (W3.alloc (.cells #[.int .u8 (IntKind.u8.wrap hd.parts.length)] 5)).heap.size ≤ wc.heap.size := gwc.size; omega
                have hnb : u0.ownBlock ≠ some W3.heap.size := fun e => by have := (HA3'.out.1.lt _ e).2; omega
                have hnews : ∀ j u, (bcells [byteOf hd.parts.length])[j]? = some u → wc.cell? ((⟨W3.heap.size, 0, none⟩ : Addr).add j) = some u := fun j u h => (gwc.cell (a := (⟨W3.heap.size, 0, none⟩ : Addr).add j) (by rw [Addr.add_lit]; show W3.heap.size < (W3.alloc _).heap.size; simp) (by rw [Addr.add_lit]; exact hnb)).trans (byte_news _ _ _ j u h)
                clear hsb hnb
                have q0 : wc.cell? ⟨pb, 0, none⟩ = some (.int .i64 hd.id) := kc 0 _ rfl
                have q1 : wc.cell? ⟨pb, 1, none⟩ = some (.slice pa hd.parts.length pc) := kc 1 _ rfl
                go_simp
                refine hK.out _ _ ⟨q0, q1⟩ ?_
                clear hK K
                (try simp only [Act.put, List.setIfInBounds_toArray, List.set_cons_zero, List.set_cons_succ])
                have qS2 := And.intro q0 q1
                clear qS
                have qS := qS2
                clear qS2
                have hbs : W0.heap.size ≤ wc.heap.size := swc.2.size
                have hownc := swc.1
                unfold OwnB at hownc
                refine H_one (i := 9) (o := { dst := some 118, op := Op.call { callee := Callee.builtin Builtin.append, args := #[.tmp 112, .tmp 117], argTypes := #[29, 29] }, type := 29, pos := "ref.go:167", after := #[{ on := 3, ground := .data }, { on := 8, ground := .data }, { on := 3, ground := .chain }], guard := none }) (by kernel_rfl) rfl (fun K hK => ?_)
                refine step_append_lies _ rfl (.tmp 112) (.tmp 117) 29 rfl W0.heap.size 5 i0 (.int .u8 0) 1 1 Tryd.underlying29 hi hz0 hz1 hz2 rfl (by decide) vc ze.length (bcells ze) rfl hownc ⟨W3.heap.size, 0, none⟩ 1 1 (bcells [byteOf hd.parts.length]) rfl rfl hnews (bcells_oneCell _) (by decide) hfit.max hfit.reach (by first | exact hbs | (simp; omega)) _ rfl ?_
                intro g' cap wz hownz hgrow hg hltz
                have azf := Lib.hid (swc.byte (b := byteOf hd.parts.length) (Below.refl _ wc) hownz hgrow hg (Nat.le_refl _))
                have gz := grew_of (n := ze.length + 1) (cap := cap) (Below.refl _ wc) hgrow hg (Nat.le_refl _)
                have kz : ∀ (o : Nat) u, (hd.cells (.slice pa hd.parts.length pc))[o]? = some u → wz.cell? ⟨pb, o, none⟩ = some u := fun o u h => (gz.cell (a := ⟨pb, o, none⟩) (by show pb < wc.heap.size; have := HPB.out; omega) nc).trans (kc o u h)
                have nz : (Value.slice (some ⟨g', 0, none⟩) (ze.length + 1) cap).ownBlock ≠ some pb := gz.other (by have := HPB.out; omega) nc
                have hszz := gz.size
                clear hownz hgrow hg gz hownc
                (try go_simp)
                refine hK.out _ _ ⟨kz 0 _ rfl, kz 1 _ rfl⟩ ?_
                clear hK K
                (try simp only [Act.put, List.setIfInBounds_toArray, List.set_cons_zero, List.set_cons_succ])
                have qS2 : wz.cell? ⟨pb, 0, none⟩ = some (.int .i64 hd.id) ∧ wz.cell? ⟨pb, 1, none⟩ = some (.slice pa hd.parts.length pc) := ⟨kz 0 _ rfl, kz 1 _ rfl⟩
                clear qS
                have qS := qS2
                clear qS2
                refine wpAnyH_take (i := 10) (oi := { dst := some 0, op := Op.assign (.tmp 118), type := 29, pos := "ref.go:167", after := #[{ on := 9, ground := .data }, { on := 9, ground := .chain }, { on := 0, ground := .phase }, { on := 1, ground := .phase }, { on := 2, ground := .phase }, { on := 3, ground := .phase }, { on := 4, ground := .phase }, { on := 5, ground := .phase }, { on := 6, ground := .phase }, { on := 7, ground := .phase }, { on := 8, ground := .phase }, { on := 9, ground := .phase }], guard := none }) (v := ?_) rfl (by kernel_rfl) (by kernel_rfl) (by kernel_rfl) (fun _ _ _ h => h) (Or.inl ⟨by rfl, ?_⟩) qS ?_
                rotate_left
                · intro w hSw
                  (try dsimp only at hSw)
                  go_simp
                  all_goals with_reducible rfl
                simp only [Act.put, List.setIfInBounds_toArray, List.set_cons_zero, List.set_cons_succ]
                refine wpAnyH_done (by kernel_rfl) ?_ _
                go_wp2
                go_meet
                exact ⟨azf.out, kz, nz, by have := HPB.out; omega⟩
            case rest =>
              obtain ⟨W5, rfl⟩ : ∃ x : World, x = wc := ⟨_, rfl⟩
              obtain ⟨haw, hk5, hn5, hp5⟩ := hcut
              obtain ⟨zp, hzp⟩ : ∃ z, z = ze ++ [byteOf hd.parts.length] := ⟨_, rfl⟩
              rw [← hzp] at haw
              have HZP := Lib.hid hzp
              have LZP : Hid (zp.length = zk.length + 9) := Lib.hid (by rw [hzp, HZE.out]; simp [encInt_length])
              have X5 := Lib.hid (And.intro haw (And.intro hk5 (And.intro hn5 hp5)))
              have hpn : hd.parts.length ≤ 100000 := by have := HST2.out; omega
              clear hzp haw hk5 hn5 hp5 k0 k1 hfit
              generalize hps : hd.parts = ps at *
              have HPS := Lib.hid hps
              clear hps
              go_wp2
              go_loopg [0, 11] ps.length (fun g2 s0 s11 wr => ∃ j : Nat, j + g2 = ps.length ∧ s11 = .int .i64 j ∧ AW W0 wr s0 (zp ++ encParts (ps.take j)) ∧ HoldBlk wr pb hd (.slice pa ps.length pc) ∧ s0.ownBlock ≠ some pb ∧ pb < wr.heap.size)
              case atStart => exact ⟨0, by omega, rfl, by simpa [encParts] using X5.out.1, X5.out.2.1, X5.out.2.2.1, X5.out.2.2.2⟩
              case round =>
                obtain ⟨j, hjg, rfl, haw, hkb, hn5, hp5⟩ := hrel
                obtain ⟨wi, rfl⟩ : ∃ x : World, x = wr := ⟨_, rfl⟩
                have q0 : wi.cell? ⟨pb, 1, none⟩ = some (.slice pa ps.length pc) := hkb 1 _ rfl
                have hle := encParts_take_le ps j
                have XI := Lib.hid (And.intro haw (And.intro hkb (And.intro hn5 hp5)))
                have hszi := haw.2.size
                clear haw hkb hn5
                cases gk with
                | zero =>
                  have hj : ¬ ((j : Int) < (ps.length : Int)) := by omega
                  have hjj : ps.take j = ps := List.take_of_length_le (by omega)
                  have AI : Hid (AW W0 wi u0 (zp ++ encParts ps)) := Lib.hid (by have := XI.out.1; rwa [hjj] at this)
                  have hpl := encParts_length ps
                  have HF : Hid ((zp ++ encParts ps).length + 20 ≤ 1260000) := Lib.hid (by rw [List.length_append]; have := LZP.out; have := HST2.out; omega)
                  clear hjj hle hpl
                  go_upto_region 24 with (fail)
                  clear q0 hj
                  have q1 : wi.cell? ⟨pb, 2, none⟩ = some (.int .i64 hd.over) := XI.out.2.1 2 _ rfl
                  have q2 : wi.cell? ⟨pb, 3, none⟩ = some (.int .i64 hd.till) := XI.out.2.1 3 _ rfl
                  go_region_held3 (fun w' => w'.cell? ⟨pb, 2, none⟩ = some (.int .i64 hd.over) ∧ w'.cell? ⟨pb, 3, none⟩ = some (.int .i64 hd.till)) (first | exact ⟨q1, q2⟩ | go_keep)
                    (first
                     | (go_at_call_of 33 (Value.int .i64 hd.over)
                        go_must (refine (aw_int hd.over (AI.out.below (Below.refl _ _).drew) (by have := HF.out; omega)).mono ?_)
                        rintro e w21 ⟨v21, rfl, s21, g21⟩
                        have q1 : w21.cell? ⟨pb, 2, none⟩ = some (.int .i64 hd.over) := (g21.cell (a := ⟨pb, 2, none⟩) XI.out.2.2.2 XI.out.2.2.1).trans (XI.out.2.1 2 _ rfl)
                        have q2 : w21.cell? ⟨pb, 3, none⟩ = some (.int .i64 hd.till) := (g21.cell (a := ⟨pb, 3, none⟩) XI.out.2.2.2 XI.out.2.2.1).trans (XI.out.2.1 3 _ rfl)
                        have H21 := Lib.hid s21
                        have G21 : Hid (v21.ownBlock ≠ some pb ∧ pb < w21.heap.size) := Lib.hid ⟨g21.other XI.out.2.2.2 XI.out.2.2.1, by have h1 : wi.heap.size ≤ w21.heap.size := g21.size; have := XI.out.2.2.2; omega⟩
                        clear s21 g21)
                     | (go_at_call_of 33 (Value.int .i64 hd.till)
                        go_must (refine (aw_int hd.till H21.out (by have := HF.out; simp only [List.length_append, encInt_length] at this ⊢; omega)).mono ?_)
                        rintro e w22 ⟨v22, rfl, s22, g22⟩
                        have q1 : w22.cell? ⟨pb, 2, none⟩ = some (.int .i64 hd.over) := (g22.cell (a := ⟨pb, 2, none⟩) G21.out.2 G21.out.1).trans q1
                        have q2 : w22.cell? ⟨pb, 3, none⟩ = some (.int .i64 hd.till) := (g22.cell (a := ⟨pb, 3, none⟩) G21.out.2 G21.out.1).trans q2
                        have H22 := Lib.hid s22
                        clear s22 g22))
                  have FX : Hid (AW W0 w22 v22 (y1 ++ (hs.take (k + 1)).flatMap encHV)) := Lib.hid (by
                    have := H22.out
                    rw [HZP.out, HZE.out, HZK.out] at this
                    rw [HT.out, encHV, encHold]
                    simp only
                    rw [HPS.out]
                    simpa [encInts, List.append_assoc] using this)
                  clear q1 q2 H21 H22 G21 AI
                  go_wp2
                  go_roundg g
                  case measure => omega
                  case rel => exact ⟨k + 1, by omega, by first | rfl | go_num, FX.out⟩
                | succ g2 =>
                  obtain ⟨p, hpk⟩ : ∃ p, ps[j]? = some p := ⟨_, List.getElem?_eq_getElem (by omega)⟩
                  have hj : (j : Int) < (ps.length : Int) := by omega
                  have hj0 : (0 : Int) ≤ (j : Int) := by omega
                  have hjn : j < ps.length := by omega
                  have HTJ := Lib.hid (flat_take encPart ps j p hpk)
                  have HPW : RdParts W0 (.slice pa ps.length pc) ps := HPX.out
                  rcases HPW with ⟨he, _, _, hv0⟩ | ⟨b2, off2, cp2, hv0, hc0, hb2, hx2⟩
                  · simp at he; rw [he] at hpk; simp at hpk
                  · simp only [List.length_map, Value.slice.injEq] at hv0 hc0
                    obtain ⟨hv1, _, hv2⟩ := hv0
                    subst hv1 hv2
                    have HRP : Hid (W0.rangeAt b2 (off2 + j * 2) p.cells.toList ∧ b2 < W0.heap.size) := Lib.hid ⟨(hx2 j _ (by rw [List.getElem?_map, hpk]; rfl)).2, hb2⟩
                    clear hx2 hpk hb2
                    have pc0 : ∀ {wx : World}, Below W0.heap.size W0 wx → wx.cell? ⟨b2, off2 + j * 2, none⟩ = some (.int .i64 p.lot) := fun hB => (hB.cell (p := ⟨b2, off2 + j * 2, none⟩) HRP.out.2).trans (HRP.out.1 0 _ rfl)
                    have pc1 : ∀ {wx : World}, Below W0.heap.size W0 wx → wx.cell? ⟨b2, off2 + j * 2 + 1, none⟩ = some (.int .i64 p.n) := fun hB => (hB.cell (p := ⟨b2, off2 + j * 2 + 1, none⟩) HRP.out.2).trans (HRP.out.1 1 _ rfl)
                    have q1 := pc0 XI.out.1.2
                    have q2 := pc1 XI.out.1.2
                    have HF : Hid ((zp ++ encParts (ps.take j)).length + 20 ≤ 1270000) := Lib.hid (by rw [List.length_append]; have := LZP.out; have := HST2.out; omega)
                    clear hle
                    go_upto_region 23 with (fail)
                    go_region_held3 (fun w' => w'.cell? ⟨pb, 1, none⟩ = some (.slice (some ⟨b2, off2, none⟩) ps.length pc) ∧ w'.cell? ⟨b2, off2 + j * 2, none⟩ = some (.int .i64 p.lot) ∧ w'.cell? ⟨b2, off2 + j * 2 + 1, none⟩ = some (.int .i64 p.n)) (first | exact ⟨q0, q1, q2⟩ | go_keep)
                      (first
                       | (go_at_call_of 33 (Value.int .i64 p.lot)
                          go_must (refine (aw_int p.lot (XI.out.1.below (Below.refl _ _).drew) (by have := HF.out; omega)).mono ?_)
                          rintro e w21 ⟨v21, rfl, s21, g21⟩
                          have q0 : w21.cell? ⟨pb, 1, none⟩ = some (.slice (some ⟨b2, off2, none⟩) ps.length pc) := (g21.cell (a := ⟨pb, 1, none⟩) XI.out.2.2.2 XI.out.2.2.1).trans (XI.out.2.1 1 _ rfl)
                          have q1 := pc0 s21.2
                          have q2 := pc1 s21.2
                          have H21 := Lib.hid s21
                          have G21 : Hid (HoldBlk w21 pb hd (.slice (some ⟨b2, off2, none⟩) ps.length pc) ∧ v21.ownBlock ≠ some pb ∧ pb < w21.heap.size) := Lib.hid ⟨fun o u h => (g21.cell (a := ⟨pb, o, none⟩) XI.out.2.2.2 XI.out.2.2.1).trans (XI.out.2.1 o u h), g21.other XI.out.2.2.2 XI.out.2.2.1, by have h1 : wi.heap.size ≤ w21.heap.size := g21.size; have := XI.out.2.2.2; omega⟩
                          clear s21 g21)
                       | (go_at_call_of 33 (Value.int .i64 p.n)
                          go_must (refine (aw_int p.n H21.out (by have := HF.out; simp only [List.length_append, encInt_length] at this ⊢; omega)).mono ?_)
                          rintro e w22 ⟨v22, rfl, s22, g22⟩
                          have q0 : w22.cell? ⟨pb, 1, none⟩ = some (.slice (some ⟨b2, off2, none⟩) ps.length pc) := (g22.cell (a := ⟨pb, 1, none⟩) G21.out.2.2 G21.out.2.1).trans (G21.out.1 1 _ rfl)
                          have q1 := pc0 s22.2
                          have q2 := pc1 s22.2
                          have H22 := Lib.hid s22
                          have G22 : Hid (HoldBlk w22 pb hd (.slice (some ⟨b2, off2, none⟩) ps.length pc) ∧ v22.ownBlock ≠ some pb ∧ pb < w22.heap.size) := Lib.hid ⟨fun o u h => (g22.cell (a := ⟨pb, o, none⟩) G21.out.2.2 G21.out.2.1).trans (G21.out.1 o u h), g22.other G21.out.2.2 G21.out.2.1, by have h1 : w21.heap.size ≤ w22.heap.size := g22.size; have := G21.out.2.2; omega⟩
                          clear s22 g22))
                    have FX : Hid (AW W0 w22 v22 (zp ++ encParts (ps.take (j + 1)))) := Lib.hid (by
                      have := H22.out
                      unfold encParts at this ⊢
                      rw [HTJ.out]
                      simpa [encPart, encInts, List.append_assoc] using this)
                    clear q0 q1 q2 H21 H22 G21
                    go_wp2
                    go_roundg g2
                    case measure => omega
                    case rel => exact ⟨j + 1, by omega, by first | rfl | go_num, FX.out, G22.out.1, G22.out.2.1, G22.out.2.2⟩
    | succ g =>
      obtain ⟨x, hxk⟩ : ∃ x, a.lots[k]? = some x := ⟨_, List.getElem?_eq_getElem (by omega)⟩
      have hk : (k : Int) < (a.lots.length : Int) := by omega
      have hk2 : a.lots.length ≤ 1000000 := NL.out
      have PR := Items.below HR.out.1 ha.2
      have HT := Lib.hid (flat_take encLot a.lots k x hxk)
      have hst := flat_step encLot a.lots k x hxk
      have HST : Hid ((y0 ++ (a.lots.take k).flatMap encLot).length + 100 ≤ 1100000) := Lib.hid (by
        rw [List.length_append]; have := YL0.out; have := HL6.out; have := TL.out.1; omega)
      have HA := Lib.hid ha
      clear ha hst
      rcases PR with ⟨he, _, _, hv0⟩ | ⟨b, off, cp, hv0, hc0, hb, hx⟩
      · simp at he; rw [he] at hxk; simp at hxk
      · simp only [List.length_map, Value.slice.injEq] at hv0 hc0
        obtain ⟨hv1, _, hv2⟩ := hv0
        subst hv1 hv2
        have hrg : wo.rangeAt b (off + k * 9) x.cells.toList := (hx k _ (by rw [List.getElem?_map, hxk]; rfl)).2
        have HRG := Lib.hid hrg
        clear hrg hx hxk
        go_upto_region 8 with (first
          | (refine wpList_load_mid rfl 72 (.tmp 50) rfl b (off + k * 9) rfl x.cells.toList _ HRG.out Tryd.underlying72 rfl (by kernel_rfl) ?_)
          | (refine wpList_store_row rfl 72 (.tmp 6) (.tmp 51) rfl wo.heap.size x.cells rfl rfl 72 lotZ.cells (heap_alloc_new _ _) (by kernel_rfl) rfl (lot_one_cells _) ?_))
        change Code.wp _ _ _ _ ((wo.alloc (.cells lotZ.cells 72)).setRow wo.heap.size x.cells)
        have hm := made_row wo x.cells lotZ.cells 72
        generalize (wo.alloc (.cells lotZ.cells 72)).setRow wo.heap.size x.cells = W3 at *
        have HA3' : Hid (AW W0 W3 u0 (y0 ++ (a.lots.take k).flatMap encLot)) := Lib.hid (HA.out.below hm.1)
        have e0 : W3.cell? ⟨wo.heap.size, 0, none⟩ = some (.int .i64 x.id) := (cell_of_row _ _ _ _ _ _ hm.2.1).trans rfl
        have e1 : W3.cell? ⟨wo.heap.size, 1, none⟩ = some (.int .i64 x.kind) := (cell_of_row _ _ _ _ _ _ hm.2.1).trans rfl
        have e2 : W3.cell? ⟨wo.heap.size, 2, none⟩ = some (.int .i64 x.frm) := (cell_of_row _ _ _ _ _ _ hm.2.1).trans rfl
        have e3 : W3.cell? ⟨wo.heap.size, 3, none⟩ = some (.int .i64 x.till) := (cell_of_row _ _ _ _ _ _ hm.2.1).trans rfl
        have e4 : W3.cell? ⟨wo.heap.size, 4, none⟩ = some (.int .i64 x.granted) := (cell_of_row _ _ _ _ _ _ hm.2.1).trans rfl
        have e5 : W3.cell? ⟨wo.heap.size, 5, none⟩ = some (.int .i64 x.consumed) := (cell_of_row _ _ _ _ _ _ hm.2.1).trans rfl
        have e6 : W3.cell? ⟨wo.heap.size, 6, none⟩ = some (.int .i64 x.held) := (cell_of_row _ _ _ _ _ _ hm.2.1).trans rfl
        have e7 : W3.cell? ⟨wo.heap.size, 7, none⟩ = some (.int .i64 x.expired) := (cell_of_row _ _ _ _ _ _ hm.2.1).trans rfl
        have e8 : W3.cell? ⟨wo.heap.size, 8, none⟩ = some (.int .i64 x.rolled) := (cell_of_row _ _ _ _ _ _ hm.2.1).trans rfl
        have hs3 : W0.heap.size ≤ W3.heap.size := HA3'.out.2.size
        clear hm HRG HA cl
        go_upto_region 9 with (fail)
        clear e0 e1 e2 e3 e4 e5 e6 e7 e8
        change Code.wp _ _ _ _ (W3.alloc (.cells (x.nums.map (Value.int .i64)).toArray 3))
        have hB4 := below_alloc W3 (.cells (x.nums.map (Value.int .i64)).toArray 3)
        have hb4 := heap_alloc_new W3 (.cells (x.nums.map (Value.int .i64)).toArray 3)
        have hs4 : (W3.alloc (.cells (x.nums.map (Value.int .i64)).toArray 3)).heap.size = W3.heap.size + 1 := by simp
        generalize W3.alloc (.cells (x.nums.map (Value.int .i64)).toArray 3) = W4 at *
        have HN : Hid (∀ (j : Nat) n, x.nums[j]? = some n → W4.cell? ⟨W3.heap.size, j, none⟩ = some (.int .i64 n)) := Lib.hid (fun j n h => by rw [cell_of_row W4 _ _ _ _ _ hb4]; simp [h])
        have HS4 := Lib.hid hs4
        have HA4 : Hid (AW W0 W4 u0 (y0 ++ (a.lots.take k).flatMap encLot)) := Lib.hid (HA3'.out.below hB4)
        have hv4 : Hid (u0.ownBlock ≠ some W3.heap.size) := Lib.hid (fun e => by have := (HA3'.out.1.lt _ e).2; omega)
        clear hb4 hs4 hB4 HA3'
        generalize W3.heap.size = nb at *
        obtain ⟨vb, hvb⟩ : ∃ v, v = u0 := ⟨_, rfl⟩
        rw [← hvb] at HA4 hv4
        generalize hzz : y0 ++ (a.lots.take k).flatMap encLot = z1 at *
        have HZ := Lib.hid hzz
        have HVB := Lib.hid hvb
        clear hzz hvb
        have hnl : x.nums.length = 9 := rfl
        go_wp2
        go_loopg [0, 8] 9 (fun g2 s0 s8 wr => ∃ j : Nat, j + g2 = 9 ∧ s8 = .int .i64 j ∧ OwnB wr W0.heap.size s0 (z1 ++ encInts (x.nums.take j)) ∧ Grew W4 wr vb s0)
        case atStart => exact ⟨0, by omega, rfl, by rw [← HVB.out]; simpa [encInts] using HA4.out.1, by rw [← HVB.out]; exact Grew.refl _ _⟩
        case round =>
          obtain ⟨j, hjg, rfl, ho, hg⟩ := hrel
          have hsz := hg.size
          cases gk with
          | zero =>
            have hj : ¬ ((j : Int) < 9) := by omega
            have F : Hid (AW W0 wr u0 (z1 ++ encLot x)) := Lib.hid (by
              rw [List.take_of_length_le (by omega)] at ho
              exact HA4.out.grow ho hg)
            clear ho hg
            go_wp2
            go_roundg g
            case measure => omega
            case rel =>
              refine ⟨k + 1, by omega, by first | rfl | go_num, ?_⟩
              rw [HT.out, ← List.append_assoc, HZ.out]
              exact F.out
          | succ g2 =>
            have hj : (j : Int) < 9 := by omega
            have hj9 : j < 9 := by omega
            obtain ⟨n, hn2⟩ : ∃ n, x.nums[j]? = some n := ⟨_, List.getElem?_eq_getElem (by omega)⟩
            have hcn : wr.cell? ⟨nb, j, none⟩ = some (.int .i64 n) := (hg.cell (a := ⟨nb, j, none⟩) (by show nb < W4.heap.size; have := HS4.out; omega) hv4.out).trans (HN.out j n hn2)
            have HTJ := Lib.hid (encInts_take x.nums j n hn2)
            have hlt := encInts_take_length x.nums j
            have HF : Hid ((z1 ++ encInts (x.nums.take j)).length ≤ 2000000) := Lib.hid (by rw [List.length_append]; have := HST.out; omega)
            have HRR := Lib.hid (And.intro (HA4.out.grow ho hg) (And.intro ho hg))
            clear ho hg hn2 hlt
            go_wp2_with (go_at_call 33; go_must (refine (aw_int n HRR.out.1 HF.out).mono ?_); rintro e w7 ⟨v7, rfl, s7, g7⟩; have X := Lib.hid (And.intro s7 g7); clear s7 g7)
            go_roundg g2
            case measure => omega
            case rel =>
              refine ⟨j + 1, by omega, by first | rfl | go_num, ?_, HRR.out.2.2.trans X.out.2⟩
              rw [HTJ.out, ← List.append_assoc]
              exact X.out.1.1
end Go.Proofs.YtehkgcmdndehaaaDoor

