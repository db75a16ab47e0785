/- Part of the proof: merged texts. -/
import Derived.Test.YtehkgcmdndehaaaDoorGPRA05
import Derived.Test.YtehkgcmdndehaaaDoorGPRA02
import Derived.Test.YtehkgcmdndehaaaDoorGPRA03
import Derived.Deep.RegionHeld3
import Derived.Deep.RegionWith
import Derived.Deep.MidRow
import Derived.Deep.DeepCutAuto
import Derived.Deep.CutBlock
namespace Go.Proofs.YtehkgcmdndehaaaDoor
set_option linter.unusedSimpArgs false
set_option linter.unusedVariables false
open Go.RowKit

theorem stmt_num_cell (st : StmtD) (k : Nat) (n : Int) (h : st.nums[k]? = some n) : (st.nums.map (Value.int .i64))[k]? = some (.int .i64 n) := by simp [h]

set_option maxHeartbeats 1600000 in
set_option maxRecDepth 100000 in
theorem ref_wstmt (base : Nat) (v : Value) (xs : List UInt8) (st : StmtD) (w : World) (hown : OwnB w base v xs) (hb : base ≤ w.heap.size) (hx : xs.length ≤ 100000000) (hn : st.name.size ≤ 3000) :
    Calls Tryd.prog 15 #[v, .agg st.cells] w (GrewPost w base v (xs ++ encStmt st)) := by
  have HO := Lib.hid hown
  clear hown
  go_enter Tryd.func15, Tryd.ntmps15
  go_upto_region 1 with (fail)
  have hB0 := below_alloc w (.cells st.cells 28)
  have hblk := heap_alloc_new w (.cells st.cells 28)
  have hs0 : (w.alloc (.cells st.cells 28)).heap.size = w.heap.size + 1 := by simp
  generalize w.alloc (.cells st.cells 28) = W at *
  have HC : Hid (∀ o u, st.cells[o]? = some u → W.cell? ⟨w.heap.size, o, none⟩ = some u) := Lib.hid (fun o u h => by rw [cell_of_row W _ _ _ _ _ hblk]; exact h)
  have HOW := Lib.hid (HO.out.of_below hB0)
  have HS0 := Lib.hid hs0
  have HB0 := Lib.hid hB0
  have hv0 : Hid (v.ownBlock ≠ some w.heap.size) := Lib.hid (fun e => by have := (HO.out.lt _ e).2; omega)
  clear hblk hs0 hB0
  generalize hbb : w.heap.size = bb at *
  have HBB := Lib.hid hbb
  clear hbb
  have k0 : W.cell? ⟨bb, 0, none⟩ = some (.string st.name) := HC.out 0 _ rfl
  go_upto_region 2 with (go_at_call 32; refine (ref_wtext base v xs st.name W HOW.out (by have := HS0.out; omega) (fits_of _ (by omega))).mono ?_; rintro e w2 ⟨v1, rfl, ho1, hg1⟩)
  have hs2 := hg1.size
  have hcells : ∀ o u, st.cells[o]? = some u → w2.cell? ⟨bb, o, none⟩ = some u := fun o u h => (hg1.cell (a := ⟨bb, o, none⟩) (by show bb < W.heap.size; have := HS0.out; omega) hv0.out).trans (HC.out o u h)
  have k1 : w2.cell? ⟨bb, 1, none⟩ = some (.int .i64 st.term) := hcells 1 _ rfl
  have k2 : w2.cell? ⟨bb, 2, none⟩ = some (.int .i64 st.frm) := hcells 2 _ rfl
  have k3 : w2.cell? ⟨bb, 3, none⟩ = some (.int .i64 st.till) := hcells 3 _ rfl
  have k4 : w2.cell? ⟨bb, 4, none⟩ = some (.int .i64 st.granted) := hcells 4 _ rfl
  have k5 : w2.cell? ⟨bb, 5, none⟩ = some (.int .i64 st.consumed) := hcells 5 _ rfl
  have k6 : w2.cell? ⟨bb, 6, none⟩ = some (.int .i64 st.expired) := hcells 6 _ rfl
  have k7 : w2.cell? ⟨bb, 7, none⟩ = some (.int .i64 st.rolled) := hcells 7 _ rfl
  have k8 : w2.cell? ⟨bb, 8, none⟩ = some (.int .i64 st.over) := hcells 8 _ rfl
  have G2 := Lib.hid (And.intro ho1 hg1)
  clear ho1 hg1 hcells k0 hs2
  go_upto_block 0 with (fail)
  clear k1 k2 k3 k4 k5 k6 k7 k8
  change Code.wp _ _ _ _ (w2.alloc (.cells (st.nums.map (Value.int .i64)).toArray 3))
  have hB3 := below_alloc w2 (.cells (st.nums.map (Value.int .i64)).toArray 3)
  have hb3 := heap_alloc_new w2 (.cells (st.nums.map (Value.int .i64)).toArray 3)
  have hs3 : (w2.alloc (.cells (st.nums.map (Value.int .i64)).toArray 3)).heap.size = w2.heap.size + 1 := by simp
  generalize w2.alloc (.cells (st.nums.map (Value.int .i64)).toArray 3) = W3 at *
  have HN : Hid (∀ k n, st.nums[k]? = some n → W3.cell? ⟨w2.heap.size, k, none⟩ = some (.int .i64 n)) := Lib.hid (fun k n h => by rw [cell_of_row W3 _ _ _ _ _ hb3]; simp [h])
  have HS3 := Lib.hid hs3
  have HO3 := Lib.hid (G2.out.1.of_below hB3)
  have HB3 := Lib.hid hB3
  have hv1 : Hid (v1.ownBlock ≠ some w2.heap.size) := Lib.hid (fun e => by have := (G2.out.1.lt _ e).2; omega)
  clear hb3 hs3 hB3
  generalize hnb : w2.heap.size = nb at *
  have HNB := Lib.hid hnb
  clear hnb
  have hzl : (xs ++ encText st.name).length ≤ 100010000 := by rw [List.length_append, encText_length]; omega
  generalize hzz : xs ++ encText st.name = z1 at *
  have HZ := Lib.hid hzz
  clear hzz
  have hnl : st.nums.length = 8 := rfl
  go_wp2
  go_loopg [0, 6] 8 (fun g s0 s6 wr => ∃ k : Nat, k + g = 8 ∧ s6 = .int .i64 k ∧ OwnB wr base s0 (z1 ++ encInts (st.nums.take k)) ∧ Grew W3 wr v1 s0)
  case atStart => exact ⟨0, by omega, rfl, by simpa [encInts] using HO3.out, Grew.refl _ _⟩
  case round =>
    obtain ⟨k, hkg, rfl, ho, hg⟩ := hrel
    have hsz := hg.size
    cases gk with
    | zero =>
      have hk : ¬ ((k : Int) < 8) := by omega
      have F : Hid (GrewPost w base v (xs ++ encStmt st) (.returned u0) wr) := Lib.hid (by
        refine ⟨u0, rfl, ?_, (((Grew.of_below (by rw [HBB.out]; exact HB0.out)).trans G2.out.2).trans (Grew.of_below (by rw [HNB.out]; exact HB3.out))).trans hg⟩
        rw [List.take_of_length_le (by omega), ← HZ.out] at ho
        rw [encStmt, ← List.append_assoc]
        exact ho)
      clear ho hg
      go_wp2
      go_ret
      exact F.out
    | succ g =>
      have hk : (k : Int) < 8 := by omega
      have hk8 : k < 8 := by omega
      obtain ⟨n, hn2⟩ : ∃ n, st.nums[k]? = some n := ⟨_, List.getElem?_eq_getElem (by omega)⟩
      have hcn : wr.cell? ⟨nb, k, none⟩ = some (.int .i64 n) := (hg.cell (a := ⟨nb, k, none⟩) (by show nb < W3.heap.size; have := HS3.out; omega) hv1.out).trans (HN.out k n hn2)
      have HT := Lib.hid (encInts_take st.nums k n hn2)
      have hlt := encInts_take_length st.nums k
      have hfit : Fits ((z1 ++ encInts (st.nums.take k)).length + 8) := fits_of _ (by rw [List.length_append]; omega)
      have hbw : base ≤ wr.heap.size := by have := HS3.out; have := HS0.out; have := G2.out.2.size; have := HNB.out; omega
      have HR := Lib.hid (And.intro ho hg)
      clear ho hg hn2
      go_wp2_with (go_at_call 33; refine (ref_int base u0 _ n wr HR.out.1 hbw hfit).mono ?_; rintro e w7 ⟨v7, rfl, ho7, hg7⟩; have X := Lib.hid (And.intro ho7 hg7); clear ho7 hg7)
      go_roundg g
      case measure => omega
      case rel =>
        refine ⟨k + 1, by omega, by first | rfl | go_num, ?_, HR.out.2.trans X.out.2⟩
        rw [HT.out, ← List.append_assoc]
        exact X.out.1
end Go.Proofs.YtehkgcmdndehaaaDoor

namespace Go.Proofs.YtehkgcmdndehaaaDoor
set_option linter.unusedSimpArgs false
set_option linter.unusedVariables false
open Go.RowKit

/-- Bytes that grow beside a block bb with an answer. -/
structure AnW (W0 w : World) (base bb : Nat) (v0 v : Value) (xs : List UInt8) (a : AnsD) : Prop where
  own : OwnB w base v xs
  grew : Grew W0 w v0 v
  lt : bb < W0.heap.size
  ne : v0.ownBlock ≠ some bb
  b0 : base ≤ W0.heap.size
  cells : ∀ o u, a.cells[o]? = some u → w.cell? ⟨bb, o, none⟩ = some u
def AnWPost (W0 : World) (base bb : Nat) (v0 : Value) (xs : List UInt8) (a : AnsD) (e : Ending) (w' : World) : Prop := ∃ v', e = .returned v' ∧ AnW W0 w' base bb v0 v' xs a
theorem AnW.grow {W0 w w' : World} {base bb : Nat} {v0 v v' : Value} {xs ys : List UInt8} {a : AnsD} (h : AnW W0 w base bb v0 v xs a) (ho : OwnB w' base v' ys) (hg : Grew w w' v v') : AnW W0 w' base bb v0 v' ys a :=
  ⟨ho, h.grew.trans hg, h.lt, h.ne, h.b0, fun o u hu => (hg.cell (a := ⟨bb, o, none⟩) (Nat.lt_of_lt_of_le h.lt h.grew.size) (h.grew.other h.lt h.ne)).trans (h.cells o u hu)⟩
theorem anw_int {W0 w : World} {base bb : Nat} {v0 v : Value} {xs : List UInt8} {a : AnsD} (n : Int) (h : AnW W0 w base bb v0 v xs a) (hl : Fits (xs.length + 8)) :
    Calls Tryd.prog 33 #[v, .int .i64 n] w (AnWPost W0 base bb v0 (xs ++ encInt n) a) := by
  refine (ref_int base v xs n w h.own (Nat.le_trans h.b0 h.grew.size) hl).mono ?_
  rintro e w' ⟨v', rfl, ho, hg⟩
  exact ⟨v', rfl, h.grow ho hg⟩

theorem step_load_mid {P : Program} {ops : Array Oper} {o : Oper} {a : Act} {w : World} {K : Act → World → Prop} {Q : Exit → Act → World → Prop} {E : Prop} (hgd : o.guard = none) (ty : TypeId) (x : Operand) (ho : o.op = .load ty x)
    (b of : Nat) (hx : a.eval x = .pointer (some ⟨b, of, none⟩)) (cs : List Value) (d : TypeDesc) (hc : w.rangeAt b of cs)
    (hu : P.underlying ty = some d) (hd : d.isRow = true) (hi : (P.info? ty).map (·.size) = some cs.length)
    (h : K (a.put o.dst (.agg cs.toArray)) w) : if Region.wanted o (yielded ops a.tmps) = true then Oper.wp P o a w K Q else E := by
  rw [if_pos (by simp [Region.wanted, hgd])]
  exact wp_load_mid ty x ho b of hx cs d hc hu hd hi h

set_option maxHeartbeats 3200000 in
set_option maxRecDepth 100000 in
theorem ref_wans (base : Nat) (v : Value) (xs : List UInt8) (a : AnsD) (w : World) (hown : OwnB w base v xs) (hb : base ≤ w.heap.size) (hx : xs.length ≤ 50000000) (hn : a.stmt.name.size ≤ 3000) :
    Calls Tryd.prog 34 #[v, a.value] w (GrewPost w base v (xs ++ encAns a)) := by
  unfold AnsD.value
  have HO := Lib.hid hown
  clear hown
  go_enter Tryd.func34, Tryd.ntmps34
  go_upto_region 1 with (fail)
  obtain ⟨i0, hi, hz0, hz1, hz2⟩ := info_parts infoU8
  have hB0 := below_alloc w (.cells a.cells 70)
  have hblk := heap_alloc_new w (.cells a.cells 70)
  have hs0 : (w.alloc (.cells a.cells 70)).heap.size = w.heap.size + 1 := by simp
  generalize w.alloc (.cells a.cells 70) = W at *
  have HC : Hid (∀ o u, a.cells[o]? = some u → W.cell? ⟨w.heap.size, o, none⟩ = some u) := Lib.hid (fun o u h => by rw [cell_of_row W _ _ _ _ _ hblk]; exact h)
  have HOW := Lib.hid (HO.out.of_below hB0)
  have HS0 := Lib.hid hs0
  have HB0 := Lib.hid hB0
  have hv0 : Hid (v.ownBlock ≠ some w.heap.size) := Lib.hid (fun e => by have := (HO.out.lt _ e).2; omega)
  clear hblk hs0 hB0
  generalize hbb : w.heap.size = bb at *
  have HBB := Lib.hid hbb
  clear hbb
  have k0 : W.cell? ⟨bb, 0, none⟩ = some (.int .i64 a.err) := HC.out 0 _ rfl
  have k1 : W.cell? ⟨bb, 1, none⟩ = some (.int .i64 a.left) := HC.out 1 _ rfl
  have k2 : W.cell? ⟨bb, 2, none⟩ = some (.int .i64 a.over) := HC.out 2 _ rfl
  have k3 : W.cell? ⟨bb, 3, none⟩ = some (.int .i64 a.n) := HC.out 3 _ rfl
  have hf1 : Fits (xs.length + 1) := fits_of _ (by omega)
  have hown := HOW.out
  unfold OwnB at hown
  have hbW : base ≤ W.heap.size := by have := HS0.out; omega
  have F1 : Hid (Fits ((xs ++ [byteOf a.err]).length + 8)) := Lib.hid (fits_of _ (by simp only [List.length_append, List.length_singleton]; omega))
  have F2 : Hid (Fits (((xs ++ [byteOf a.err]) ++ encInt a.left).length + 8)) := Lib.hid (fits_of _ (by simp only [List.length_append, List.length_singleton, encInt_length]; omega))
  have F3 : Hid (Fits ((((xs ++ [byteOf a.err]) ++ encInt a.left) ++ encInt a.over).length + 8)) := Lib.hid (fits_of _ (by simp only [List.length_append, List.length_singleton, encInt_length]; omega))
  have hbl : bb < W.heap.size := by have := HS0.out; omega
  have HANW : Hid (AnW W W base bb v v xs a) := Lib.hid ⟨HOW.out, Grew.refl _ _, hbl, hv0.out, hbW, HC.out⟩
  go_region_held3 (fun w' => w'.cell? ⟨bb, 0, none⟩ = some (.int .i64 a.err) ∧ w'.cell? ⟨bb, 1, none⟩ = some (.int .i64 a.left) ∧ w'.cell? ⟨bb, 2, none⟩ = some (.int .i64 a.over) ∧ w'.cell? ⟨bb, 3, none⟩ = some (.int .i64 a.n)) (first | exact ⟨q0, q1, q2, q3⟩ | go_keep)
    (first
      | (go_at_call_of 33 (Value.int .i64 a.left)
         refine (anw_int a.left H1.out F1.out).mono ?_
         rintro e w2 ⟨v2, rfl, s2⟩
         have H2 := Lib.hid s2
         have q0 : w2.cell? ⟨bb, 0, none⟩ = some (.int .i64 a.err) := s2.cells 0 _ rfl
         have q1 : w2.cell? ⟨bb, 1, none⟩ = some (.int .i64 a.left) := s2.cells 1 _ rfl
         have q2 : w2.cell? ⟨bb, 2, none⟩ = some (.int .i64 a.over) := s2.cells 2 _ rfl
         have q3 : w2.cell? ⟨bb, 3, none⟩ = some (.int .i64 a.n) := s2.cells 3 _ rfl
         clear s2)
      | (go_at_call_of 33 (Value.int .i64 a.over)
         refine (anw_int a.over H2.out F2.out).mono ?_
         rintro e w3 ⟨v3, rfl, s3⟩
         have H3 := Lib.hid s3
         have q0 : w3.cell? ⟨bb, 0, none⟩ = some (.int .i64 a.err) := s3.cells 0 _ rfl
         have q1 : w3.cell? ⟨bb, 1, none⟩ = some (.int .i64 a.left) := s3.cells 1 _ rfl
         have q2 : w3.cell? ⟨bb, 2, none⟩ = some (.int .i64 a.over) := s3.cells 2 _ rfl
         have q3 : w3.cell? ⟨bb, 3, none⟩ = some (.int .i64 a.n) := s3.cells 3 _ rfl
         clear s3)
      | (go_at_call_of 33 (Value.int .i64 a.n)
         refine (anw_int a.n H3.out F3.out).mono ?_
         rintro e w4 ⟨v4, rfl, s4⟩
         have H4 := Lib.hid s4
         have q0 : w4.cell? ⟨bb, 0, none⟩ = some (.int .i64 a.err) := s4.cells 0 _ rfl
         have q1 : w4.cell? ⟨bb, 1, none⟩ = some (.int .i64 a.left) := s4.cells 1 _ rfl
         have q2 : w4.cell? ⟨bb, 2, none⟩ = some (.int .i64 a.over) := s4.cells 2 _ rfl
         have q3 : w4.cell? ⟨bb, 3, none⟩ = some (.int .i64 a.n) := s4.cells 3 _ rfl
         clear s4)
      | (refine step_append_lies _ (by rfl) (.tmp 5) (.tmp 9) 29 (by rfl) base 5 i0 (.int .u8 0) 1 1 Tryd.underlying29 hi hz0 hz1 hz2 rfl (by decide) v xs.length (bcells xs) (by rfl) (by first | exact (hown.alloc _).drew | exact hown.drew.alloc _) ⟨W.heap.size, 0, none⟩ 1 1 (bcells [byteOf a.err]) (by rfl) (by rfl) (by first | exact news_one _ _ _ (wrap_byteOf _) _ | exact (news_one W _ _ (wrap_byteOf _) _)) (bcells_oneCell _) (by decide) hf1.max hf1.reach (by simp; omega) (W.heap.size + 1) (by simp) ?_
         intro g' cap w1 hown1 hgrow hg hlt
         have G1 : Grew W w1 v (.slice (some ⟨g', 0, none⟩) (xs.length + 1) cap) := grew_of (below_alloc W _).drew hgrow (hg.imp id (fun h => by omega)) (S := W.heap.size + 1) (by omega)
         have ho1 : OwnB w1 base (.slice (some ⟨g', 0, none⟩) (xs.length + 1) cap) (xs ++ [byteOf a.err]) := by unfold OwnB; simpa [bcells] using hown1
         have s1 := HANW.out.grow ho1 G1
         have H1 := Lib.hid s1
         have q0 : w1.cell? ⟨bb, 0, none⟩ = some (.int .i64 a.err) := s1.cells 0 _ rfl
         have q1 : w1.cell? ⟨bb, 1, none⟩ = some (.int .i64 a.left) := s1.cells 1 _ rfl
         have q2 : w1.cell? ⟨bb, 2, none⟩ = some (.int .i64 a.over) := s1.cells 2 _ rfl
         have q3 : w1.cell? ⟨bb, 3, none⟩ = some (.int .i64 a.n) := s1.cells 3 _ rfl
         clear hown1 hgrow hg hlt G1 ho1 s1))
  have k5 : w4.cell? ⟨bb, 5, none⟩ = some (.int .i64 a.stmt.term) := H4.out.cells 5 _ rfl
  have hrg : w4.rangeAt bb 4 a.stmt.cells.toList := fun j u hj => by
    refine H4.out.cells (4 + j) u ?_
    have e : a.cells.toList = [.int .i64 a.err, .int .i64 a.left, .int .i64 a.over, .int .i64 a.n] ++ a.stmt.cells.toList := rfl
    rw [← Array.getElem?_toList, e, List.getElem?_append_right (by simp)]
    simpa using hj
  have hlz : (xs ++ [byteOf a.err] ++ encInt a.left ++ encInt a.over ++ encInt a.n).length ≤ 50000025 := by simp only [List.length_append, List.length_singleton, encInt_length]; omega
  have hez : xs ++ encAns a = (xs ++ [byteOf a.err] ++ encInt a.left ++ encInt a.over ++ encInt a.n) ++ (if a.stmt.term = 0 then [0] else 1 :: encStmt a.stmt) := by
    simp [encAns, encInts, List.append_assoc]
  have hbw : base ≤ w4.heap.size := by have := H4.out.grew.size; omega
  have hblw : bb < w4.heap.size := by have := H4.out.grew.size; omega
  have HFIN : Hid (∀ (u : Value) (ys : List UInt8) (w' : World), OwnB w' base u ((xs ++ [byteOf a.err] ++ encInt a.left ++ encInt a.over ++ encInt a.n) ++ ys) → Grew w4 w' v4 u → (if a.stmt.term = 0 then [0] else 1 :: encStmt a.stmt) = ys → GrewPost w base v (xs ++ encAns a) (.returned u) w') := Lib.hid (by
    intro u ys w' ho hg he
    refine ⟨u, rfl, by rw [hez, he]; exact ho, ((Grew.of_below (by rw [HBB.out]; exact HB0.out)).trans H4.out.grew).trans hg⟩)
  have HO4 := Lib.hid H4.out.own
  have HVB : Hid (v4.ownBlock ≠ some bb) := Lib.hid (H4.out.grew.other H4.out.lt H4.out.ne)
  generalize xs ++ [byteOf a.err] ++ encInt a.left ++ encInt a.over ++ encInt a.n = zs at *
  clear hez
  clear q0 q1 q2 q3 H1 H2 H3 H4 F1 F2 F3 HANW k0 k1 k2 k3 hown HOW HC hf1
  have hf1 : Fits (zs.length + 1) := fits_of _ (by omega)
  have hown := HO4.out
  unfold OwnB at hown
  by_cases ht : a.stmt.term = 0
  · have hb0 : (a.stmt.term == 0) = true := by rw [ht]; rfl
    have HT := Lib.hid ht
    clear ht
    go_wp2_with (at_builtin; refine wpList_append_lies _ rfl (.tmp 24) (.tmp 25) 29 rfl base 5 i0 (.int .u8 0) 1 1 Tryd.underlying29 hi hz0 hz1 hz2 rfl (by decide) v4 zs.length (bcells zs) rfl (hown.alloc _) ⟨w4.heap.size, 0, none⟩ 1 1 (bcells [0]) rfl rfl ?c1 (bcells_oneCell _) (by decide) hf1.max hf1.reach (by simp; omega) (w4.heap.size + 1) (by simp) ?_)
    case c1 => intro j u hj; match j, hj with | 0, hj => simp [bcells] at hj; subst hj; simp [Addr.add]
    intro g2 cap2 w5 hown5 hgrow5 hg5 hlt5
    have G5 : Grew w4 w5 v4 (.slice (some ⟨g2, 0, none⟩) (zs.length + 1) cap2) := grew_of (below_alloc w4 _) hgrow5 (hg5.imp id (fun h => by omega)) (S := w4.heap.size + 1) (by omega)
    have ho5 : OwnB w5 base (.slice (some ⟨g2, 0, none⟩) (zs.length + 1) cap2) (zs ++ [0]) := by unfold OwnB; simpa [bcells] using hown5
    have F := Lib.hid (HFIN.out _ _ _ ho5 G5 (if_pos HT.out))
    clear hown5 hgrow5 hg5 hlt5 G5 ho5 hrg
    go_wp2
    go_ret
    exact F.out
  · have hb0 : (a.stmt.term == 0) = false := by simp [ht]
    have HT := Lib.hid ht
    clear ht
    have HRG := Lib.hid hrg
    clear hrg
    have m0 : w4.cell? ⟨bb, 4, none⟩ = some (.string a.stmt.name) := HRG.out 0 _ rfl
    have m1 : w4.cell? ⟨bb, 5, none⟩ = some (.int .i64 a.stmt.term) := HRG.out 1 _ rfl
    have m2 : w4.cell? ⟨bb, 6, none⟩ = some (.int .i64 a.stmt.frm) := HRG.out 2 _ rfl
    have m3 : w4.cell? ⟨bb, 7, none⟩ = some (.int .i64 a.stmt.till) := HRG.out 3 _ rfl
    have m4 : w4.cell? ⟨bb, 8, none⟩ = some (.int .i64 a.stmt.granted) := HRG.out 4 _ rfl
    have m5 : w4.cell? ⟨bb, 9, none⟩ = some (.int .i64 a.stmt.consumed) := HRG.out 5 _ rfl
    have m6 : w4.cell? ⟨bb, 10, none⟩ = some (.int .i64 a.stmt.expired) := HRG.out 6 _ rfl
    have m7 : w4.cell? ⟨bb, 11, none⟩ = some (.int .i64 a.stmt.rolled) := HRG.out 7 _ rfl
    have m8 : w4.cell? ⟨bb, 12, none⟩ = some (.int .i64 a.stmt.over) := HRG.out 8 _ rfl
    go_upto_region 4 with (fail)
    go_region_law (first
      | (refine step_append_lies _ rfl (.tmp 27) (.tmp 28) 29 rfl base 5 i0 (.int .u8 0) 1 1 Tryd.underlying29 hi hz0 hz1 hz2 rfl (by decide) v4 zs.length (bcells zs) rfl (by first | exact (hown.alloc _).drew | exact hown.drew.alloc _) ⟨w4.heap.size, 0, none⟩ 1 1 (bcells [1]) rfl rfl (by first | exact news_one _ _ _ rfl _ | exact (news_one w4 _ _ rfl _)) (bcells_oneCell _) (by decide) hf1.max hf1.reach (by simp; omega) (w4.heap.size + 1) (by simp) ?_
         intro g2 cap2 w5 hown5 hgrow5 hg5 hlt5
         have G5 : Hid (Grew w4 w5 v4 (.slice (some ⟨g2, 0, none⟩) (zs.length + 1) cap2)) := Lib.hid (grew_of (by first | exact (below_alloc w4 _).drew | exact (below_alloc w4 _)) hgrow5 (hg5.imp id (fun h => by omega)) (S := w4.heap.size + 1) (by omega))
         have HO5 : Hid (OwnB w5 base (.slice (some ⟨g2, 0, none⟩) (zs.length + 1) cap2) (zs ++ [1])) := Lib.hid (by unfold OwnB; simpa [bcells] using hown5)
         have HR5 : Hid (w5.rangeAt bb 4 a.stmt.cells.toList) := Lib.hid (fun j u hj => (G5.out.cell (a := ⟨bb, 4 + j, none⟩) hblw (HVB.out)).trans (HRG.out j u hj))
         clear hown5 hgrow5 hg5 hlt5
         have n0 : w5.cell? ⟨bb, 4, none⟩ = some (.string a.stmt.name) := HR5.out 0 _ rfl
         have n1 : w5.cell? ⟨bb, 5, none⟩ = some (.int .i64 a.stmt.term) := HR5.out 1 _ rfl
         have n2 : w5.cell? ⟨bb, 6, none⟩ = some (.int .i64 a.stmt.frm) := HR5.out 2 _ rfl
         have n3 : w5.cell? ⟨bb, 7, none⟩ = some (.int .i64 a.stmt.till) := HR5.out 3 _ rfl
         have n4 : w5.cell? ⟨bb, 8, none⟩ = some (.int .i64 a.stmt.granted) := HR5.out 4 _ rfl
         have n5 : w5.cell? ⟨bb, 9, none⟩ = some (.int .i64 a.stmt.consumed) := HR5.out 5 _ rfl
         have n6 : w5.cell? ⟨bb, 10, none⟩ = some (.int .i64 a.stmt.expired) := HR5.out 6 _ rfl
         have n7 : w5.cell? ⟨bb, 11, none⟩ = some (.int .i64 a.stmt.rolled) := HR5.out 7 _ rfl
         have n8 : w5.cell? ⟨bb, 12, none⟩ = some (.int .i64 a.stmt.over) := HR5.out 8 _ rfl)
      | (go_simp
         go_at_call 15
         go_must (refine (ref_wstmt base (.slice (some ⟨g2, 0, none⟩) (zs.length + 1) cap2) (zs ++ [1]) a.stmt w5 HO5.out (Nat.le_trans hbw G5.out.size) (by simp; omega) hn).mono ?_)
         go_must (rintro e w6 ⟨v6, rfl, s6⟩)
         go_must (have F := Lib.hid (HFIN.out v6 (1 :: encStmt a.stmt) w6 (by simpa using s6.1) (G5.out.trans s6.2) (if_neg HT.out)))
         clear s6))
    all_goals go_wp2
    all_goals go_ret
    all_goals exact F.out
end Go.Proofs.YtehkgcmdndehaaaDoor


