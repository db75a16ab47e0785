/-
  Law FrameTurns, walked.
-/
import Derived.Test.YtehkgcmdndehaaaRefQ
import Derived.Test.YtehkgcmdndehaaaRegW
import Derived.Test.YtehkgcmdndehaaaReqF
import Derived.Test.YtehkgcmdndehaaaLdRow
import Derived.Test.YtehkgcmdndehaaaOpenB
import Derived.Test.YtehkgcmdndehaaaAnsL
import Derived.Test.YtehkgcmdndehaaaLaw18
import Derived.Test.YtehkgcmdndehaaaRefP
import Derived.Test.YtehkgcmdndehaaaOpenAns
import Derived.Great.Walk
import Derived.ChangeSlices
import Derived.OpenShut
import Derived.WideShapes
import Derived.Deep.DeepCutAuto
import Derived.Deep.CutBlock
namespace Go.Proofs.Ytehkgcmdndehaaa
set_option linter.unusedSimpArgs false
set_option linter.unusedVariables false
open Go.RowKit

theorem ld_req (ρ : Operand → Value) (dst : Option Tmp) (x : Operand) (t : TypeId) (pos : String) (after : Array Edge) (guard : Option (Nat × Bool)) (w : World) (h : okPtr 18 (ρ x) w = true) :
    (execOp ρ { dst, op := .load 25 x, type := t, pos, after, guard }).run Try.prog w = .ok (.value (.agg (ptrRow 18 (ρ x) w))) w :=
  run_ex_load ρ dst x t pos after guard w _ 18 _ Try.underlying25 rfl (by kernel_rfl) h
/-- A block's cells that read as a request, in a world beyond. -/
theorem rq_row {w0 w' : World} {b : Nat} {q : ReqD} (h : w0.heap[b]? = some (.cells q.cells 25 (0, 0))) (hB : Below w0.heap.size w0 w') : isRow w' b 0 18 = true ∧ rowOf w' b 0 18 = q.cells := by
  have hb : b < w0.heap.size := (Array.getElem?_eq_some_iff.1 h).1
  have hr : w'.rangeAt b 0 q.cells.toList := fun j u hj => by
    rw [Nat.zero_add]
    refine (hB.cell (p := ⟨b, j, none⟩) hb).trans ?_
    rw [cell_of_row _ _ _ _ _ _ h]; simpa using hj
  exact ⟨isRow_range (cs := q.cells) hr, rowOf_range (cs := q.cells) hr⟩
theorem parseQ_shape (bs : List UInt8) : ∃ q : ReqD, (parseReqC bs).1 = q.cells.toList := by
  rw [parseReqC_eq, prKind_eq]
  split
  · exact ⟨reqZ0, rfl⟩
  · rw [prKey_eq, prNums_eq, prTexts_eq, prMore_eq]
    generalize (Rd.one ⟨bs, false⟩).1 = k
    generalize (Rd.one ⟨bs, false⟩).2 = r
    obtain ⟨q, hq, _⟩ := good_shape (good_more (Rd.strs (textOffs k).length (Rd.ints (numOffs k).length r.str.2).2).2 (good_texts (Rd.ints (numOffs k).length r.str.2).2 (good_nums r.str.2 (good_init k (strB r.str.1)))))
    rw [hq, prEnd_eq]
    split
    · split
      · exact ⟨reqZ0, rfl⟩
      · exact ⟨{ q with plan := _ }, putPlan_cells q _⟩
    · split
      · exact ⟨reqZ0, rfl⟩
      · split
        · exact ⟨reqZ0, rfl⟩
        · exact ⟨q, rfl⟩
/-- What EncodeRequest answers: bytes, an error. -/
def encR (q : ReqD) : List UInt8 × Int := if kindB q.kind = false then ([], 3) else if q.long = true then ([], 5) else (q.bytes, 0)
theorem encR_ok (q : ReqD) (h : (encR q).2 = 0) : kindB q.kind = true ∧ q.long = false ∧ (encR q).1 = q.bytes := by
  unfold encR at *
  cases hk : kindB q.kind with
  | false => simp [hk] at h
  | true =>
    cases hl : q.long with
    | true => simp [hk, hl] at h
    | false => simp [hk, hl]
def EncRPost (w : World) (p : List UInt8 × Int) (e : Ending) (w' : World) : Prop := ∃ v, e = .returned (.tuple #[v, .int .i64 p.2]) ∧ Reads w' v p.1 ∧ Below w.heap.size w w'
theorem ref_encR (q : ReqD) (w : World) : Calls Try.prog 28 #[.agg q.cells] w (EncRPost w (encR q)) := by
  unfold encR
  cases hk : kindB q.kind with
  | false => rw [if_pos rfl]; exact (ref_enc_bad q w hk).mono fun e w' h => ⟨_, h.1, Reads.nil _, h.2⟩
  | true =>
    rw [if_neg (by decide)]
    refine (ref_enc_req q w hk).mono fun e w' h => ?_
    unfold RefEncPost at h
    split at h
    · rw [if_pos ‹_›]; exact ⟨_, h.1, Reads.nil _, h.2⟩
    · rw [if_neg ‹_›]
      obtain ⟨v, he, ho, hB⟩ := h
      exact ⟨v, he, Reads.of_own ho, hB⟩
/-- ParseRequest, on both sides. -/
def PqPost (w : World) (Q : ReqD) (err : Int) (e : Ending) (w' : World) : Prop := e = .returned (.tuple #[.agg Q.cells, .int .i64 err]) ∧ Below w.heap.size w w'
theorem pq_of {w : World} {p : List Value × Int} {Q : ReqD} {e : Ending} {w' : World} (h : PrPost w p e w') (hQ : p.1 = Q.cells.toList) : PqPost w Q p.2 e w' := by
  obtain ⟨h1, h2⟩ := h
  rw [hQ] at h1
  exact ⟨h1, h2⟩
set_option maxRecDepth 100000 in
theorem neq_req (q : ReqD) (w : World) : (binOp .neq 25 (.agg q.cells) (.agg q.cells)).run Try.prog w = .ok (.bool false) w := by
  unfold ReqD.cells
  go_simp
theorem row_madeR (w : World) (cs cs0 : Array Value) (T : TypeId) : Below w.heap.size w ((w.alloc (.cells cs0 T)).setRow w.heap.size cs) ∧ ((w.alloc (.cells cs0 T)).setRow w.heap.size cs).heap[w.heap.size]? = some (.cells cs T (0, 0)) ∧ ((w.alloc (.cells cs0 T)).setRow w.heap.size cs).heap.size = w.heap.size + 1 :=
  ⟨below_setRow (below_alloc _ _) (Nat.le_refl _) _, setRow_heap _ _ _ _ _ _ (heap_alloc_new _ _), by simp⟩
theorem row_on {w w' : World} {b : Nat} {o : Obj} (h : w.heap[b]? = some o) (hB : Below w.heap.size w w') : w'.heap[b]? = some o := (hB.block b (Array.getElem?_eq_some_iff.1 h).1).trans h
theorem bl_drewN3 {B : Nat} {w w' : World} (h : Below B w w') (n : Nat) : Below B w (w'.drewN n) := ⟨h.os, h.tape, h.output, h.size, h.block⟩

/-- The value reads as ints. -/
def RdInts (w : World) (v : Value) (ns : List Int) : Prop :=
  ∃ a c, v = .slice a ns.length c ∧ ∀ (i : Nat) (n : Int), ns[i]? = some n → (Lit.int .i64 n).wf = true ∧ ∃ b off, a = some ⟨b, off, none⟩ ∧ b < w.heap.size ∧ w.cell? ⟨b, off + i, none⟩ = some (.int .i64 n)
set_option maxRecDepth 100000 in
theorem open_intsR {H : Type} {enc : TypeId × Value → H} {w : World} {base : Nat} {spare : Nat → Bool} {held : Bool} {r : Reach} {b0 : Nat} {v : Value} {d : DataW H} {p : List MemPlace}
    (hv : Value.okWide Try.prog w r b0 68 v) (h : DataW.Trod enc Try.prog w base spare held 68 v d p) (hw : (d.weights Try.prog 68).all (· ≤ reachBytes) = true) :
    ∃ ns : List Int, RdInts w v ns ∧ ns.length ≤ 140737488351232 := by
  have hby : Try.prog.bytesOf 3 = 8 := by kernel_rfl
  obtain ⟨a0, len0, cap0, rfl⟩ := Go.WideShapes.okWide_slice Try.underlying68 hv
  obtain ⟨fuel, hf⟩ := h
  rcases Go.ChangeShapes.open_ints Try.underlying68 Try.underlying3 (by kernel_rfl) hf with ⟨hcs, _⟩ | ⟨a, len, cap, zs, hcs, hb, hl, hm, hz, hx, hcell, hwf⟩
  · simp [Value.cells] at hcs
    obtain ⟨rfl, rfl, rfl⟩ := hcs
    exact ⟨[], ⟨none, 0, rfl, fun i n h => by simp at h⟩, by simp⟩
  · simp only [Value.cells, List.cons.injEq, and_true] at hcs
    cases hcs
    have hlz : len0 ≤ zs.length := by rw [hz]; split <;> omega
    have hd : d = .slice (Go.ChangeShapes.lits .i64 (zs.take len0)) (Go.ChangeShapes.lits .i64 (zs.drop len0)) := congrArg Prod.fst hx
    have hlen : len0 ≤ 140737488351232 := by
      subst hd
      simp only [DataW.weights, Try.underlying68, List.all_cons, Bool.and_eq_true, decide_eq_true_eq, hby] at hw
      have := hw.1
      simp [Go.ChangeShapes.lits, reachBytes] at this
      omega
    refine ⟨zs.take len0, ⟨some a, cap0, by rw [List.length_take, Nat.min_eq_left hlz], fun i n hi => ?_⟩, by rw [List.length_take]; omega⟩
    rw [List.getElem?_take] at hi
    split at hi
    · obtain ⟨hi1, hi2⟩ := List.getElem?_eq_some_iff.1 hi
      have hc := hcell i hi1
      have hg : zs.getD i 0 = n := by simp [List.getD, hi]
      rw [hg] at hc
      have hspot : a.spot = none := by
        have hc0 := hcell 0 (by omega)
        rw [show a.add 0 = a from rfl] at hc0
        exact World.cell?_spot hc0
      have hblt : a.block < w.heap.size := by
        have hc0 := hcell 0 (by omega)
        rw [show a.add 0 = a from rfl] at hc0
        exact World.block_lt_of_cell? w a hc0
      obtain ⟨b, off, spot⟩ := a
      simp only at hspot
      subst hspot
      rw [Addr.add_lit] at hc
      exact ⟨hwf n (by rw [← hi2]; exact List.getElem_mem _), b, off, rfl, hblt, hc⟩
    · cases hi
theorem RdInts.on {w w' : World} {v : Value} {ns : List Int} (h : RdInts w v ns) (hB : Below w.heap.size w w') : RdInts w' v ns := by
  obtain ⟨a, c, hv, hx⟩ := h
  refine ⟨a, c, hv, fun i n hi => ?_⟩
  obtain ⟨h1, b, off, h2, h3, h4⟩ := hx i n hi
  exact ⟨h1, b, off, h2, Nat.lt_of_lt_of_le h3 hB.size, (hB.cell (p := ⟨b, off + i, none⟩) h3).trans h4⟩
set_option maxRecDepth 100000 in
theorem neq_ansR (a : AnsD) (w : World) : (binOp .neq 38 (.agg a.cells) (.agg a.cells)).run Try.prog w = .ok (.bool false) w := by
  unfold AnsD.cells
  go_simp
theorem ld_ansR (ρ : Operand → Value) (dst : Option Tmp) (x : Operand) (t : TypeId) (pos : String) (after : Array Edge) (guard : Option (Nat × Bool)) (w : World) (h : okPtr 13 (ρ x) w = true) :
    (execOp ρ { dst, op := .load 38 x, type := t, pos, after, guard }).run Try.prog w = .ok (.value (.agg (ptrRow 13 (ρ x) w))) w :=
  run_ex_load ρ dst x t pos after guard w _ 13 _ Try.underlying38 rfl (by kernel_rfl) h
theorem an_row {w0 w' : World} {b : Nat} {q : AnsD} (h : w0.heap[b]? = some (.cells q.cells 38 (0, 0))) (hB : Below w0.heap.size w0 w') : isRow w' b 0 13 = true ∧ rowOf w' b 0 13 = q.cells := by
  have hb : b < w0.heap.size := (Array.getElem?_eq_some_iff.1 h).1
  have hr : w'.rangeAt b 0 q.cells.toList := fun j u hj => by
    rw [Nat.zero_add]
    refine (hB.cell (p := ⟨b, j, none⟩) hb).trans ?_
    rw [cell_of_row _ _ _ _ _ _ h]; simpa using hj
  exact ⟨isRow_range (cs := q.cells) hr, rowOf_range (cs := q.cells) hr⟩
theorem encAns_len (a : AnsD) (h : a.stmt.name.size ≤ 255) : 1 ≤ (encAns a).length ∧ (encAns a).length ≤ 2000 := by
  unfold encAns
  split
  · simp [encInts_length]
  · simp [encStmt, encInts_length, encText_length, StmtD.nums]; omega
theorem ownB_take {w : World} {base g n n' cap : Nat} {zs : List UInt8} (h : OwnB w base (.slice (some ⟨g, 0, none⟩) n cap) zs) (hn : n' ≤ n) : OwnB w base (.slice (some ⟨g, 0, none⟩) n' cap) (zs.take n') := by
  unfold OwnB at *
  rcases h.2 with ⟨h', _⟩ | ⟨g', cap', cur, h', hb, hg, hnc, hcm, hcs, ht⟩
  · cases h'
  · cases h'
    have hl2 : (zs.take n').length = n' := by rw [List.length_take]; omega
    rw [hl2]
    refine ⟨by simp [bcells]; omega, .inr ⟨g, cap, cur, rfl, hb, hg, by omega, hcm, hcs, ?_⟩⟩
    have : (cur.toList.take (zs.length * 1)).take n' = (bcells zs).take n' := by rw [ht]
    rw [List.take_take, Nat.min_eq_left (by omega)] at this
    rw [Nat.mul_one, this]
    simp [bcells, List.map_take]

attribute [local go_sem ↓] ld_req

theorem ownB_shape {w : World} {base : Nat} {v : Value} {xs : List UInt8} (h : OwnB w base v xs) (h1 : 1 ≤ xs.length) : ∃ g c, v = .slice (some ⟨g, 0, none⟩) xs.length c ∧ base ≤ g ∧ g < w.heap.size := by
  unfold OwnB at h
  rcases h.2 with ⟨_, h'⟩ | ⟨g, c, cur, h', hb, hg, _⟩
  · omega
  · exact ⟨g, c, h', hb, (Array.getElem?_eq_some_iff.1 hg).1⟩
theorem ownB_shape2 {w : World} {base : Nat} {v : Value} {xs : List UInt8} (h : OwnB w base v xs) (h1 : 1 ≤ xs.length) : ∃ g n c, v = .slice (some ⟨g, 0, none⟩) n c := by
  obtain ⟨g, c, hv, _⟩ := ownB_shape h h1
  exact ⟨g, _, c, hv⟩
theorem ownB_lt {w : World} {base g n c : Nat} {xs : List UInt8} (h : OwnB w base (.slice (some ⟨g, 0, none⟩) n c) xs) : base ≤ g ∧ g < w.heap.size ∧ (∀ i, w.frozen? ⟨g, i, none⟩ = false) ∧ n ≤ c := by
  unfold OwnB at h
  rcases h.2 with ⟨h', _⟩ | ⟨g', c', cur, h', hb, hg, hn, _⟩
  · cases h'
  · cases h'
    exact ⟨hb, (Array.getElem?_eq_some_iff.1 hg).1, fun i => frozen_of_row _ _ _ _ _ hg, hn⟩
theorem ownB_same {w w' : World} {base g n c : Nat} {xs : List UInt8} (h : OwnB w base (.slice (some ⟨g, 0, none⟩) n c) xs) (hb : w'.heap[g]? = w.heap[g]?) : OwnB w' base (.slice (some ⟨g, 0, none⟩) n c) xs := by
  unfold OwnB at *
  refine ⟨h.1, ?_⟩
  rcases h.2 with ⟨h', _⟩ | ⟨g', c', cur, h', h1, hg, h2⟩
  · cases h'
  · cases h'
    exact .inr ⟨g, c, cur, rfl, h1, hb.trans hg, h2⟩
theorem ownB_base {w : World} {b b' : Nat} {v : Value} {xs : List UInt8} (h : OwnB w b v xs) (hb : b' ≤ b) : OwnB w b' v xs := by
  unfold OwnB at *
  refine ⟨h.1, ?_⟩
  rcases h.2 with h' | ⟨g', c', cur, h', h1, h2⟩
  · exact .inl h'
  · exact .inr ⟨g', c', cur, h', Nat.le_trans hb h1, h2⟩
/-- Between the law's rounds. -/
structure FtAt (w : World) (gb g0 c0 g1 c1 : Nat) (x y : List UInt8) (wr : World) (k : Nat) : Prop where
  below : Below w.heap.size w wr
  cell0 : wr.cell? ⟨gb, 0, none⟩ = some (.slice (some ⟨g0, 0, none⟩) x.length c0)
  cell1 : wr.cell? ⟨gb, 1, none⟩ = some (.slice (some ⟨g1, 0, none⟩) y.length c1)
  own0 : k = 0 → OwnB wr w.heap.size (.slice (some ⟨g0, 0, none⟩) x.length c0) x
  own1 : k ≤ 1 → OwnB wr w.heap.size (.slice (some ⟨g1, 0, none⟩) y.length c1) y
  apart : g0 ≠ g1 ∧ gb ≠ g0 ∧ gb ≠ g1
  lens : 1 ≤ x.length ∧ x.length ≤ 2000 ∧ 1 ≤ y.length ∧ y.length ≤ 2000
theorem below_refG {B g : Nat} {w wr wx : World} (h : Below B w wr) (hB : B ≤ w.heap.size) (hG : RefG wr wx g) (hg : B ≤ g) : Below B w wx :=
  ⟨hG.os.trans h.os, hG.tape.trans h.tape, hG.output.trans h.output, Nat.le_trans h.size hG.size, fun k hk => (hG.block k (Nat.lt_of_lt_of_le hk (Nat.le_trans hB h.size)) (by omega)).trans (h.block k hk)⟩
theorem FtAt.get {w wr : World} {gb g0 c0 g1 c1 k : Nat} {x y : List UInt8} (h : FtAt w gb g0 c0 g1 c1 x y wr k) (hk : k < 2) :
    ∃ (g c : Nat) (zs : List UInt8), wr.cell? ⟨gb, k, none⟩ = some (.slice (some ⟨g, 0, none⟩) zs.length c) ∧ OwnB wr w.heap.size (.slice (some ⟨g, 0, none⟩) zs.length c) zs ∧ 1 ≤ zs.length ∧ zs.length ≤ 2000 ∧ w.heap.size ≤ g ∧
      (∀ wx, RefG wr wx g → FtAt w gb g0 c0 g1 c1 x y wx (k + 1)) := by
  have hgb : gb < wr.heap.size := World.block_lt_of_cell? wr _ h.cell0
  have o1 := h.own1 (by omega)
  have l1 := ownB_lt o1
  rcases (show k = 0 ∨ k = 1 by omega) with rfl | rfl
  · have o0 := h.own0 rfl
    have l0 := ownB_lt o0
    refine ⟨g0, c0, x, h.cell0, o0, h.lens.1, h.lens.2.1, l0.1, fun wx hG => ?_⟩
    exact ⟨below_refG h.below (Nat.le_refl _) hG l0.1, (hG.cell (a := ⟨gb, 0, none⟩) hgb h.apart.2.1).trans h.cell0, (hG.cell (a := ⟨gb, 1, none⟩) hgb h.apart.2.1).trans h.cell1, fun e => by omega, fun _ => ownB_same o1 (hG.block g1 l1.2.1 (fun e => h.apart.1 e.symm)), h.apart, h.lens⟩
  · refine ⟨g1, c1, y, h.cell1, o1, h.lens.2.2.1, h.lens.2.2.2, l1.1, fun wx hG => ?_⟩
    exact ⟨below_refG h.below (Nat.le_refl _) hG l1.1, (hG.cell (a := ⟨gb, 0, none⟩) hgb h.apart.2.2).trans h.cell0, (hG.cell (a := ⟨gb, 1, none⟩) hgb h.apart.2.2).trans h.cell1, fun e => by omega, fun e => by omega, h.apart, h.lens⟩
theorem ft_start {w w2 w3 w4 W5 : World} {b1 : Nat} {v2 v3 : Value} {x y : List UInt8} (hb1 : w.heap.size ≤ b1) (h2 : OwnB w2 b1 v2 x) (hB3 : Below w2.heap.size w2 w3) (h4 : OwnB w4 w3.heap.size v3 y) (hB4 : Below w3.heap.size w3 w4) (hB5 : Below w4.heap.size w4 W5)
    (hc0 : W5.cell? ⟨w4.heap.size, 0, none⟩ = some v2) (hc1 : W5.cell? ⟨w4.heap.size, 1, none⟩ = some v3) (hBW : Below w.heap.size w w4) (hx : 1 ≤ x.length ∧ x.length ≤ 2000 ∧ 1 ≤ y.length ∧ y.length ≤ 2000) :
    ∃ g0 c0 g1 c1, FtAt w w4.heap.size g0 c0 g1 c1 x y W5 0 := by
  obtain ⟨g0, c0, rfl, h01, h02⟩ := ownB_shape h2 hx.1
  obtain ⟨g1, c1, rfl, h11, h12⟩ := ownB_shape h4 hx.2.2.1
  have s3 := hB3.size
  have s4 := hB4.size
  have s0 := hBW.size
  refine ⟨g0, c0, g1, c1, hBW.trans (hB5.mono s0), hc0, hc1, fun _ => ?_, fun _ => ?_, ⟨by omega, by omega, by omega⟩, hx⟩
  · exact ownB_base (ownB_same h2 ((hB5.block g0 (by omega)).trans ((hB4.block g0 (by omega)).trans (hB3.block g0 h02)))) hb1
  · exact ownB_base (ownB_same h4 (hB5.block g1 h12)) (by
      have := hBW.size
      have := ownB_lt h4
      have hz : w.heap.size ≤ w2.heap.size := by omega
      omega)
theorem ref_encOwn (q : ReqD) (w : World) (h : (encR q).2 = 0) : Calls Try.prog 28 #[.agg q.cells] w (fun e w' => ∃ v, e = .returned (.tuple #[v, .int .i64 0]) ∧ OwnB w' w.heap.size v q.bytes ∧ Below w.heap.size w w') := by
  obtain ⟨k1, k2, k3⟩ := encR_ok q h
  refine (ref_enc_req q w k1).mono fun e w' h => ?_
  unfold RefEncPost at h
  rw [if_neg (by rw [k2]; decide)] at h
  exact h
theorem reqb_len (q : ReqD) (h : (encR q).2 = 0) : 1 ≤ q.bytes.length ∧ q.bytes.length ≤ 2000 := by
  obtain ⟨k1, k2, k3⟩ := encR_ok q h
  refine ⟨?_, Nat.le_of_lt (bytes_fit q k2)⟩
  unfold ReqD.bytes
  simp [encText_length, encInts_length]
/-- Within an inner round: a byte is stored. -/
theorem ft_stored {w Wr w' : World} {base g N c i m gk j : Nat} {e : Int} {zy : List UInt8} (ho : OwnB w' base (.slice (some ⟨g, 0, none⟩) N c) zy) (hl : zy.length = N) (hG : RefG Wr w' g) (hj : j + 1 + gk = m) (he : 0 ≤ e ∧ e < 256) {s : Value} (hs : s = .int .i64 ((j + 1 : Nat) : Int)) :
    ∃ (j : Nat) (zy : List UInt8), j + gk = m ∧ s = .int .i64 j ∧ zy.length = N ∧ OwnB (w'.setCell ⟨g, i, none⟩ (.int .u8 e)) base (.slice (some ⟨g, 0, none⟩) N c) zy ∧ RefG Wr (w'.setCell ⟨g, i, none⟩ (.int .u8 e)) g := by
  subst hl
  have h := ho.stored i (.int .u8 e)
  refine ⟨j + 1, zy.set i (UInt8.ofNat e.toNat), hj, hs, by simp, ?_, ?_⟩
  · unfold OwnB at *
    have := h.1
    rw [List.length_set]
    have e1 : ((UInt8.ofNat e.toNat).toNat : Int) = e := by simp [UInt8.toNat_ofNat']; omega
    rw [show bcells (zy.set i (UInt8.ofNat e.toNat)) = (bcells zy).set i (.int .u8 e) by simp only [bcells, List.map_set, e1]]
    exact this
  · exact hG.trans ⟨rfl, rfl, rfl, by simp, fun k _ hk => heap_setCell_other w' ⟨g, i, none⟩ k _ (fun e => hk e)⟩
set_option maxHeartbeats 3200000 in
set_option maxRecDepth 100000 in
theorem ft_few (r : ReqD) (hr : ReqOk r) (a : AnsD) (va : Value) (vb : Value) (ys : List UInt8) (cut : Int) (hcw : (Lit.int .i64 cut).wf = true) (vm : Value) (zs : List UInt8) (w : World) (hm : Reads w vm zs) (A2 B2 : Option Addr) (n2 c2 n3 c3 : Nat) (h2 : va = .slice A2 n2 c2) (h3 : vb = .slice B2 n3 c3) (ee : Int) (hee : (encR r).2 = ee) (hf : r.few = false) :
    Calls Try.prog 10 #[.agg r.cells, .agg a.cells, va, vb, .int .i64 cut, vm] w (TrueBelow w) := by
  obtain ⟨am, cm, rfl⟩ := hm.len
  have HM := Lib.hid hm
  have HR := Lib.hid (And.intro hr hcw)
  subst h2 h3
  have HE := Lib.hid hee
  have HF : Hid (r.few = false) := Lib.hid hf
  clear hee hf
  clear hm hr hcw
  go_enter Try.func10, Try.ntmps10
  go_upto_region 1 with (fail)
  have hA : ((w.alloc (.cells r.cells 25)).alloc (.cells a.cells 38)).heap[w.heap.size]? = some (.cells r.cells 25 (0, 0)) := ((below_alloc _ _).block _ (by simp)).trans (heap_alloc_new _ _)
  have hO : ((w.alloc (.cells r.cells 25)).alloc (.cells a.cells 38)).heap[w.heap.size + 1]? = some (.cells a.cells 38 (0, 0)) := by
    have := heap_alloc_new (w.alloc (.cells r.cells 25)) (.cells a.cells 38)
    simpa using this
  have hBW := below_alloc2 w (.cells r.cells 25) (.cells a.cells 38)
  generalize (w.alloc (.cells r.cells 25)).alloc (.cells a.cells 38) = W0 at *
  generalize hob : w.heap.size + 1 = ob at *
  generalize hab : w.heap.size = ab at *
  have HAB := Lib.hid (And.intro hab hob)
  clear hab hob
  have X0 : Hid (Below ab w W0 ∧ W0.heap[ab]? = some (.cells r.cells 25 (0, 0)) ∧ W0.heap[ob]? = some (.cells a.cells 38 (0, 0))) := Lib.hid ⟨hBW, hA, hO⟩
  clear hA hO hBW
  go_upto_region 3 with (go_at_call 11; refine (l18_known _).mono ?_; rintro e w1 ⟨rfl, hB1⟩; have X1 : Hid (Below ab w w1 ∧ w1.heap[ab]? = some (.cells r.cells 25 (0, 0)) ∧ w1.heap[ob]? = some (.cells a.cells 38 (0, 0))) := Lib.hid ⟨X0.out.1.trans (hB1.mono (by have := X0.out.1.size; have := HAB.out.1; omega)), row_on X0.out.2.1 hB1, row_on X0.out.2.2 hB1⟩; clear hB1)
  have hsz1 : Hid (ab ≤ w1.heap.size) := Lib.hid (by have := X1.out.1.size; have := HAB.out.1; omega)
  go_wp2_with (first
    | (refine wpList_load_row rfl 25 (.tmp 6) rfl ab rfl 25 r.cells (0, 0) _ (by first | exact X1.out.2.1 | exact X2.out.2.1) Try.underlying25 (by kernel_rfl) (by kernel_rfl) ?_)
    | (go_at_call 28; refine (ref_encR r _).mono ?_; rintro e w2 ⟨v2, rfl, hr2, hB2⟩; have X2 : Hid (Below ab w w2 ∧ w2.heap[ab]? = some (.cells r.cells 25 (0, 0)) ∧ w2.heap[ob]? = some (.cells a.cells 38 (0, 0))) := Lib.hid ⟨X1.out.1.trans (hB2.mono hsz1.out), row_on X1.out.2.1 hB2, row_on X1.out.2.2 hB2⟩; rw [show (encR r).2 = ee from HE.out]; clear hB2 hr2)
    | (go_at_call 12; refine (l18_few r HR.out.1 _).mono ?_; rintro e w3 ⟨rfl, hB3⟩; have X3 : Hid (Below ab w w3 ∧ w3.heap[ab]? = some (.cells r.cells 25 (0, 0)) ∧ w3.heap[ob]? = some (.cells a.cells 38 (0, 0))) := Lib.hid ⟨X2.out.1.trans (hB3.mono (by have := X2.out.1.size; have := HAB.out.1; omega)), row_on X2.out.2.1 hB3, row_on X2.out.2.2 hB3⟩; have k0 : w3.cell? ⟨ob, 0, none⟩ = some (.int .i64 a.err) := (by rw [cell_of_row _ _ _ _ _ _ X3.out.2.2]; rfl); have k4 : w3.cell? ⟨ob, 4, none⟩ = some (.string a.stmt.name) := (by rw [cell_of_row _ _ _ _ _ _ X3.out.2.2]; rfl); rw [HF.out]; clear hB3))
  go_ret
  exact ⟨rfl, by rw [HAB.out.1]; exact X3.out.1⟩
set_option maxHeartbeats 3200000 in
set_option maxRecDepth 100000 in
theorem ft_err (r : ReqD) (hr : ReqOk r) (a : AnsD) (va : Value) (vb : Value) (ys : List UInt8) (cut : Int) (hcw : (Lit.int .i64 cut).wf = true) (vm : Value) (zs : List UInt8) (w : World) (hm : Reads w vm zs) (A2 B2 : Option Addr) (n2 c2 n3 c3 : Nat) (h2 : va = .slice A2 n2 c2) (h3 : vb = .slice B2 n3 c3) (ee : Int) (hee : (encR r).2 = ee) (hf : r.few = true) (he : ¬ ee = 0) :
    Calls Try.prog 10 #[.agg r.cells, .agg a.cells, va, vb, .int .i64 cut, vm] w (TrueBelow w) := by
  obtain ⟨am, cm, rfl⟩ := hm.len
  have HM := Lib.hid hm
  have HR := Lib.hid (And.intro hr hcw)
  subst h2 h3
  have HE := Lib.hid hee
  have HF : Hid (r.few = true) := Lib.hid hf
  have e0 : (ee != 0) = true := by simp [he]
  clear hee hf he
  clear hm hr hcw
  go_enter Try.func10, Try.ntmps10
  go_upto_region 1 with (fail)
  have hA : ((w.alloc (.cells r.cells 25)).alloc (.cells a.cells 38)).heap[w.heap.size]? = some (.cells r.cells 25 (0, 0)) := ((below_alloc _ _).block _ (by simp)).trans (heap_alloc_new _ _)
  have hO : ((w.alloc (.cells r.cells 25)).alloc (.cells a.cells 38)).heap[w.heap.size + 1]? = some (.cells a.cells 38 (0, 0)) := by
    have := heap_alloc_new (w.alloc (.cells r.cells 25)) (.cells a.cells 38)
    simpa using this
  have hBW := below_alloc2 w (.cells r.cells 25) (.cells a.cells 38)
  generalize (w.alloc (.cells r.cells 25)).alloc (.cells a.cells 38) = W0 at *
  generalize hob : w.heap.size + 1 = ob at *
  generalize hab : w.heap.size = ab at *
  have HAB := Lib.hid (And.intro hab hob)
  clear hab hob
  have X0 : Hid (Below ab w W0 ∧ W0.heap[ab]? = some (.cells r.cells 25 (0, 0)) ∧ W0.heap[ob]? = some (.cells a.cells 38 (0, 0))) := Lib.hid ⟨hBW, hA, hO⟩
  clear hA hO hBW
  go_upto_region 3 with (go_at_call 11; refine (l18_known _).mono ?_; rintro e w1 ⟨rfl, hB1⟩; have X1 : Hid (Below ab w w1 ∧ w1.heap[ab]? = some (.cells r.cells 25 (0, 0)) ∧ w1.heap[ob]? = some (.cells a.cells 38 (0, 0))) := Lib.hid ⟨X0.out.1.trans (hB1.mono (by have := X0.out.1.size; have := HAB.out.1; omega)), row_on X0.out.2.1 hB1, row_on X0.out.2.2 hB1⟩; clear hB1)
  have hsz1 : Hid (ab ≤ w1.heap.size) := Lib.hid (by have := X1.out.1.size; have := HAB.out.1; omega)
  go_wp2_with (first
    | (refine wpList_load_row rfl 25 (.tmp 6) rfl ab rfl 25 r.cells (0, 0) _ (by first | exact X1.out.2.1 | exact X2.out.2.1) Try.underlying25 (by kernel_rfl) (by kernel_rfl) ?_)
    | (go_at_call 28; refine (ref_encR r _).mono ?_; rintro e w2 ⟨v2, rfl, hr2, hB2⟩; have X2 : Hid (Below ab w w2 ∧ w2.heap[ab]? = some (.cells r.cells 25 (0, 0)) ∧ w2.heap[ob]? = some (.cells a.cells 38 (0, 0))) := Lib.hid ⟨X1.out.1.trans (hB2.mono hsz1.out), row_on X1.out.2.1 hB2, row_on X1.out.2.2 hB2⟩; rw [show (encR r).2 = ee from HE.out]; clear hB2 hr2)
    | (go_at_call 12; refine (l18_few r HR.out.1 _).mono ?_; rintro e w3 ⟨rfl, hB3⟩; have X3 : Hid (Below ab w w3 ∧ w3.heap[ab]? = some (.cells r.cells 25 (0, 0)) ∧ w3.heap[ob]? = some (.cells a.cells 38 (0, 0))) := Lib.hid ⟨X2.out.1.trans (hB3.mono (by have := X2.out.1.size; have := HAB.out.1; omega)), row_on X2.out.2.1 hB3, row_on X2.out.2.2 hB3⟩; have k0 : w3.cell? ⟨ob, 0, none⟩ = some (.int .i64 a.err) := (by rw [cell_of_row _ _ _ _ _ _ X3.out.2.2]; rfl); have k4 : w3.cell? ⟨ob, 4, none⟩ = some (.string a.stmt.name) := (by rw [cell_of_row _ _ _ _ _ _ X3.out.2.2]; rfl); rw [HF.out]; clear hB3))
  go_ret
  exact ⟨rfl, by rw [HAB.out.1]; exact X3.out.1⟩
set_option maxHeartbeats 3200000 in
set_option maxRecDepth 100000 in
theorem ft_more (r : ReqD) (hr : ReqOk r) (a : AnsD) (va : Value) (vb : Value) (ys : List UInt8) (cut : Int) (hcw : (Lit.int .i64 cut).wf = true) (vm : Value) (zs : List UInt8) (w : World) (hm : Reads w vm zs) (A2 B2 : Option Addr) (n2 c2 n3 c3 : Nat) (h2 : va = .slice A2 n2 c2) (h3 : vb = .slice B2 n3 c3) (ee : Int) (hee : (encR r).2 = ee) (hf : r.few = true) (he : ee = 0) (hl : 100 < zs.length) :
    Calls Try.prog 10 #[.agg r.cells, .agg a.cells, va, vb, .int .i64 cut, vm] w (TrueBelow w) := by
  obtain ⟨am, cm, rfl⟩ := hm.len
  have HM := Lib.hid hm
  have HR := Lib.hid (And.intro hr hcw)
  subst h2 h3
  have HE := Lib.hid hee
  have HF : Hid (r.few = true) := Lib.hid hf
  have e0 : (ee != 0) = false := by simp [he]
  have l1 : (100 : Int) < (zs.length : Int) := by omega
  clear hee hf he hl
  clear hm hr hcw
  go_enter Try.func10, Try.ntmps10
  go_upto_region 1 with (fail)
  have hA : ((w.alloc (.cells r.cells 25)).alloc (.cells a.cells 38)).heap[w.heap.size]? = some (.cells r.cells 25 (0, 0)) := ((below_alloc _ _).block _ (by simp)).trans (heap_alloc_new _ _)
  have hO : ((w.alloc (.cells r.cells 25)).alloc (.cells a.cells 38)).heap[w.heap.size + 1]? = some (.cells a.cells 38 (0, 0)) := by
    have := heap_alloc_new (w.alloc (.cells r.cells 25)) (.cells a.cells 38)
    simpa using this
  have hBW := below_alloc2 w (.cells r.cells 25) (.cells a.cells 38)
  generalize (w.alloc (.cells r.cells 25)).alloc (.cells a.cells 38) = W0 at *
  generalize hob : w.heap.size + 1 = ob at *
  generalize hab : w.heap.size = ab at *
  have HAB := Lib.hid (And.intro hab hob)
  clear hab hob
  have X0 : Hid (Below ab w W0 ∧ W0.heap[ab]? = some (.cells r.cells 25 (0, 0)) ∧ W0.heap[ob]? = some (.cells a.cells 38 (0, 0))) := Lib.hid ⟨hBW, hA, hO⟩
  clear hA hO hBW
  go_upto_region 3 with (go_at_call 11; refine (l18_known _).mono ?_; rintro e w1 ⟨rfl, hB1⟩; have X1 : Hid (Below ab w w1 ∧ w1.heap[ab]? = some (.cells r.cells 25 (0, 0)) ∧ w1.heap[ob]? = some (.cells a.cells 38 (0, 0))) := Lib.hid ⟨X0.out.1.trans (hB1.mono (by have := X0.out.1.size; have := HAB.out.1; omega)), row_on X0.out.2.1 hB1, row_on X0.out.2.2 hB1⟩; clear hB1)
  have hsz1 : Hid (ab ≤ w1.heap.size) := Lib.hid (by have := X1.out.1.size; have := HAB.out.1; omega)
  go_wp2_with (first
    | (refine wpList_load_row rfl 25 (.tmp 6) rfl ab rfl 25 r.cells (0, 0) _ (by first | exact X1.out.2.1 | exact X2.out.2.1) Try.underlying25 (by kernel_rfl) (by kernel_rfl) ?_)
    | (go_at_call 28; refine (ref_encR r _).mono ?_; rintro e w2 ⟨v2, rfl, hr2, hB2⟩; have X2 : Hid (Below ab w w2 ∧ w2.heap[ab]? = some (.cells r.cells 25 (0, 0)) ∧ w2.heap[ob]? = some (.cells a.cells 38 (0, 0))) := Lib.hid ⟨X1.out.1.trans (hB2.mono hsz1.out), row_on X1.out.2.1 hB2, row_on X1.out.2.2 hB2⟩; rw [show (encR r).2 = ee from HE.out]; clear hB2 hr2)
    | (go_at_call 12; refine (l18_few r HR.out.1 _).mono ?_; rintro e w3 ⟨rfl, hB3⟩; have X3 : Hid (Below ab w w3 ∧ w3.heap[ab]? = some (.cells r.cells 25 (0, 0)) ∧ w3.heap[ob]? = some (.cells a.cells 38 (0, 0))) := Lib.hid ⟨X2.out.1.trans (hB3.mono (by have := X2.out.1.size; have := HAB.out.1; omega)), row_on X2.out.2.1 hB3, row_on X2.out.2.2 hB3⟩; have k0 : w3.cell? ⟨ob, 0, none⟩ = some (.int .i64 a.err) := (by rw [cell_of_row _ _ _ _ _ _ X3.out.2.2]; rfl); have k4 : w3.cell? ⟨ob, 4, none⟩ = some (.string a.stmt.name) := (by rw [cell_of_row _ _ _ _ _ _ X3.out.2.2]; rfl); rw [HF.out]; clear hB3))
  go_ret
  exact ⟨rfl, by rw [HAB.out.1]; exact X3.out.1⟩
set_option maxHeartbeats 3200000 in
set_option maxRecDepth 100000 in
theorem ft_neg (r : ReqD) (hr : ReqOk r) (a : AnsD) (va : Value) (vb : Value) (ys : List UInt8) (cut : Int) (hcw : (Lit.int .i64 cut).wf = true) (vm : Value) (zs : List UInt8) (w : World) (hm : Reads w vm zs) (A2 B2 : Option Addr) (n2 c2 n3 c3 : Nat) (h2 : va = .slice A2 n2 c2) (h3 : vb = .slice B2 n3 c3) (ee : Int) (hee : (encR r).2 = ee) (hf : r.few = true) (he : ee = 0) (hl : ¬ 100 < zs.length) (hb1 : a.err < 0) :
    Calls Try.prog 10 #[.agg r.cells, .agg a.cells, va, vb, .int .i64 cut, vm] w (TrueBelow w) := by
  obtain ⟨am, cm, rfl⟩ := hm.len
  have HM := Lib.hid hm
  have HR := Lib.hid (And.intro hr hcw)
  subst h2 h3
  have HE := Lib.hid hee
  have HF : Hid (r.few = true) := Lib.hid hf
  have e0 : (ee != 0) = false := by simp [he]
  have l1 : ¬ (100 : Int) < (zs.length : Int) := by omega
  have l2 : decide (a.err < 0) = true := by simpa using hb1
  clear hee hf he hl hb1
  clear hm hr hcw
  go_enter Try.func10, Try.ntmps10
  go_upto_region 1 with (fail)
  have hA : ((w.alloc (.cells r.cells 25)).alloc (.cells a.cells 38)).heap[w.heap.size]? = some (.cells r.cells 25 (0, 0)) := ((below_alloc _ _).block _ (by simp)).trans (heap_alloc_new _ _)
  have hO : ((w.alloc (.cells r.cells 25)).alloc (.cells a.cells 38)).heap[w.heap.size + 1]? = some (.cells a.cells 38 (0, 0)) := by
    have := heap_alloc_new (w.alloc (.cells r.cells 25)) (.cells a.cells 38)
    simpa using this
  have hBW := below_alloc2 w (.cells r.cells 25) (.cells a.cells 38)
  generalize (w.alloc (.cells r.cells 25)).alloc (.cells a.cells 38) = W0 at *
  generalize hob : w.heap.size + 1 = ob at *
  generalize hab : w.heap.size = ab at *
  have HAB := Lib.hid (And.intro hab hob)
  clear hab hob
  have X0 : Hid (Below ab w W0 ∧ W0.heap[ab]? = some (.cells r.cells 25 (0, 0)) ∧ W0.heap[ob]? = some (.cells a.cells 38 (0, 0))) := Lib.hid ⟨hBW, hA, hO⟩
  clear hA hO hBW
  go_upto_region 3 with (go_at_call 11; refine (l18_known _).mono ?_; rintro e w1 ⟨rfl, hB1⟩; have X1 : Hid (Below ab w w1 ∧ w1.heap[ab]? = some (.cells r.cells 25 (0, 0)) ∧ w1.heap[ob]? = some (.cells a.cells 38 (0, 0))) := Lib.hid ⟨X0.out.1.trans (hB1.mono (by have := X0.out.1.size; have := HAB.out.1; omega)), row_on X0.out.2.1 hB1, row_on X0.out.2.2 hB1⟩; clear hB1)
  have hsz1 : Hid (ab ≤ w1.heap.size) := Lib.hid (by have := X1.out.1.size; have := HAB.out.1; omega)
  go_wp2_with (first
    | (refine wpList_load_row rfl 25 (.tmp 6) rfl ab rfl 25 r.cells (0, 0) _ (by first | exact X1.out.2.1 | exact X2.out.2.1) Try.underlying25 (by kernel_rfl) (by kernel_rfl) ?_)
    | (go_at_call 28; refine (ref_encR r _).mono ?_; rintro e w2 ⟨v2, rfl, hr2, hB2⟩; have X2 : Hid (Below ab w w2 ∧ w2.heap[ab]? = some (.cells r.cells 25 (0, 0)) ∧ w2.heap[ob]? = some (.cells a.cells 38 (0, 0))) := Lib.hid ⟨X1.out.1.trans (hB2.mono hsz1.out), row_on X1.out.2.1 hB2, row_on X1.out.2.2 hB2⟩; rw [show (encR r).2 = ee from HE.out]; clear hB2 hr2)
    | (go_at_call 12; refine (l18_few r HR.out.1 _).mono ?_; rintro e w3 ⟨rfl, hB3⟩; have X3 : Hid (Below ab w w3 ∧ w3.heap[ab]? = some (.cells r.cells 25 (0, 0)) ∧ w3.heap[ob]? = some (.cells a.cells 38 (0, 0))) := Lib.hid ⟨X2.out.1.trans (hB3.mono (by have := X2.out.1.size; have := HAB.out.1; omega)), row_on X2.out.2.1 hB3, row_on X2.out.2.2 hB3⟩; have k0 : w3.cell? ⟨ob, 0, none⟩ = some (.int .i64 a.err) := (by rw [cell_of_row _ _ _ _ _ _ X3.out.2.2]; rfl); have k4 : w3.cell? ⟨ob, 4, none⟩ = some (.string a.stmt.name) := (by rw [cell_of_row _ _ _ _ _ _ X3.out.2.2]; rfl); rw [HF.out]; clear hB3))
  go_ret
  exact ⟨rfl, by rw [HAB.out.1]; exact X3.out.1⟩
set_option maxHeartbeats 3200000 in
set_option maxRecDepth 100000 in
theorem ft_big (r : ReqD) (hr : ReqOk r) (a : AnsD) (va : Value) (vb : Value) (ys : List UInt8) (cut : Int) (hcw : (Lit.int .i64 cut).wf = true) (vm : Value) (zs : List UInt8) (w : World) (hm : Reads w vm zs) (A2 B2 : Option Addr) (n2 c2 n3 c3 : Nat) (h2 : va = .slice A2 n2 c2) (h3 : vb = .slice B2 n3 c3) (ee : Int) (hee : (encR r).2 = ee) (hf : r.few = true) (he : ee = 0) (hl : ¬ 100 < zs.length) (hb1 : ¬ a.err < 0) (hb2 : 255 < a.err) :
    Calls Try.prog 10 #[.agg r.cells, .agg a.cells, va, vb, .int .i64 cut, vm] w (TrueBelow w) := by
  obtain ⟨am, cm, rfl⟩ := hm.len
  have HM := Lib.hid hm
  have HR := Lib.hid (And.intro hr hcw)
  subst h2 h3
  have HE := Lib.hid hee
  have HF : Hid (r.few = true) := Lib.hid hf
  have e0 : (ee != 0) = false := by simp [he]
  have l1 : ¬ (100 : Int) < (zs.length : Int) := by omega
  have l2 : decide (a.err < 0) = false := by simpa using hb1
  have l3 : decide (255 < a.err) = true := by simpa using hb2
  clear hee hf he hl hb1 hb2
  clear hm hr hcw
  go_enter Try.func10, Try.ntmps10
  go_upto_region 1 with (fail)
  have hA : ((w.alloc (.cells r.cells 25)).alloc (.cells a.cells 38)).heap[w.heap.size]? = some (.cells r.cells 25 (0, 0)) := ((below_alloc _ _).block _ (by simp)).trans (heap_alloc_new _ _)
  have hO : ((w.alloc (.cells r.cells 25)).alloc (.cells a.cells 38)).heap[w.heap.size + 1]? = some (.cells a.cells 38 (0, 0)) := by
    have := heap_alloc_new (w.alloc (.cells r.cells 25)) (.cells a.cells 38)
    simpa using this
  have hBW := below_alloc2 w (.cells r.cells 25) (.cells a.cells 38)
  generalize (w.alloc (.cells r.cells 25)).alloc (.cells a.cells 38) = W0 at *
  generalize hob : w.heap.size + 1 = ob at *
  generalize hab : w.heap.size = ab at *
  have HAB := Lib.hid (And.intro hab hob)
  clear hab hob
  have X0 : Hid (Below ab w W0 ∧ W0.heap[ab]? = some (.cells r.cells 25 (0, 0)) ∧ W0.heap[ob]? = some (.cells a.cells 38 (0, 0))) := Lib.hid ⟨hBW, hA, hO⟩
  clear hA hO hBW
  go_upto_region 3 with (go_at_call 11; refine (l18_known _).mono ?_; rintro e w1 ⟨rfl, hB1⟩; have X1 : Hid (Below ab w w1 ∧ w1.heap[ab]? = some (.cells r.cells 25 (0, 0)) ∧ w1.heap[ob]? = some (.cells a.cells 38 (0, 0))) := Lib.hid ⟨X0.out.1.trans (hB1.mono (by have := X0.out.1.size; have := HAB.out.1; omega)), row_on X0.out.2.1 hB1, row_on X0.out.2.2 hB1⟩; clear hB1)
  have hsz1 : Hid (ab ≤ w1.heap.size) := Lib.hid (by have := X1.out.1.size; have := HAB.out.1; omega)
  go_wp2_with (first
    | (refine wpList_load_row rfl 25 (.tmp 6) rfl ab rfl 25 r.cells (0, 0) _ (by first | exact X1.out.2.1 | exact X2.out.2.1) Try.underlying25 (by kernel_rfl) (by kernel_rfl) ?_)
    | (go_at_call 28; refine (ref_encR r _).mono ?_; rintro e w2 ⟨v2, rfl, hr2, hB2⟩; have X2 : Hid (Below ab w w2 ∧ w2.heap[ab]? = some (.cells r.cells 25 (0, 0)) ∧ w2.heap[ob]? = some (.cells a.cells 38 (0, 0))) := Lib.hid ⟨X1.out.1.trans (hB2.mono hsz1.out), row_on X1.out.2.1 hB2, row_on X1.out.2.2 hB2⟩; rw [show (encR r).2 = ee from HE.out]; clear hB2 hr2)
    | (go_at_call 12; refine (l18_few r HR.out.1 _).mono ?_; rintro e w3 ⟨rfl, hB3⟩; have X3 : Hid (Below ab w w3 ∧ w3.heap[ab]? = some (.cells r.cells 25 (0, 0)) ∧ w3.heap[ob]? = some (.cells a.cells 38 (0, 0))) := Lib.hid ⟨X2.out.1.trans (hB3.mono (by have := X2.out.1.size; have := HAB.out.1; omega)), row_on X2.out.2.1 hB3, row_on X2.out.2.2 hB3⟩; have k0 : w3.cell? ⟨ob, 0, none⟩ = some (.int .i64 a.err) := (by rw [cell_of_row _ _ _ _ _ _ X3.out.2.2]; rfl); have k4 : w3.cell? ⟨ob, 4, none⟩ = some (.string a.stmt.name) := (by rw [cell_of_row _ _ _ _ _ _ X3.out.2.2]; rfl); rw [HF.out]; clear hB3))
  go_ret
  exact ⟨rfl, by rw [HAB.out.1]; exact X3.out.1⟩
set_option maxHeartbeats 3200000 in
set_option maxRecDepth 100000 in
theorem ft_name (r : ReqD) (hr : ReqOk r) (a : AnsD) (va : Value) (vb : Value) (ys : List UInt8) (cut : Int) (hcw : (Lit.int .i64 cut).wf = true) (vm : Value) (zs : List UInt8) (w : World) (hm : Reads w vm zs) (A2 B2 : Option Addr) (n2 c2 n3 c3 : Nat) (h2 : va = .slice A2 n2 c2) (h3 : vb = .slice B2 n3 c3) (ee : Int) (hee : (encR r).2 = ee) (hf : r.few = true) (he : ee = 0) (hl : ¬ 100 < zs.length) (hb1 : ¬ a.err < 0) (hb2 : ¬ 255 < a.err) (hb3 : 255 < a.stmt.name.size) :
    Calls Try.prog 10 #[.agg r.cells, .agg a.cells, va, vb, .int .i64 cut, vm] w (TrueBelow w) := by
  obtain ⟨am, cm, rfl⟩ := hm.len
  have HM := Lib.hid hm
  have HR := Lib.hid (And.intro hr hcw)
  subst h2 h3
  have HE := Lib.hid hee
  have HF : Hid (r.few = true) := Lib.hid hf
  have e0 : (ee != 0) = false := by simp [he]
  have l1 : ¬ (100 : Int) < (zs.length : Int) := by omega
  have l2 : decide (a.err < 0) = false := by simpa using hb1
  have l3 : decide (255 < a.err) = false := by simpa using hb2
  have l4 : (255 : Int) < (a.stmt.name.size : Int) := by omega
  clear hee hf he hl hb1 hb2 hb3
  clear hm hr hcw
  go_enter Try.func10, Try.ntmps10
  go_upto_region 1 with (fail)
  have hA : ((w.alloc (.cells r.cells 25)).alloc (.cells a.cells 38)).heap[w.heap.size]? = some (.cells r.cells 25 (0, 0)) := ((below_alloc _ _).block _ (by simp)).trans (heap_alloc_new _ _)
  have hO : ((w.alloc (.cells r.cells 25)).alloc (.cells a.cells 38)).heap[w.heap.size + 1]? = some (.cells a.cells 38 (0, 0)) := by
    have := heap_alloc_new (w.alloc (.cells r.cells 25)) (.cells a.cells 38)
    simpa using this
  have hBW := below_alloc2 w (.cells r.cells 25) (.cells a.cells 38)
  generalize (w.alloc (.cells r.cells 25)).alloc (.cells a.cells 38) = W0 at *
  generalize hob : w.heap.size + 1 = ob at *
  generalize hab : w.heap.size = ab at *
  have HAB := Lib.hid (And.intro hab hob)
  clear hab hob
  have X0 : Hid (Below ab w W0 ∧ W0.heap[ab]? = some (.cells r.cells 25 (0, 0)) ∧ W0.heap[ob]? = some (.cells a.cells 38 (0, 0))) := Lib.hid ⟨hBW, hA, hO⟩
  clear hA hO hBW
  go_upto_region 3 with (go_at_call 11; refine (l18_known _).mono ?_; rintro e w1 ⟨rfl, hB1⟩; have X1 : Hid (Below ab w w1 ∧ w1.heap[ab]? = some (.cells r.cells 25 (0, 0)) ∧ w1.heap[ob]? = some (.cells a.cells 38 (0, 0))) := Lib.hid ⟨X0.out.1.trans (hB1.mono (by have := X0.out.1.size; have := HAB.out.1; omega)), row_on X0.out.2.1 hB1, row_on X0.out.2.2 hB1⟩; clear hB1)
  have hsz1 : Hid (ab ≤ w1.heap.size) := Lib.hid (by have := X1.out.1.size; have := HAB.out.1; omega)
  go_wp2_with (first
    | (refine wpList_load_row rfl 25 (.tmp 6) rfl ab rfl 25 r.cells (0, 0) _ (by first | exact X1.out.2.1 | exact X2.out.2.1) Try.underlying25 (by kernel_rfl) (by kernel_rfl) ?_)
    | (go_at_call 28; refine (ref_encR r _).mono ?_; rintro e w2 ⟨v2, rfl, hr2, hB2⟩; have X2 : Hid (Below ab w w2 ∧ w2.heap[ab]? = some (.cells r.cells 25 (0, 0)) ∧ w2.heap[ob]? = some (.cells a.cells 38 (0, 0))) := Lib.hid ⟨X1.out.1.trans (hB2.mono hsz1.out), row_on X1.out.2.1 hB2, row_on X1.out.2.2 hB2⟩; rw [show (encR r).2 = ee from HE.out]; clear hB2 hr2)
    | (go_at_call 12; refine (l18_few r HR.out.1 _).mono ?_; rintro e w3 ⟨rfl, hB3⟩; have X3 : Hid (Below ab w w3 ∧ w3.heap[ab]? = some (.cells r.cells 25 (0, 0)) ∧ w3.heap[ob]? = some (.cells a.cells 38 (0, 0))) := Lib.hid ⟨X2.out.1.trans (hB3.mono (by have := X2.out.1.size; have := HAB.out.1; omega)), row_on X2.out.2.1 hB3, row_on X2.out.2.2 hB3⟩; have k0 : w3.cell? ⟨ob, 0, none⟩ = some (.int .i64 a.err) := (by rw [cell_of_row _ _ _ _ _ _ X3.out.2.2]; rfl); have k4 : w3.cell? ⟨ob, 4, none⟩ = some (.string a.stmt.name) := (by rw [cell_of_row _ _ _ _ _ _ X3.out.2.2]; rfl); rw [HF.out]; clear hB3))
  go_ret
  exact ⟨rfl, by rw [HAB.out.1]; exact X3.out.1⟩
end Go.Proofs.Ytehkgcmdndehaaa
