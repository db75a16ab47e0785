/-
  Law FrameRequests, walked.
-/
import Derived.Test.YtehkgcmdndehaaaReqL
import Derived.Test.YtehkgcmdndehaaaRegW
import Derived.Test.YtehkgcmdndehaaaLdRow
import Derived.Test.YtehkgcmdndehaaaOpenB
import Derived.Deep.DeepCutAuto
import Derived.Deep.CutBlock
namespace Go.Proofs.Ytehkgcmdndehaaa
set_option linter.unusedSimpArgs false
set_option linter.unusedVariables false
open Go.RowKit

theorem parseQ_shape (bs : List UInt8) : ∃ q : ReqD, (parseReqC bs).1 = q.cells.toList := by
  rw [parseReqC_eq, prKind_eq]
  split
  · exact ⟨reqZ0, rfl⟩
  · rw [prKey_eq, prNums_eq, prTexts_eq, prMore_eq]
    generalize (Rd.one ⟨bs, false⟩).1 = k
    generalize (Rd.one ⟨bs, false⟩).2 = r
    obtain ⟨q, hq, _⟩ := good_shape (good_more (Rd.strs (textOffs k).length (Rd.ints (numOffs k).length r.str.2).2).2 (good_texts (Rd.ints (numOffs k).length r.str.2).2 (good_nums r.str.2 (good_init k (strB r.str.1)))))
    rw [hq, prEnd_eq]
    split
    · split
      · exact ⟨reqZ0, rfl⟩
      · exact ⟨{ q with plan := _ }, putPlan_cells q _⟩
    · split
      · exact ⟨reqZ0, rfl⟩
      · split
        · exact ⟨reqZ0, rfl⟩
        · exact ⟨q, rfl⟩
theorem cells_inj {a b : ReqD} (h : a.cells.toList = b.cells.toList) : a = b := by
  obtain ⟨k, key, id, n, ttl, of, name, secret, p⟩ := a
  obtain ⟨k2, key2, id2, n2, ttl2, of2, name2, secret2, p2⟩ := b
  obtain ⟨p0, p1, p2', p3, p4, p5, p6, p7, p8, p9⟩ := p
  obtain ⟨r0, r1, r2, r3, r4, r5, r6, r7, r8, r9⟩ := p2
  simp [ReqD.cells] at h
  obtain ⟨rfl, rfl, rfl, rfl, rfl, rfl, rfl, rfl, rfl, rfl, rfl, rfl, rfl, rfl, rfl, rfl, rfl, rfl⟩ := h
  rfl
/-- What EncodeRequest answers: bytes, an error. -/
def encR (q : ReqD) : List UInt8 × Int := if kindB q.kind = false then ([], 3) else if q.long = true then ([], 5) else (q.bytes, 0)
theorem encR_ok (q : ReqD) (h : (encR q).2 = 0) : kindB q.kind = true ∧ q.long = false ∧ (encR q).1 = q.bytes := by
  unfold encR at *
  cases hk : kindB q.kind with
  | false => simp [hk] at h
  | true =>
    cases hl : q.long with
    | true => simp [hk, hl] at h
    | false => simp [hk, hl]
theorem encR_of (q : ReqD) (hk : kindB q.kind = true) (hl : q.long = false) : encR q = (q.bytes, 0) := by
  unfold encR; simp [hk, hl]
def EncRPost (w : World) (p : List UInt8 × Int) (e : Ending) (w' : World) : Prop := ∃ v, e = .returned (.tuple #[v, .int .i64 p.2]) ∧ Reads w' v p.1 ∧ Below w.heap.size w w'
theorem fr_encR (q : ReqD) (w : World) : Calls Try.prog 13 #[.agg q.cells] w (EncRPost w (encR q)) := by
  refine (fr_enc q w).mono fun e w' h => ?_
  unfold FrEncPost at h
  unfold encR
  split at h
  · rw [if_pos ‹_›]; exact ⟨_, h.1, Reads.nil _, h.2⟩
  · rw [if_neg ‹_›]
    split at h
    · rw [if_pos ‹_›]; exact ⟨_, h.1, Reads.nil _, h.2⟩
    · rw [if_neg ‹_›]
      obtain ⟨v, he, ho, hB⟩ := h
      exact ⟨v, he, Reads.of_own ho, hB⟩
theorem ref_encR (q : ReqD) (w : World) : Calls Try.prog 28 #[.agg q.cells] w (EncRPost w (encR q)) := by
  unfold encR
  cases hk : kindB q.kind with
  | false => rw [if_pos rfl]; exact (ref_enc_bad q w hk).mono fun e w' h => ⟨_, h.1, Reads.nil _, h.2⟩
  | true =>
    rw [if_neg (by decide)]
    refine (ref_enc_req q w hk).mono fun e w' h => ?_
    unfold RefEncPost at h
    split at h
    · rw [if_pos ‹_›]; exact ⟨_, h.1, Reads.nil _, h.2⟩
    · rw [if_neg ‹_›]
      obtain ⟨v, he, ho, hB⟩ := h
      exact ⟨v, he, Reads.of_own ho, hB⟩
/-- ParseRequest, on both sides. -/
def PqPost (w : World) (Q : ReqD) (err : Int) (e : Ending) (w' : World) : Prop := e = .returned (.tuple #[.agg Q.cells, .int .i64 err]) ∧ Below w.heap.size w w'
theorem pq_of {w : World} {p : List Value × Int} {Q : ReqD} {e : Ending} {w' : World} (h : PrPost w p e w') (hQ : p.1 = Q.cells.toList) : PqPost w Q p.2 e w' := by
  obtain ⟨h1, h2⟩ := h
  rw [hQ] at h1
  exact ⟨h1, h2⟩
set_option maxRecDepth 100000 in
theorem neq_req (q : ReqD) (w : World) : (binOp .neq 25 (.agg q.cells) (.agg q.cells)).run Try.prog w = .ok (.bool false) w := by
  unfold ReqD.cells
  go_simp
theorem row_madeR (w : World) (cs cs0 : Array Value) (T : TypeId) : Below w.heap.size w ((w.alloc (.cells cs0 T)).setRow w.heap.size cs) ∧ ((w.alloc (.cells cs0 T)).setRow w.heap.size cs).heap[w.heap.size]? = some (.cells cs T (0, 0)) ∧ ((w.alloc (.cells cs0 T)).setRow w.heap.size cs).heap.size = w.heap.size + 1 :=
  ⟨below_setRow (below_alloc _ _) (Nat.le_refl _) _, setRow_heap _ _ _ _ _ _ (heap_alloc_new _ _), by simp⟩
theorem bl_drewN3 {B : Nat} {w w' : World} (h : Below B w w') (n : Nat) : Below B w (w'.drewN n) := ⟨h.os, h.tape, h.output, h.size, h.block⟩
theorem row_on {w w' : World} {b : Nat} {o : Obj} (h : w.heap[b]? = some o) (hB : Below w.heap.size w w') : w'.heap[b]? = some o := (hB.block b (Array.getElem?_eq_some_iff.1 h).1).trans h

attribute [local go_sem ↓] ld_req
set_option maxHeartbeats 3200000 in
set_option maxRecDepth 100000 in
theorem fq_r (r o : ReqD) (hr : ReqOk r) (ho : ReqOk o) (vb : Value) (zs : List UInt8) (w : World) (hz : Reads w vb zs) (hf : r.few = false) :
    Calls Try.prog 9 #[.agg r.cells, .agg o.cells, vb] w (TrueBelow w) := by
  obtain ⟨a1, c1, rfl⟩ := hz.len
  have HZ := Lib.hid hz
  have HR := Lib.hid (And.intro hr ho)
  have HF : Hid (r.few = false ∧ True) := Lib.hid ⟨hf, trivial⟩
  clear hf
  clear hz hr ho
  go_enter Try.func9, Try.ntmps9
  go_upto_region 1 with (fail)
  have hA : ((w.alloc (.cells r.cells 25)).alloc (.cells o.cells 25)).heap[w.heap.size]? = some (.cells r.cells 25 (0, 0)) := ((below_alloc _ _).block _ (by simp)).trans (heap_alloc_new _ _)
  have hO : ((w.alloc (.cells r.cells 25)).alloc (.cells o.cells 25)).heap[w.heap.size + 1]? = some (.cells o.cells 25 (0, 0)) := by
    have := heap_alloc_new (w.alloc (.cells r.cells 25)) (.cells o.cells 25)
    simpa using this
  have hBW := below_alloc2 w (.cells r.cells 25) (.cells o.cells 25)
  generalize (w.alloc (.cells r.cells 25)).alloc (.cells o.cells 25) = W0 at *
  generalize hob : w.heap.size + 1 = ob at *
  generalize hab : w.heap.size = ab at *
  have HAB := Lib.hid (And.intro hab hob)
  clear hab hob
  have X0 : Hid (Below ab w W0 ∧ W0.heap[ab]? = some (.cells r.cells 25 (0, 0)) ∧ W0.heap[ob]? = some (.cells o.cells 25 (0, 0))) := Lib.hid ⟨hBW, hA, hO⟩
  clear hA hO hBW
  go_upto_region 3 with (go_at_call 11; refine (l18_known _).mono ?_; rintro e w1 ⟨rfl, hB1⟩; have X1 : Hid (Below ab w w1 ∧ w1.heap[ab]? = some (.cells r.cells 25 (0, 0)) ∧ w1.heap[ob]? = some (.cells o.cells 25 (0, 0))) := Lib.hid ⟨X0.out.1.trans (hB1.mono (by rw [← HAB.out.1] at X0 ⊢; exact X0.out.1.size)), row_on X0.out.2.1 hB1, row_on X0.out.2.2 hB1⟩; clear hB1)
  go_wp2_with (first
    | (refine wpList_load_row rfl 25 (.tmp 3) rfl ab rfl 25 r.cells (0, 0) _ X1.out.2.1 Try.underlying25 (by kernel_rfl) (by kernel_rfl) ?_)
    | (go_at_call 12; ((with_reducible refine (l18_few r HR.out.1 _).mono ?_); rintro e w2 ⟨rfl, hB2⟩; have X2 : Hid (Below ab w w2 ∧ w2.heap[ab]? = some (.cells r.cells 25 (0, 0)) ∧ w2.heap[ob]? = some (.cells o.cells 25 (0, 0))) := Lib.hid ⟨X1.out.1.trans (hB2.mono (by have := X1.out.1.size; have := HAB.out.1; omega)), row_on X1.out.2.1 hB2, row_on X1.out.2.2 hB2⟩; have l4a := (rq_row X2.out.2.2 (Below.refl _ _)).1; have m4a := (rq_row X2.out.2.2 (Below.refl _ _)).2; rw [HF.out.1]; clear hB2))
    | (go_at_call 12; ((with_reducible refine (l18_few o HR.out.2 _).mono ?_); rintro e w3 ⟨rfl, hB3⟩; have X3 : Hid (Below ab w w3 ∧ w3.heap[ab]? = some (.cells r.cells 25 (0, 0)) ∧ w3.heap[ob]? = some (.cells o.cells 25 (0, 0))) := Lib.hid ⟨X2.out.1.trans (hB3.mono (by have := X2.out.1.size; have := HAB.out.1; omega)), row_on X2.out.2.1 hB3, row_on X2.out.2.2 hB3⟩; rw [HF.out.2]; clear hB3 l4a m4a)))
  go_ret
  exact ⟨rfl, by rw [HAB.out.1]; exact X2.out.1⟩
set_option maxHeartbeats 3200000 in
set_option maxRecDepth 100000 in
theorem fq_o (r o : ReqD) (hr : ReqOk r) (ho : ReqOk o) (vb : Value) (zs : List UInt8) (w : World) (hz : Reads w vb zs) (hf : r.few = true) (hg : o.few = false) :
    Calls Try.prog 9 #[.agg r.cells, .agg o.cells, vb] w (TrueBelow w) := by
  obtain ⟨a1, c1, rfl⟩ := hz.len
  have HZ := Lib.hid hz
  have HR := Lib.hid (And.intro hr ho)
  have HF : Hid (r.few = true ∧ o.few = false) := Lib.hid ⟨hf, hg⟩
  clear hf hg
  clear hz hr ho
  go_enter Try.func9, Try.ntmps9
  go_upto_region 1 with (fail)
  have hA : ((w.alloc (.cells r.cells 25)).alloc (.cells o.cells 25)).heap[w.heap.size]? = some (.cells r.cells 25 (0, 0)) := ((below_alloc _ _).block _ (by simp)).trans (heap_alloc_new _ _)
  have hO : ((w.alloc (.cells r.cells 25)).alloc (.cells o.cells 25)).heap[w.heap.size + 1]? = some (.cells o.cells 25 (0, 0)) := by
    have := heap_alloc_new (w.alloc (.cells r.cells 25)) (.cells o.cells 25)
    simpa using this
  have hBW := below_alloc2 w (.cells r.cells 25) (.cells o.cells 25)
  generalize (w.alloc (.cells r.cells 25)).alloc (.cells o.cells 25) = W0 at *
  generalize hob : w.heap.size + 1 = ob at *
  generalize hab : w.heap.size = ab at *
  have HAB := Lib.hid (And.intro hab hob)
  clear hab hob
  have X0 : Hid (Below ab w W0 ∧ W0.heap[ab]? = some (.cells r.cells 25 (0, 0)) ∧ W0.heap[ob]? = some (.cells o.cells 25 (0, 0))) := Lib.hid ⟨hBW, hA, hO⟩
  clear hA hO hBW
  go_upto_region 3 with (go_at_call 11; refine (l18_known _).mono ?_; rintro e w1 ⟨rfl, hB1⟩; have X1 : Hid (Below ab w w1 ∧ w1.heap[ab]? = some (.cells r.cells 25 (0, 0)) ∧ w1.heap[ob]? = some (.cells o.cells 25 (0, 0))) := Lib.hid ⟨X0.out.1.trans (hB1.mono (by rw [← HAB.out.1] at X0 ⊢; exact X0.out.1.size)), row_on X0.out.2.1 hB1, row_on X0.out.2.2 hB1⟩; clear hB1)
  go_wp2_with (first
    | (refine wpList_load_row rfl 25 (.tmp 3) rfl ab rfl 25 r.cells (0, 0) _ X1.out.2.1 Try.underlying25 (by kernel_rfl) (by kernel_rfl) ?_)
    | (go_at_call 12; ((with_reducible refine (l18_few r HR.out.1 _).mono ?_); rintro e w2 ⟨rfl, hB2⟩; have X2 : Hid (Below ab w w2 ∧ w2.heap[ab]? = some (.cells r.cells 25 (0, 0)) ∧ w2.heap[ob]? = some (.cells o.cells 25 (0, 0))) := Lib.hid ⟨X1.out.1.trans (hB2.mono (by have := X1.out.1.size; have := HAB.out.1; omega)), row_on X1.out.2.1 hB2, row_on X1.out.2.2 hB2⟩; have l4a := (rq_row X2.out.2.2 (Below.refl _ _)).1; have m4a := (rq_row X2.out.2.2 (Below.refl _ _)).2; rw [HF.out.1]; clear hB2))
    | (go_at_call 12; ((with_reducible refine (l18_few o HR.out.2 _).mono ?_); rintro e w3 ⟨rfl, hB3⟩; have X3 : Hid (Below ab w w3 ∧ w3.heap[ab]? = some (.cells r.cells 25 (0, 0)) ∧ w3.heap[ob]? = some (.cells o.cells 25 (0, 0))) := Lib.hid ⟨X2.out.1.trans (hB3.mono (by have := X2.out.1.size; have := HAB.out.1; omega)), row_on X2.out.2.1 hB3, row_on X2.out.2.2 hB3⟩; rw [HF.out.2]; clear hB3 l4a m4a)))
  go_ret
  exact ⟨rfl, by rw [HAB.out.1]; exact X3.out.1⟩
set_option maxHeartbeats 3200000 in
set_option maxRecDepth 100000 in
theorem fq_b (r o : ReqD) (hr : ReqOk r) (ho : ReqOk o) (vb : Value) (zs : List UInt8) (w : World) (hz : Reads w vb zs) (hf : r.few = true) (hg : o.few = true) (hl : 2000 < zs.length) :
    Calls Try.prog 9 #[.agg r.cells, .agg o.cells, vb] w (TrueBelow w) := by
  obtain ⟨a1, c1, rfl⟩ := hz.len
  have HZ := Lib.hid hz
  have HR := Lib.hid (And.intro hr ho)
  have HF : Hid (r.few = true ∧ o.few = true) := Lib.hid ⟨hf, hg⟩
  have hl1 : (2000 : Int) < (zs.length : Int) := by omega
  clear hf hg hl
  clear hz hr ho
  go_enter Try.func9, Try.ntmps9
  go_upto_region 1 with (fail)
  have hA : ((w.alloc (.cells r.cells 25)).alloc (.cells o.cells 25)).heap[w.heap.size]? = some (.cells r.cells 25 (0, 0)) := ((below_alloc _ _).block _ (by simp)).trans (heap_alloc_new _ _)
  have hO : ((w.alloc (.cells r.cells 25)).alloc (.cells o.cells 25)).heap[w.heap.size + 1]? = some (.cells o.cells 25 (0, 0)) := by
    have := heap_alloc_new (w.alloc (.cells r.cells 25)) (.cells o.cells 25)
    simpa using this
  have hBW := below_alloc2 w (.cells r.cells 25) (.cells o.cells 25)
  generalize (w.alloc (.cells r.cells 25)).alloc (.cells o.cells 25) = W0 at *
  generalize hob : w.heap.size + 1 = ob at *
  generalize hab : w.heap.size = ab at *
  have HAB := Lib.hid (And.intro hab hob)
  clear hab hob
  have X0 : Hid (Below ab w W0 ∧ W0.heap[ab]? = some (.cells r.cells 25 (0, 0)) ∧ W0.heap[ob]? = some (.cells o.cells 25 (0, 0))) := Lib.hid ⟨hBW, hA, hO⟩
  clear hA hO hBW
  go_upto_region 3 with (go_at_call 11; refine (l18_known _).mono ?_; rintro e w1 ⟨rfl, hB1⟩; have X1 : Hid (Below ab w w1 ∧ w1.heap[ab]? = some (.cells r.cells 25 (0, 0)) ∧ w1.heap[ob]? = some (.cells o.cells 25 (0, 0))) := Lib.hid ⟨X0.out.1.trans (hB1.mono (by rw [← HAB.out.1] at X0 ⊢; exact X0.out.1.size)), row_on X0.out.2.1 hB1, row_on X0.out.2.2 hB1⟩; clear hB1)
  go_wp2_with (first
    | (refine wpList_load_row rfl 25 (.tmp 3) rfl ab rfl 25 r.cells (0, 0) _ X1.out.2.1 Try.underlying25 (by kernel_rfl) (by kernel_rfl) ?_)
    | (go_at_call 12; ((with_reducible refine (l18_few r HR.out.1 _).mono ?_); rintro e w2 ⟨rfl, hB2⟩; have X2 : Hid (Below ab w w2 ∧ w2.heap[ab]? = some (.cells r.cells 25 (0, 0)) ∧ w2.heap[ob]? = some (.cells o.cells 25 (0, 0))) := Lib.hid ⟨X1.out.1.trans (hB2.mono (by have := X1.out.1.size; have := HAB.out.1; omega)), row_on X1.out.2.1 hB2, row_on X1.out.2.2 hB2⟩; have l4a := (rq_row X2.out.2.2 (Below.refl _ _)).1; have m4a := (rq_row X2.out.2.2 (Below.refl _ _)).2; rw [HF.out.1]; clear hB2))
    | (go_at_call 12; ((with_reducible refine (l18_few o HR.out.2 _).mono ?_); rintro e w3 ⟨rfl, hB3⟩; have X3 : Hid (Below ab w w3 ∧ w3.heap[ab]? = some (.cells r.cells 25 (0, 0)) ∧ w3.heap[ob]? = some (.cells o.cells 25 (0, 0))) := Lib.hid ⟨X2.out.1.trans (hB3.mono (by have := X2.out.1.size; have := HAB.out.1; omega)), row_on X2.out.2.1 hB3, row_on X2.out.2.2 hB3⟩; rw [HF.out.2]; clear hB3 l4a m4a)))
  go_ret
  exact ⟨rfl, by rw [HAB.out.1]; exact X3.out.1⟩
set_option maxHeartbeats 3200000 in
set_option maxRecDepth 100000 in
theorem fq_main (r o : ReqD) (hr : ReqOk r) (ho : ReqOk o) (vb : Value) (zs : List UInt8) (w : World) (hz : Reads w vb zs) (hf : r.few = true) (hg : o.few = true) (hl : zs.length ≤ 2000) :
    Calls Try.prog 9 #[.agg r.cells, .agg o.cells, vb] w (TrueBelow w) := by
  obtain ⟨a1, c1, rfl⟩ := hz.len
  have HZ := Lib.hid hz
  have HR := Lib.hid (And.intro hr ho)
  have HF : Hid (r.few = true ∧ o.few = true) := Lib.hid ⟨hf, hg⟩
  have HL := Lib.hid hl
  have hl1 : ¬ (2000 : Int) < (zs.length : Int) := by omega
  clear hf hg hl
  clear hz hr ho
  go_enter Try.func9, Try.ntmps9
  go_upto_region 1 with (fail)
  have hA : ((w.alloc (.cells r.cells 25)).alloc (.cells o.cells 25)).heap[w.heap.size]? = some (.cells r.cells 25 (0, 0)) := ((below_alloc _ _).block _ (by simp)).trans (heap_alloc_new _ _)
  have hO : ((w.alloc (.cells r.cells 25)).alloc (.cells o.cells 25)).heap[w.heap.size + 1]? = some (.cells o.cells 25 (0, 0)) := by
    have := heap_alloc_new (w.alloc (.cells r.cells 25)) (.cells o.cells 25)
    simpa using this
  have hBW := below_alloc2 w (.cells r.cells 25) (.cells o.cells 25)
  generalize (w.alloc (.cells r.cells 25)).alloc (.cells o.cells 25) = W0 at *
  generalize hob : w.heap.size + 1 = ob at *
  generalize hab : w.heap.size = ab at *
  have HAB := Lib.hid (And.intro hab hob)
  clear hab hob
  have X0 : Hid (Below ab w W0 ∧ W0.heap[ab]? = some (.cells r.cells 25 (0, 0)) ∧ W0.heap[ob]? = some (.cells o.cells 25 (0, 0))) := Lib.hid ⟨hBW, hA, hO⟩
  clear hA hO hBW
  go_upto_region 3 with (go_at_call 11; refine (l18_known _).mono ?_; rintro e w1 ⟨rfl, hB1⟩; have X1 : Hid (Below ab w w1 ∧ w1.heap[ab]? = some (.cells r.cells 25 (0, 0)) ∧ w1.heap[ob]? = some (.cells o.cells 25 (0, 0))) := Lib.hid ⟨X0.out.1.trans (hB1.mono (by rw [← HAB.out.1] at X0 ⊢; exact X0.out.1.size)), row_on X0.out.2.1 hB1, row_on X0.out.2.2 hB1⟩; clear hB1)
  go_upto_region 5 with (first
    | (refine wpList_load_row rfl 25 (.tmp 3) rfl ab rfl 25 r.cells (0, 0) _ X1.out.2.1 Try.underlying25 (by kernel_rfl) (by kernel_rfl) ?_)
    | (go_at_call 12; ((with_reducible refine (l18_few r HR.out.1 _).mono ?_); rintro e w2 ⟨rfl, hB2⟩; have X2 : Hid (Below ab w w2 ∧ w2.heap[ab]? = some (.cells r.cells 25 (0, 0)) ∧ w2.heap[ob]? = some (.cells o.cells 25 (0, 0))) := Lib.hid ⟨X1.out.1.trans (hB2.mono (by have := X1.out.1.size; have := HAB.out.1; omega)), row_on X1.out.2.1 hB2, row_on X1.out.2.2 hB2⟩; have l4a := (rq_row X2.out.2.2 (Below.refl _ _)).1; have m4a := (rq_row X2.out.2.2 (Below.refl _ _)).2; rw [HF.out.1]; clear hB2))
    | (go_at_call 12; ((with_reducible refine (l18_few o HR.out.2 _).mono ?_); rintro e w3 ⟨rfl, hB3⟩; have X3 : Hid (Below ab w w3 ∧ w3.heap[ab]? = some (.cells r.cells 25 (0, 0)) ∧ w3.heap[ob]? = some (.cells o.cells 25 (0, 0))) := Lib.hid ⟨X2.out.1.trans (hB3.mono (by have := X2.out.1.size; have := HAB.out.1; omega)), row_on X2.out.2.1 hB3, row_on X2.out.2.2 hB3⟩; rw [HF.out.2]; clear hB3 l4a m4a)))
  clear X1 X2 X0
  go_upto_region 6 with (first
    | (refine wpList_load_row rfl 25 (.tmp 3) rfl ab rfl 25 r.cells (0, 0) _ X3.out.2.1 Try.underlying25 (by kernel_rfl) (by kernel_rfl) ?_)
    | (go_at_call 13; refine (fr_encR r _).mono ?_; rintro e w5 ⟨v5, rfl, hr5, hB5⟩; have X5 : Hid (Below ab w w5 ∧ w5.heap[ab]? = some (.cells r.cells 25 (0, 0)) ∧ w5.heap[ob]? = some (.cells o.cells 25 (0, 0))) := Lib.hid ⟨X3.out.1.trans (hB5.mono (by have := X3.out.1.size; have := HAB.out.1; omega)), row_on X3.out.2.1 hB5, row_on X3.out.2.2 hB5⟩; have R5 := Lib.hid hr5; clear hB5 hr5))
  clear X3
  go_upto_region 7 with (first
    | (refine wpList_load_row rfl 25 (.tmp 3) rfl ab rfl 25 r.cells (0, 0) _ X5.out.2.1 Try.underlying25 (by kernel_rfl) (by kernel_rfl) ?_)
    | (go_at_call 28; refine (ref_encR r _).mono ?_; rintro e w6 ⟨v6, rfl, hr6, hB6⟩; have X6 : Hid (Below ab w w6 ∧ w6.heap[ab]? = some (.cells r.cells 25 (0, 0)) ∧ w6.heap[ob]? = some (.cells o.cells 25 (0, 0)) ∧ Reads w6 v5 (encR r).1) := Lib.hid ⟨X5.out.1.trans (hB6.mono (by have := X5.out.1.size; have := HAB.out.1; omega)), row_on X5.out.2.1 hB6, row_on X5.out.2.2 hB6, R5.out.below hB6⟩; have R6 := Lib.hid hr6; clear hB6 hr6))
  clear X5 R5
  obtain ⟨Q, hQ⟩ := parseQ_shape zs
  have HQ := Lib.hid hQ
  clear hQ
  have Z6 : Hid (Reads w6 (.slice a1 zs.length c1) zs) := Lib.hid (HZ.out.below (by rw [HAB.out.1]; exact X6.out.1))
  go_upto_region 8 with (first
    | (at_builtin; refine wpList_append_bytes _ rfl (.tmp 45) (.tmp 46) rfl rfl w6.heap.size (.slice (some ⟨w6.heap.size, 0, none⟩) 0 0) [] rfl ownB_empty (.slice a1 zs.length c1) zs rfl (Z6.out.below (below_alloc _ _)) (fits_of _ (by have := HL.out; simp; omega)) (by simp) ?_
       intro vc wa ho hg
       have A7 : Hid (Reads wa vc zs ∧ Below w6.heap.size w6 wa) := Lib.hid ⟨by simpa using Reads.of_own ho, hg.below_ge (fun k hk => by simp [Value.ownBlock] at hk; omega) (below_alloc _ _) (by simp)⟩
       clear ho hg)
    | (go_at_call 29; refine (fr_parse_req vc zs wa A7.out.1 (by have := HL.out; omega)).mono ?_; rintro e w7 hp; have hp2 := pq_of hp HQ.out; clear hp; obtain ⟨rfl, hB7⟩ := hp2; have B7 := Lib.hid hB7; clear hB7)
    | (refine wpList_store_row rfl 25 (.tmp 11) (.tmp 49) rfl w7.heap.size Q.cells rfl rfl 25 reqZ0.cells (heap_alloc_new _ _) (by kernel_rfl) rfl (req_one_cells _) ?_))
  change Code.wp _ _ _ _ ((w7.alloc (.cells reqZ0.cells 25)).setRow w7.heap.size Q.cells)
  have hm := row_madeR w7 Q.cells reqZ0.cells 25
  generalize (w7.alloc (.cells reqZ0.cells 25)).setRow w7.heap.size Q.cells = W7 at *
  have h67 : Below w6.heap.size w6 W7 := (A7.out.2.trans (B7.out.mono A7.out.2.size)).trans (hm.1.mono (Nat.le_trans A7.out.2.size B7.out.size))
  generalize w7.heap.size = pb at *
  have X7 : Hid (Below ab w W7 ∧ W7.heap[ab]? = some (.cells r.cells 25 (0, 0)) ∧ W7.heap[ob]? = some (.cells o.cells 25 (0, 0)) ∧ Reads W7 v5 (encR r).1 ∧ Reads W7 v6 (encR r).1 ∧ W7.heap[pb]? = some (.cells Q.cells 25 (0, 0)) ∧ Reads W7 (.slice a1 zs.length c1) zs) := Lib.hid ⟨X6.out.1.trans (h67.mono (by have := X6.out.1.size; have := HAB.out.1; omega)), row_on X6.out.2.1 h67, row_on X6.out.2.2.1 h67, X6.out.2.2.2.below h67, R6.out.below h67, hm.2.1, Z6.out.below h67⟩
  clear hm h67 A7 B7 X6 R6 Z6
  go_upto_region 9 with (first
    | (go_at_call 30; refine (ref_parse_req (.slice a1 zs.length c1) zs W7 X7.out.2.2.2.2.2.2 (by have := HL.out; omega)).mono ?_; rintro e w8 hp; have hp2 := pq_of hp HQ.out; clear hp; obtain ⟨rfl, hB8⟩ := hp2; have B8 := Lib.hid hB8; clear hB8)
    | (refine wpList_store_row rfl 25 (.tmp 13) (.tmp 54) rfl w8.heap.size Q.cells rfl rfl 25 reqZ0.cells (heap_alloc_new _ _) (by kernel_rfl) rfl (req_one_cells _) ?_))
  change Code.wp _ _ _ _ ((w8.alloc (.cells reqZ0.cells 25)).setRow w8.heap.size Q.cells)
  have hm := row_madeR w8 Q.cells reqZ0.cells 25
  generalize (w8.alloc (.cells reqZ0.cells 25)).setRow w8.heap.size Q.cells = W8 at *
  have h78 : Below W7.heap.size W7 W8 := B8.out.trans (hm.1.mono B8.out.size)
  generalize w8.heap.size = qb at *
  have X8 : Hid (Below ab w W8 ∧ W8.heap[ab]? = some (.cells r.cells 25 (0, 0)) ∧ W8.heap[ob]? = some (.cells o.cells 25 (0, 0)) ∧ Reads W8 v5 (encR r).1 ∧ Reads W8 v6 (encR r).1 ∧ W8.heap[pb]? = some (.cells Q.cells 25 (0, 0)) ∧ Reads W8 (.slice a1 zs.length c1) zs ∧ W8.heap[qb]? = some (.cells Q.cells 25 (0, 0))) := Lib.hid ⟨X7.out.1.trans (h78.mono (by have := X7.out.1.size; have := HAB.out.1; omega)), row_on X7.out.2.1 h78, row_on X7.out.2.2.1 h78, X7.out.2.2.2.1.below h78, X7.out.2.2.2.2.1.below h78, row_on X7.out.2.2.2.2.2.1 h78, X7.out.2.2.2.2.2.2.below h78, hm.2.1⟩
  clear hm h78 B8 X7
  have HB := Lib.hid (bytes_parse zs)
  have HPB : Hid ((encR r).2 = 0 → parseReqC (encR r).1 = ((plainQ r).cells.toList, 0) ∧ (encR r).1.length ≤ 2000) := Lib.hid (fun h => by
    obtain ⟨k1, k2, k3⟩ := encR_ok r h
    rw [k3]
    exact ⟨parse_bytes r k1 k2 (fit_of_ok r HR.out.1), Nat.le_of_lt (bytes_fit r k2)⟩)
  generalize encR r = er at *
  obtain ⟨eb, ee⟩ := er
  generalize parseReqC zs = pz at *
  obtain ⟨pc, pe⟩ := pz
  have l3 : ∀ w', Below W8.heap.size W8 w' → isRow w' ab 0 18 = true := fun w' hB => (rq_row X8.out.2.1 hB).1
  have m3 : ∀ w', Below W8.heap.size W8 w' → rowOf w' ab 0 18 = r.cells := fun w' hB => (rq_row X8.out.2.1 hB).2
  have l4 : ∀ w', Below W8.heap.size W8 w' → isRow w' ob 0 18 = true := fun w' hB => (rq_row X8.out.2.2.1 hB).1
  have m4 : ∀ w', Below W8.heap.size W8 w' → rowOf w' ob 0 18 = o.cells := fun w' hB => (rq_row X8.out.2.2.1 hB).2
  have l11 : ∀ w', Below W8.heap.size W8 w' → isRow w' pb 0 18 = true := fun w' hB => (rq_row X8.out.2.2.2.2.2.1 hB).1
  have m11 : ∀ w', Below W8.heap.size W8 w' → rowOf w' pb 0 18 = Q.cells := fun w' hB => (rq_row X8.out.2.2.2.2.2.1 hB).2
  have l13 : ∀ w', Below W8.heap.size W8 w' → isRow w' qb 0 18 = true := fun w' hB => (rq_row X8.out.2.2.2.2.2.2.2 hB).1
  have m13 : ∀ w', Below W8.heap.size W8 w' → rowOf w' qb 0 18 = Q.cells := fun w' hB => (rq_row X8.out.2.2.2.2.2.2.2 hB).2
  have s5 : ∀ w', Below W8.heap.size W8 w' → (convert 28 9 v5).run Try.prog w' = .ok (.string (strB eb)) w' := fun w' hB => run_string_of _ _ _ Try.underlying28 Try.underlying5 Try.underlying9 (X8.out.2.2.2.1.below hB)
  have s6 : ∀ w', Below W8.heap.size W8 w' → (convert 28 9 v6).run Try.prog w' = .ok (.string (strB eb)) w' := fun w' hB => run_string_of _ _ _ Try.underlying28 Try.underlying5 Try.underlying9 (X8.out.2.2.2.2.1.below hB)
  have en : ∀ (q : ReqD) (w' : World), (binOp .neq 25 (.agg q.cells) (.agg q.cells)).run Try.prog w' = .ok (.bool false) w' := neq_req
  refine wp_region_held_drew (S := fun w' => Below W8.heap.size W8 w') (by kernel_rfl) (Below.refl _ _).drew (fun hHeld => ?_)
  have qS := hHeld
  clear hHeld
  refine wpAnyH_take (i := 0) (oi := { dst := some 56, op := Op.move (.tmp 7), type := 28, pos := "law.go:42", after := #[], guard := none }) (v := ?_) rfl (by kernel_rfl) (by kernel_rfl) (by kernel_rfl) (fun _ _ _ h => h) (Or.inl ⟨by rfl, ?_⟩) qS ?_
  rotate_left
  · intro w hSw
    (try dsimp only at hSw)
    go_simp
    all_goals with_reducible rfl
  simp only [Act.put, List.setIfInBounds_toArray, List.set_cons_zero, List.set_cons_succ]
  refine wpAnyH_take (i := 1) (oi := { dst := some 57, op := Op.convert 28 9 (.tmp 56), type := 9, pos := "law.go:42", after := #[{ on := 0, ground := .data }], guard := none }) (v := ?_) rfl (by kernel_rfl) (by kernel_rfl) (by kernel_rfl) (fun _ _ _ h => h) (Or.inl ⟨by rfl, ?_⟩) qS ?_
  rotate_left
  · intro w hSw
    (try dsimp only at hSw)
    go_simp
    all_goals with_reducible rfl
  simp only [Act.put, List.setIfInBounds_toArray, List.set_cons_zero, List.set_cons_succ]
  refine wpAnyH_take (i := 2) (oi := { dst := some 58, op := Op.move (.tmp 9), type := 28, pos := "law.go:42", after := #[], guard := none }) (v := ?_) rfl (by kernel_rfl) (by kernel_rfl) (by kernel_rfl) (fun _ _ _ h => h) (Or.inl ⟨by rfl, ?_⟩) qS ?_
  rotate_left
  · intro w hSw
    (try dsimp only at hSw)
    go_simp
    all_goals with_reducible rfl
  simp only [Act.put, List.setIfInBounds_toArray, List.set_cons_zero, List.set_cons_succ]
  refine wpAnyH_take (i := 3) (oi := { dst := some 59, op := Op.convert 28 9 (.tmp 58), type := 9, pos := "law.go:42", after := #[{ on := 2, ground := .data }], guard := none }) (v := ?_) rfl (by kernel_rfl) (by kernel_rfl) (by kernel_rfl) (fun _ _ _ h => h) (Or.inl ⟨by rfl, ?_⟩) qS ?_
  rotate_left
  · intro w hSw
    (try dsimp only at hSw)
    go_simp
    all_goals with_reducible rfl
  simp only [Act.put, List.setIfInBounds_toArray, List.set_cons_zero, List.set_cons_succ]
  refine wpAnyH_take (i := 4) (oi := { dst := some 60, op := Op.binOp BinOp.neq 9 (.tmp 57) (.tmp 59) 9, type := 4, pos := "law.go:42", after := #[{ on := 1, ground := .data }, { on := 3, ground := .data }], guard := none }) (v := ?_) rfl (by kernel_rfl) (by kernel_rfl) (by kernel_rfl) (fun _ _ _ h => h) (Or.inl ⟨by rfl, ?_⟩) qS ?_
  rotate_left
  · intro w hSw
    (try dsimp only at hSw)
    go_simp
    all_goals with_reducible rfl
  simp only [Act.put, List.setIfInBounds_toArray, List.set_cons_zero, List.set_cons_succ]
  refine wpAnyH_take (i := 5) (oi := { dst := some 61, op := Op.move (.tmp 60), type := 4, pos := "law.go:42", after := #[{ on := 4, ground := .data }], guard := none }) (v := ?_) rfl (by kernel_rfl) (by kernel_rfl) (by kernel_rfl) (fun _ _ _ h => h) (Or.inl ⟨by rfl, ?_⟩) qS ?_
  rotate_left
  · intro w hSw
    (try dsimp only at hSw)
    go_simp
    all_goals with_reducible rfl
  simp only [Act.put, List.setIfInBounds_toArray, List.set_cons_zero, List.set_cons_succ]
  refine wpAnyH_take (i := 6) (oi := { dst := some 62, op := Op.move (.tmp 8), type := 29, pos := "law.go:42", after := #[{ on := 5, ground := .guard }], guard := some (5, false) }) (v := ?_) rfl (by kernel_rfl) (by kernel_rfl) (by kernel_rfl) (fun _ _ _ h => h) (Or.inl ⟨by rfl, ?_⟩) qS ?_
  rotate_left
  · intro w hSw
    (try dsimp only at hSw)
    go_simp
    all_goals with_reducible rfl
  simp only [Act.put, List.setIfInBounds_toArray, List.set_cons_zero, List.set_cons_succ]
  refine wpAnyH_take (i := 7) (oi := { dst := some 63, op := Op.move (.tmp 10), type := 3, pos := "law.go:42", after := #[{ on := 5, ground := .guard }], guard := some (5, false) }) (v := ?_) rfl (by kernel_rfl) (by kernel_rfl) (by kernel_rfl) (fun _ _ _ h => h) (Or.inl ⟨by rfl, ?_⟩) qS ?_
  rotate_left
  · intro w hSw
    (try dsimp only at hSw)
    go_simp
    all_goals with_reducible rfl
  simp only [Act.put, List.setIfInBounds_toArray, List.set_cons_zero, List.set_cons_succ]
  refine wpAnyH_take (i := 8) (oi := { dst := some 64, op := Op.binOp BinOp.neq 3 (.tmp 62) (.tmp 63) 3, type := 4, pos := "law.go:42", after := #[{ on := 6, ground := .data }, { on := 7, ground := .data }, { on := 5, ground := .guard }], guard := some (5, false) }) (v := ?_) rfl (by kernel_rfl) (by kernel_rfl) (by kernel_rfl) (fun _ _ _ h => h) (Or.inl ⟨by rfl, ?_⟩) qS ?_
  rotate_left
  · intro w hSw
    (try dsimp only at hSw)
    go_simp
    all_goals with_reducible rfl
  simp only [Act.put, List.setIfInBounds_toArray, List.set_cons_zero, List.set_cons_succ]
  refine wpAnyH_take (i := 9) (oi := { dst := some 65, op := Op.pick (.tmp 61) (.const (Value.bool true)) (.tmp 64), type := 4, pos := "law.go:42", after := #[{ on := 5, ground := .data }, { on := 8, ground := .data }], guard := none }) (v := ?_) rfl (by kernel_rfl) (by kernel_rfl) (by kernel_rfl) (fun _ _ _ h => h) (Or.inl ⟨by rfl, ?_⟩) qS ?_
  rotate_left
  · intro w hSw
    (try dsimp only at hSw)
    go_simp
    all_goals with_reducible rfl
  simp only [Act.put, List.setIfInBounds_toArray, List.set_cons_zero, List.set_cons_succ]
  refine wpAnyH_take (i := 10) (oi := { dst := some 66, op := Op.move (.tmp 65), type := 4, pos := "law.go:42", after := #[{ on := 9, ground := .data }, { on := 5, ground := .chain }], guard := none }) (v := ?_) rfl (by kernel_rfl) (by kernel_rfl) (by kernel_rfl) (fun _ _ _ h => h) (Or.inl ⟨by rfl, ?_⟩) qS ?_
  rotate_left
  · intro w hSw
    (try dsimp only at hSw)
    go_simp
    all_goals with_reducible rfl
  simp only [Act.put, List.setIfInBounds_toArray, List.set_cons_zero, List.set_cons_succ]
  refine wpAnyH_take (i := 11) (oi := { dst := some 67, op := Op.move (.tmp 12), type := 29, pos := "law.go:42", after := #[{ on := 10, ground := .guard }], guard := some (10, false) }) (v := ?_) rfl (by kernel_rfl) (by kernel_rfl) (by kernel_rfl) (fun _ _ _ h => h) (Or.inl ⟨by rfl, ?_⟩) qS ?_
  rotate_left
  · intro w hSw
    (try dsimp only at hSw)
    go_simp
    all_goals with_reducible rfl
  simp only [Act.put, List.setIfInBounds_toArray, List.set_cons_zero, List.set_cons_succ]
  refine wpAnyH_take (i := 12) (oi := { dst := some 68, op := Op.move (.tmp 14), type := 3, pos := "law.go:42", after := #[{ on := 10, ground := .guard }], guard := some (10, false) }) (v := ?_) rfl (by kernel_rfl) (by kernel_rfl) (by kernel_rfl) (fun _ _ _ h => h) (Or.inl ⟨by rfl, ?_⟩) qS ?_
  rotate_left
  · intro w hSw
    (try dsimp only at hSw)
    go_simp
    all_goals with_reducible rfl
  simp only [Act.put, List.setIfInBounds_toArray, List.set_cons_zero, List.set_cons_succ]
  refine wpAnyH_take (i := 13) (oi := { dst := some 69, op := Op.binOp BinOp.neq 3 (.tmp 67) (.tmp 68) 3, type := 4, pos := "law.go:42", after := #[{ on := 11, ground := .data }, { on := 12, ground := .data }, { on := 10, ground := .guard }], guard := some (10, false) }) (v := ?_) rfl (by kernel_rfl) (by kernel_rfl) (by kernel_rfl) (fun _ _ _ h => h) (Or.inl ⟨by rfl, ?_⟩) qS ?_
  rotate_left
  · intro w hSw
    (try dsimp only at hSw)
    go_simp
    all_goals with_reducible rfl
  simp only [Act.put, List.setIfInBounds_toArray, List.set_cons_zero, List.set_cons_succ]
  refine wpAnyH_take (i := 14) (oi := { dst := some 70, op := Op.pick (.tmp 66) (.const (Value.bool true)) (.tmp 69), type := 4, pos := "law.go:42", after := #[{ on := 10, ground := .data }, { on := 13, ground := .data }], guard := none }) (v := ?_) rfl (by kernel_rfl) (by kernel_rfl) (by kernel_rfl) (fun _ _ _ h => h) (Or.inl ⟨by rfl, ?_⟩) qS ?_
  rotate_left
  · intro w hSw
    (try dsimp only at hSw)
    go_simp
    all_goals with_reducible rfl
  simp only [Act.put, List.setIfInBounds_toArray, List.set_cons_zero, List.set_cons_succ]
  refine wpAnyH_take (i := 15) (oi := { dst := some 71, op := Op.move (.tmp 70), type := 4, pos := "law.go:42", after := #[{ on := 14, ground := .data }, { on := 10, ground := .chain }], guard := none }) (v := ?_) rfl (by kernel_rfl) (by kernel_rfl) (by kernel_rfl) (fun _ _ _ h => h) (Or.inl ⟨by rfl, ?_⟩) qS ?_
  rotate_left
  · intro w hSw
    (try dsimp only at hSw)
    go_simp
    all_goals with_reducible rfl
  simp only [Act.put, List.setIfInBounds_toArray, List.set_cons_zero, List.set_cons_succ]
  refine wpAnyH_take (i := 16) (oi := { dst := some 72, op := Op.load 25 (.tmp 11), type := 25, pos := "law.go:42", after := #[{ on := 15, ground := .guard }], guard := some (15, false) }) (v := ?_) rfl (by kernel_rfl) (by kernel_rfl) (by kernel_rfl) (fun _ _ _ h => h) (Or.inl ⟨by rfl, ?_⟩) qS ?_
  rotate_left
  · intro w hSw
    (try dsimp only at hSw)
    go_simp
    all_goals with_reducible rfl
  simp only [Act.put, List.setIfInBounds_toArray, List.set_cons_zero, List.set_cons_succ]
  refine wpAnyH_take (i := 17) (oi := { dst := some 73, op := Op.load 25 (.tmp 13), type := 25, pos := "law.go:42", after := #[{ on := 15, ground := .guard }], guard := some (15, false) }) (v := ?_) rfl (by kernel_rfl) (by kernel_rfl) (by kernel_rfl) (fun _ _ _ h => h) (Or.inl ⟨by rfl, ?_⟩) qS ?_
  rotate_left
  · intro w hSw
    (try dsimp only at hSw)
    go_simp
    all_goals with_reducible rfl
  simp only [Act.put, List.setIfInBounds_toArray, List.set_cons_zero, List.set_cons_succ]
  refine wpAnyH_take (i := 18) (oi := { dst := some 74, op := Op.binOp BinOp.neq 25 (.tmp 72) (.tmp 73) 25, type := 4, pos := "law.go:42", after := #[{ on := 16, ground := .data }, { on := 17, ground := .data }, { on := 15, ground := .guard }], guard := some (15, false) }) (v := ?_) rfl (by kernel_rfl) (by kernel_rfl) (by kernel_rfl) (fun _ _ _ h => h) (Or.inl ⟨by rfl, ?_⟩) qS ?_
  rotate_left
  · intro w hSw
    (try dsimp only at hSw)
    go_simp
    all_goals with_reducible rfl
  simp only [Act.put, List.setIfInBounds_toArray, List.set_cons_zero, List.set_cons_succ]
  refine wpAnyH_take (i := 19) (oi := { dst := some 75, op := Op.pick (.tmp 71) (.const (Value.bool true)) (.tmp 74), type := 4, pos := "law.go:42", after := #[{ on := 15, ground := .data }, { on := 18, ground := .data }], guard := none }) (v := ?_) rfl (by kernel_rfl) (by kernel_rfl) (by kernel_rfl) (fun _ _ _ h => h) (Or.inl ⟨by rfl, ?_⟩) qS ?_
  rotate_left
  · intro w hSw
    (try dsimp only at hSw)
    go_simp
    all_goals with_reducible rfl
  simp only [Act.put, List.setIfInBounds_toArray, List.set_cons_zero, List.set_cons_succ]
  refine wpAnyH_take (i := 20) (oi := { dst := some 76, op := Op.move (.tmp 75), type := 4, pos := "law.go:42", after := #[{ on := 19, ground := .data }, { on := 15, ground := .chain }], guard := none }) (v := ?_) rfl (by kernel_rfl) (by kernel_rfl) (by kernel_rfl) (fun _ _ _ h => h) (Or.inl ⟨by rfl, ?_⟩) qS ?_
  rotate_left
  · intro w hSw
    (try dsimp only at hSw)
    go_simp
    all_goals with_reducible rfl
  simp only [Act.put, List.setIfInBounds_toArray, List.set_cons_zero, List.set_cons_succ]
  refine wpAnyH_take (i := 21) (oi := { dst := some 77, op := Op.load 25 (.tmp 3), type := 25, pos := "law.go:42", after := #[{ on := 20, ground := .guard }], guard := some (20, false) }) (v := ?_) rfl (by kernel_rfl) (by kernel_rfl) (by kernel_rfl) (fun _ _ _ h => h) (Or.inl ⟨by rfl, ?_⟩) qS ?_
  rotate_left
  · intro w hSw
    (try dsimp only at hSw)
    go_simp
    all_goals with_reducible rfl
  simp only [Act.put, List.setIfInBounds_toArray, List.set_cons_zero, List.set_cons_succ]
  refine wpAnyH_take (i := 22) (oi := { dst := some 78, op := Op.load 25 (.tmp 4), type := 25, pos := "law.go:42", after := #[{ on := 20, ground := .guard }], guard := some (20, false) }) (v := ?_) rfl (by kernel_rfl) (by kernel_rfl) (by kernel_rfl) (fun _ _ _ h => h) (Or.inl ⟨by rfl, ?_⟩) qS ?_
  rotate_left
  · intro w hSw
    (try dsimp only at hSw)
    go_simp
    all_goals with_reducible rfl
  simp only [Act.put, List.setIfInBounds_toArray, List.set_cons_zero, List.set_cons_succ]
  refine wpAnyH_take (i := 24) (oi := { dst := some 80, op := Op.load 25 (.tmp 3), type := 25, pos := "law.go:42", after := #[{ on := 20, ground := .guard }], guard := some (20, false) }) (v := ?_) rfl (by kernel_rfl) (by kernel_rfl) (by kernel_rfl) (fun _ _ _ h => h) (Or.inl ⟨by rfl, ?_⟩) qS ?_
  rotate_left
  · intro w hSw
    (try dsimp only at hSw)
    go_simp
    all_goals with_reducible rfl
  simp only [Act.put, List.setIfInBounds_toArray, List.set_cons_zero, List.set_cons_succ]
  refine wpAnyH_take (i := 25) (oi := { dst := some 81, op := Op.load 25 (.tmp 4), type := 25, pos := "law.go:42", after := #[{ on := 20, ground := .guard }], guard := some (20, false) }) (v := ?_) rfl (by kernel_rfl) (by kernel_rfl) (by kernel_rfl) (fun _ _ _ h => h) (Or.inl ⟨by rfl, ?_⟩) qS ?_
  rotate_left
  · intro w hSw
    (try dsimp only at hSw)
    go_simp
    all_goals with_reducible rfl
  simp only [Act.put, List.setIfInBounds_toArray, List.set_cons_zero, List.set_cons_succ]
  refine H_one (i := 23) (o := { dst := some 79, op := Op.call { callee := Callee.value (.func 31), args := #[.tmp 77, .tmp 78], argTypes := #[25, 25] }, type := 4, pos := "law.go:42", after := #[{ on := 21, ground := .data }, { on := 22, ground := .data }, { on := 20, ground := .chain }, { on := 20, ground := .guard }], guard := some (20, false) }) (by kernel_rfl) rfl (fun K hK => ?_)
  go_simp
  go_at_call 31
  refine (fr_same r o _).mono ?_
  rintro e wA ⟨rfl, hB⟩
  have pvwA : Below W8.heap.size W8 wA := qS.trans (hB.mono qS.size)
  clear hB
  go_simp
  refine hK.out _ _ pvwA ?_
  clear hK K
  (try simp only [Act.put, List.setIfInBounds_toArray, List.set_cons_zero, List.set_cons_succ])
  replace qS := pvwA
  refine H_one (i := 26) (o := { dst := some 82, op := Op.call { callee := Callee.value (.func 32), args := #[.tmp 80, .tmp 81], argTypes := #[25, 25] }, type := 4, pos := "law.go:42", after := #[{ on := 24, ground := .data }, { on := 25, ground := .data }, { on := 23, ground := .chain }, { on := 20, ground := .guard }], guard := some (20, false) }) (by kernel_rfl) rfl (fun K hK => ?_)
  go_simp
  go_at_call 32
  refine (ref_same r o _).mono ?_
  rintro e wB ⟨rfl, hB⟩
  have pvwB : Below W8.heap.size W8 wB := qS.trans (hB.mono qS.size)
  clear hB
  go_simp
  refine hK.out _ _ pvwB ?_
  clear hK K
  (try simp only [Act.put, List.setIfInBounds_toArray, List.set_cons_zero, List.set_cons_succ])
  replace qS := pvwB
  refine wpAnyH_take (i := 27) (oi := { dst := some 83, op := Op.binOp BinOp.neq 4 (.tmp 79) (.tmp 82) 4, type := 4, pos := "law.go:42", after := #[{ on := 23, ground := .data }, { on := 26, ground := .data }, { on := 20, ground := .guard }], guard := some (20, false) }) (v := ?_) rfl (by kernel_rfl) (by kernel_rfl) (by kernel_rfl) (fun _ _ _ h => h) (Or.inl ⟨by rfl, ?_⟩) qS ?_
  rotate_left
  · intro w hSw
    (try dsimp only at hSw)
    go_simp
    all_goals with_reducible rfl
  simp only [Act.put, List.setIfInBounds_toArray, List.set_cons_zero, List.set_cons_succ]
  refine wpAnyH_take (i := 28) (oi := { dst := some 84, op := Op.pick (.tmp 76) (.const (Value.bool true)) (.tmp 83), type := 4, pos := "law.go:42", after := #[{ on := 20, ground := .data }, { on := 27, ground := .data }], guard := none }) (v := ?_) rfl (by kernel_rfl) (by kernel_rfl) (by kernel_rfl) (fun _ _ _ h => h) (Or.inl ⟨by rfl, ?_⟩) qS ?_
  rotate_left
  · intro w hSw
    (try dsimp only at hSw)
    go_simp
    all_goals with_reducible rfl
  simp only [Act.put, List.setIfInBounds_toArray, List.set_cons_zero, List.set_cons_succ]
  refine wpAnyH_take (i := 29) (oi := { dst := some 85, op := Op.move (.tmp 84), type := 4, pos := "law.go:42", after := #[{ on := 28, ground := .data }, { on := 26, ground := .chain }], guard := none }) (v := ?_) rfl (by kernel_rfl) (by kernel_rfl) (by kernel_rfl) (fun _ _ _ h => h) (Or.inl ⟨by rfl, ?_⟩) qS ?_
  rotate_left
  · intro w hSw
    (try dsimp only at hSw)
    go_simp
    all_goals with_reducible rfl
  simp only [Act.put, List.setIfInBounds_toArray, List.set_cons_zero, List.set_cons_succ]
  refine wpAnyH_take (i := 30) (oi := { dst := some 86, op := Op.load 25 (.tmp 3), type := 25, pos := "law.go:42", after := #[{ on := 29, ground := .guard }], guard := some (29, false) }) (v := ?_) rfl (by kernel_rfl) (by kernel_rfl) (by kernel_rfl) (fun _ _ _ h => h) (Or.inl ⟨by rfl, ?_⟩) qS ?_
  rotate_left
  · intro w hSw
    (try dsimp only at hSw)
    go_simp
    all_goals with_reducible rfl
  simp only [Act.put, List.setIfInBounds_toArray, List.set_cons_zero, List.set_cons_succ]
  refine wpAnyH_take (i := 31) (oi := { dst := some 87, op := Op.load 25 (.tmp 3), type := 25, pos := "law.go:42", after := #[{ on := 29, ground := .guard }], guard := some (29, false) }) (v := ?_) rfl (by kernel_rfl) (by kernel_rfl) (by kernel_rfl) (fun _ _ _ h => h) (Or.inl ⟨by rfl, ?_⟩) qS ?_
  rotate_left
  · intro w hSw
    (try dsimp only at hSw)
    go_simp
    all_goals with_reducible rfl
  simp only [Act.put, List.setIfInBounds_toArray, List.set_cons_zero, List.set_cons_succ]
  refine H_one (i := 32) (o := { dst := some 88, op := Op.call { callee := Callee.value (.func 31), args := #[.tmp 86, .tmp 87], argTypes := #[25, 25] }, type := 4, pos := "law.go:42", after := #[{ on := 30, ground := .data }, { on := 31, ground := .data }, { on := 29, ground := .chain }, { on := 29, ground := .guard }], guard := some (29, false) }) (by kernel_rfl) rfl (fun K hK => ?_)
  go_simp
  go_at_call 31
  refine (fr_same r r _).mono ?_
  rintro e wC ⟨rfl, hB⟩
  have pvwC : Below W8.heap.size W8 wC := qS.trans (hB.mono qS.size)
  clear hB
  rw [same_refl r]
  go_simp
  refine hK.out _ _ pvwC ?_
  clear hK K
  (try simp only [Act.put, List.setIfInBounds_toArray, List.set_cons_zero, List.set_cons_succ])
  replace qS := pvwC
  refine wpAnyH_take (i := 33) (oi := { dst := some 89, op := Op.unOp UnOp.not 4 (.tmp 88), type := 4, pos := "law.go:42", after := #[{ on := 32, ground := .data }, { on := 29, ground := .guard }], guard := some (29, false) }) (v := ?_) rfl (by kernel_rfl) (by kernel_rfl) (by kernel_rfl) (fun _ _ _ h => h) (Or.inl ⟨by rfl, ?_⟩) qS ?_
  rotate_left
  · intro w hSw
    (try dsimp only at hSw)
    go_simp
    all_goals with_reducible rfl
  simp only [Act.put, List.setIfInBounds_toArray, List.set_cons_zero, List.set_cons_succ]
  refine wpAnyH_take (i := 34) (oi := { dst := some 90, op := Op.pick (.tmp 85) (.const (Value.bool true)) (.tmp 89), type := 4, pos := "law.go:42", after := #[{ on := 29, ground := .data }, { on := 33, ground := .data }], guard := none }) (v := ?_) rfl (by kernel_rfl) (by kernel_rfl) (by kernel_rfl) (fun _ _ _ h => h) (Or.inl ⟨by rfl, ?_⟩) qS ?_
  rotate_left
  · intro w hSw
    (try dsimp only at hSw)
    go_simp
    all_goals with_reducible rfl
  simp only [Act.put, List.setIfInBounds_toArray, List.set_cons_zero, List.set_cons_succ]
  refine wpAnyH_done (by kernel_rfl) ?_ _
  clear l3 m3 l4 m4 l11 m11 l13 m13 s5 s6 en
  have XC : Hid (Below ab w wC ∧ wC.heap[ab]? = some (.cells r.cells 25 (0, 0)) ∧ Reads wC v5 eb ∧ wC.heap[pb]? = some (.cells Q.cells 25 (0, 0)) ∧ Reads wC (.slice a1 zs.length c1) zs) := Lib.hid ⟨X8.out.1.trans (qS.mono (by have := X8.out.1.size; have := HAB.out.1; omega)), row_on X8.out.2.1 qS, X8.out.2.2.2.1.below qS, row_on X8.out.2.2.2.2.2.1 qS, X8.out.2.2.2.2.2.2.1.below qS⟩
  clear qS X8
  go_upto_if 92 with (fail)
  go_cut [] (fun wx => Below wC.heap.size wC wx)
  case first =>
    by_cases he : ee = 0
    · have hb : (ee == 0) = true := by rw [he]; rfl
      obtain ⟨hp1, hp2⟩ := HPB.out he
      have HP1 := Lib.hid hp1
      have hel : eb.length ≤ 1000000 := by have : eb.length ≤ 2000 := hp2; omega
      have HEL := Lib.hid hel
      clear hp1 hp2 he hel
      go_upto_region 13 with (first
        | (go_at_call 29; refine (fr_parse_req v5 eb wC XC.out.2.2.1 HEL.out).mono ?_; rintro e w12 hp; rw [show parseReqC eb = ((plainQ r).cells.toList, 0) from HP1.out] at hp; have hp2 := pq_of (Q := plainQ r) hp rfl; clear hp; obtain ⟨rfl, hB12⟩ := hp2; have B12 := Lib.hid hB12; clear hB12)
        | (refine wpList_store_row rfl 25 (.tmp 15) (.tmp 96) rfl w12.heap.size (plainQ r).cells rfl rfl 25 reqZ0.cells (heap_alloc_new _ _) (by kernel_rfl) rfl (req_one_cells _) ?_))
      change Code.wp _ _ _ _ ((w12.alloc (.cells reqZ0.cells 25)).setRow w12.heap.size (plainQ r).cells)
      have hm := row_madeR w12 (plainQ r).cells reqZ0.cells 25
      generalize (w12.alloc (.cells reqZ0.cells 25)).setRow w12.heap.size (plainQ r).cells = W12 at *
      have hC12 : Below wC.heap.size wC W12 := B12.out.trans (hm.1.mono B12.out.size)
      have BC := Lib.hid hC12
      have l15 := (rq_row hm.2.1 (Below.refl _ _)).1
      have m15 := (rq_row hm.2.1 (Below.refl _ _)).2
      have l3 := (rq_row (row_on XC.out.2.1 hC12) (Below.refl _ _)).1
      have m3 := (rq_row (row_on XC.out.2.1 hC12) (Below.refl _ _)).2
      clear hm hC12 B12
      go_wp2_with (go_at_call 31; refine (fr_same (plainQ r) r _).mono ?_; rintro e w13 ⟨rfl, hB13⟩; rw [same_plain r]; have B13 := Lib.hid hB13; clear hB13)
      go_meet
      exact BC.out.trans (B13.out.mono BC.out.size)
    · have hb : (ee == 0) = false := by simp [he]
      clear he
      go_wp2
      go_meet
      exact Below.refl _ _
  case rest =>
    have XD : Hid (Below ab w wc ∧ wc.heap[pb]? = some (.cells Q.cells 25 (0, 0)) ∧ Reads wc (.slice a1 zs.length c1) zs) := Lib.hid ⟨XC.out.1.trans (hcut.mono (by have := XC.out.1.size; have := HAB.out.1; omega)), row_on XC.out.2.2.2.1 hcut, XC.out.2.2.2.2.below hcut⟩
    clear hcut XC
    by_cases hp : pe = 0
    · have hb : (pe == 0) = true := by rw [hp]; rfl
      obtain ⟨Q2, q1, q2, q3, q4⟩ := HB.out hp
      have hQQ : Q = Q2 := cells_inj (HQ.out.symm.trans q1)
      have HEN : Hid (encR Q = (zs, 0)) := Lib.hid (by rw [hQQ, encR_of Q2 q2 q3, q4])
      clear q1 q2 q3 q4 hQQ hp
      go_upto_region 17 with (first
        | (refine wpList_load_row rfl 25 (.tmp 11) rfl pb rfl 25 Q.cells (0, 0) _ XD.out.2.1 Try.underlying25 (by kernel_rfl) (by kernel_rfl) ?_)
        | (go_at_call 13; refine (fr_encR Q _).mono ?_; rintro e wE ⟨vE, rfl, hrE, hBE⟩; rw [HEN.out] at *; have XE := Lib.hid (And.intro hrE hBE); clear hrE hBE))
      have sE : (convert 28 9 vE).run Try.prog wE = .ok (.string (strB zs)) wE := run_string_of _ _ _ Try.underlying28 Try.underlying5 Try.underlying9 XE.out.1
      have sB : (convert 28 9 (.slice a1 zs.length c1)).run Try.prog wE = .ok (.string (strB zs)) wE := run_string_of _ _ _ Try.underlying28 Try.underlying5 Try.underlying9 (XD.out.2.2.below XE.out.2)
      have F : Hid (Below ab w wE) := Lib.hid (XD.out.1.trans (XE.out.2.mono (by have := XD.out.1.size; have := HAB.out.1; omega)))
      go_wp2
      go_ret
      exact ⟨ret_bool (by first | rfl | simp), by rw [HAB.out.1]; exact F.out⟩
    · have hb : (pe == 0) = false := by simp [hp]
      clear hp
      go_wp2
      go_ret
      exact ⟨rfl, by rw [HAB.out.1]; exact XD.out.1⟩
theorem frameRequests_walk {w : World} (r : ReqD) (hr : ReqOk r) (o : ReqD) (ho : ReqOk o) (vb : Value) (zs : List UInt8) (hz : Reads w vb zs) :
    Calls Try.prog 9 #[.agg r.cells, .agg o.cells, vb] w (TrueBelow w) := by
  cases hf : r.few with
  | false => exact fq_r r o hr ho vb zs w hz hf
  | true =>
    cases hg : o.few with
    | false => exact fq_o r o hr ho vb zs w hz hf hg
    | true =>
      by_cases hl : 2000 < zs.length
      · exact fq_b r o hr ho vb zs w hz hf hg hl
      · exact fq_main r o hr ho vb zs w hz hf hg (by omega)
end Go.Proofs.Ytehkgcmdndehaaa
