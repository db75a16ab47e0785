/-
  For every request, answer, place list, byte list, cut and tail, law FrameTurns of chapter 18 returns true and the arguments read behind the call as before; no condition.
-/
import Derived.Test.YtehkgcmdndehaaaRows
import Derived.Test.YtehkgcmdndehaaaLawFU
import Derived.Test.YtehkgcmdndehaaaOpenAns
import Derived.Test.YtehkgcmdndehaaaOpenReq
import Derived.Test.YtehkgcmdndehaaaOpenB
import Derived.WalkKit
import Derived.ProofKit
import Derived.OpenShut
import Derived.ShutString
import Derived.ChangeOld
import Derived.Below
import Derived.SizedLaws
namespace Go.Proofs.Ytehkgcmdndehaaa
set_option linter.unusedVariables false
set_option linter.unusedSimpArgs false
open Go.RowKit
theorem frameTurns_walk {w : World} (r : ReqD) (hr : ReqOk r) (a : AnsD) (_ : AnsOk a) (va : Value) (ns : List Int) (hra : RdInts w va ns) (vb : Value) (ys : List UInt8) (hrb : Reads w vb ys) (cut : Int) (hcw : (Lit.int .i64 cut).wf = true) (vm : Value) (zs : List UInt8) (hm : Reads w vm zs) :
    Calls Try.prog 10 #[.agg r.cells, .agg a.cells, va, vb, .int .i64 cut, vm] w (TrueBelow w) := by
  obtain ⟨A2, c2, hva, _⟩ := id hra
  obtain ⟨B2, c3, hvb⟩ := hrb.len
  cases hf : r.few with
  | false => exact ft_few r hr a va vb ys cut hcw vm zs w hm A2 B2 _ c2 _ c3 hva hvb _ rfl hf
  | true =>
    by_cases he : (encR r).2 = 0
    · by_cases hl : 100 < zs.length
      · exact ft_more r hr a va vb ys cut hcw vm zs w hm A2 B2 _ c2 _ c3 hva hvb _ rfl hf he hl
      · by_cases hb1 : a.err < 0
        · exact ft_neg r hr a va vb ys cut hcw vm zs w hm A2 B2 _ c2 _ c3 hva hvb _ rfl hf he hl hb1
        · by_cases hb2 : 255 < a.err
          · exact ft_big r hr a va vb ys cut hcw vm zs w hm A2 B2 _ c2 _ c3 hva hvb _ rfl hf he hl hb1 hb2
          · by_cases hb3 : 255 < a.stmt.name.size
            · exact ft_name r hr a va vb ys cut hcw vm zs w hm A2 B2 _ c2 _ c3 hva hvb _ rfl hf he hl hb1 hb2 hb3
            · exact ft_main r hr a va vb ys cut hcw vm zs w hm A2 _ c2 ns hva rfl hra B2 _ c3 hvb rfl hrb hf he hl hb1 hb2 hb3
    · exact ft_err r hr a va vb ys cut hcw vm zs w hm A2 B2 _ c2 _ c3 hva hvb _ rfl hf he
end Go.Proofs.Ytehkgcmdndehaaa
namespace Go.Proofs.Ytehkgcmdndehaaa.frameTurns
open Go.ChangeShapes Go.WideShapes Go.ChangeAt Go.RowKit
open Go.ChangeMaps (open_string shut_string)
set_option linter.unusedVariables false
set_option linter.unusedSimpArgs false
theorem own : ownKnob Try.prog.godebug = none := by kernel_rfl
theorem laidOut : laidOutB Try.prog = true := by kernel_rfl
set_option maxRecDepth 100000 in
theorem lifted (os : Os) (started : os.Started) (H : Type) (enc : TypeId × Value → H) :
    ReturnsInHanded {} Try.checked os 10 .any (Rows.frameTurnsSpec.pre6 enc Try.prog Try.f10 Rows.frameTurnsRow.domain false) (Rows.frameTurnsSpec.post enc Try.prog Try.f10 false true false false) := by
  refine returnsInHanded_of_change_sized (C := Try.checked) own started (by kernel_rfl) Try.func10
    (ChangeSpec.witness6 (enc := enc) (C := Try.checked) false ⟨#[], #[reqZ.value, ansZ.value, .slice none 0 0, .slice none 0 0, .int .i64 0, .slice none 0 0], []⟩ 8 (by kernel_rfl) (by kernel_rfl) (by kernel_rfl) (by kernel_rfl)) ?_
  intro W base args ds gs before hval0 hW hcnd hsz0 _
  have hsz : (DataW.weightsEach Try.prog (Try.f10.params.toList ++ Rows.frameTurnsSpec.plain.varTypes Try.prog) (ds ++ gs)).all (· ≤ reachBytes) = true := hsz0
  have hval : ∀ (j : Nat) t v, Try.f10.params[j]? = some t → args[j]? = some v → Value.okWide Try.prog W .any base t v := hval0
  have hW' := hW
  obtain ⟨p, q, hA0, hV, rfl, hfz, hnd⟩ := hW
  have hA : DataW.TrodAll enc Try.prog W 0 (fun _ => true) true Try.f10.params.toList args.toList ds p := hA0
  rw [Try.params10] at hA hval hsz
  obtain ⟨v0, vs0, d0, ds0, p0, q0, hargs, rfl, rfl, h0, r0⟩ := trodAll_cons hA
  obtain ⟨v1, vs1, d1, ds1, p1, q1, rfl, rfl, rfl, h1, r1⟩ := trodAll_cons r0
  obtain ⟨v2, vs2, d2, ds2, p2, q2, rfl, rfl, rfl, h2, r2⟩ := trodAll_cons r1
  obtain ⟨v3, vs3, d3, ds3, p3, q3, rfl, rfl, rfl, h3, r3⟩ := trodAll_cons r2
  obtain ⟨v4, vs4, d4, ds4, p4, q4, rfl, rfl, rfl, h4, r4⟩ := trodAll_cons r3
  obtain ⟨v5, vs5, d5, ds5, p5, q5, rfl, rfl, rfl, h5, r5⟩ := trodAll_cons r4
  obtain ⟨rfl, rfl, rfl⟩ := trodAll_nil r5
  obtain rfl : args = #[v0, v1, v2, v3, v4, v5] := by cases args; simp_all
  obtain ⟨rfl, rfl⟩ := trodVars_none hV
  have k0 := h0
  have lt0 : ∀ x ∈ p0, x.block < W.heap.size := by obtain ⟨m, hm⟩ := k0; exact DataW.trod_lt m _ _ _ hm
  have wt0 : (d0.weights Try.prog 25).all (· ≤ reachBytes) = true := List.all_eq_true.2 fun y hy => List.all_eq_true.1 hsz y (DataW.weights_mem_each (j := 0) rfl rfl y hy)
  obtain ⟨a0, rfl, w0⟩ := open_req (hval 0 25 v0 rfl rfl) h0 wt0
  have k1 := h1
  have lt1 : ∀ x ∈ p1, x.block < W.heap.size := by obtain ⟨m, hm⟩ := k1; exact DataW.trod_lt m _ _ _ hm
  have wt1 : (d1.weights Try.prog 38).all (· ≤ reachBytes) = true := List.all_eq_true.2 fun y hy => List.all_eq_true.1 hsz y (DataW.weights_mem_each (j := 1) rfl rfl y hy)
  obtain ⟨a1, rfl, w1⟩ := open_ans (hval 1 38 v1 rfl rfl) h1 wt1
  have k2 := h2
  have lt2 : ∀ x ∈ p2, x.block < W.heap.size := by obtain ⟨m, hm⟩ := k2; exact DataW.trod_lt m _ _ _ hm
  have wt2 : (d2.weights Try.prog 68).all (· ≤ reachBytes) = true := List.all_eq_true.2 fun y hy => List.all_eq_true.1 hsz y (DataW.weights_mem_each (j := 2) rfl rfl y hy)
  obtain ⟨a2, w2, s2⟩ := open_intsR (hval 2 68 v2 rfl rfl) h2 wt2
  have k3 := h3
  have lt3 : ∀ x ∈ p3, x.block < W.heap.size := by obtain ⟨m, hm⟩ := k3; exact DataW.trod_lt m _ _ _ hm
  have wt3 : (d3.weights Try.prog 28).all (· ≤ reachBytes) = true := List.all_eq_true.2 fun y hy => List.all_eq_true.1 hsz y (DataW.weights_mem_each (j := 3) rfl rfl y hy)
  obtain ⟨a3, w3, s3⟩ := open_bytes Try.underlying28 Try.underlying5 (by kernel_rfl) (by kernel_rfl) (hval 3 28 v3 rfl rfl) h3 wt3
  have k4 := h4
  have lt4 : ∀ x ∈ p4, x.block < W.heap.size := by obtain ⟨m, hm⟩ := k4; exact DataW.trod_lt m _ _ _ hm
  have wt4 : (d4.weights Try.prog 3).all (· ≤ reachBytes) = true := List.all_eq_true.2 fun y hy => List.all_eq_true.1 hsz y (DataW.weights_mem_each (j := 4) rfl rfl y hy)
  obtain ⟨a4, rfl, rfl, rfl, w4⟩ := open_int Try.underlying3 (hval 4 3 v4 rfl rfl) h4
  have k5 := h5
  have lt5 : ∀ x ∈ p5, x.block < W.heap.size := by obtain ⟨m, hm⟩ := k5; exact DataW.trod_lt m _ _ _ hm
  have wt5 : (d5.weights Try.prog 28).all (· ≤ reachBytes) = true := List.all_eq_true.2 fun y hy => List.all_eq_true.1 hsz y (DataW.weights_mem_each (j := 5) rfl rfl y hy)
  obtain ⟨a5, w5, s5⟩ := open_bytes Try.underlying28 Try.underlying5 (by kernel_rfl) (by kernel_rfl) (hval 5 28 v5 rfl rfl) h5 wt5
  clear hA0 hval0 hsz0 hsz
  refine (frameTurns_walk (w := W) a0 w0 a1 w1 v2 a2 w2 v3 a3 w3 a4 w4 v5 a5 w5).mono fun e W' ⟨he, bel⟩ => ?_
  subst he
  exact ⟨_, rfl, _, _, _, [], _, [], hW', trodAll_mk1 (shut_bool Try.underlying4 _), (trodAll_cons_mk (Below.trod laidOut (by kernel_rfl) (of_decide_eq_true (by kernel_rfl)) k0 bel lt0) (trodAll_cons_mk (Below.trod laidOut (by kernel_rfl) (of_decide_eq_true (by kernel_rfl)) k1 bel lt1) (trodAll_cons_mk (Below.trod laidOut (by kernel_rfl) (of_decide_eq_true (by kernel_rfl)) k2 bel lt2) (trodAll_cons_mk (Below.trod laidOut (by kernel_rfl) (of_decide_eq_true (by kernel_rfl)) k3 bel lt3) (trodAll_cons_mk (Below.trod laidOut (by kernel_rfl) (of_decide_eq_true (by kernel_rfl)) k4 bel lt4) (trodAll_cons_mk (Below.trod laidOut (by kernel_rfl) (of_decide_eq_true (by kernel_rfl)) k5 bel lt5) trodAll_mk0)))))), rfl, bel.frame _, fun h => by cases h⟩
theorem over : Rows.frameTurnsRow.holds Try.pinned (OpenSpec.ofChange Rows.frameTurnsSpec) :=
  OpenClaim.holds_of_wide 10 Try.f10 rfl rfl rfl rfl rfl rfl rfl ⟨rfl, rfl, rfl, rfl, rfl⟩ rfl rfl rfl rfl rfl (by kernel_rfl) Try.func10 (by kernel_rfl)
    (of_decide_eq_true (by kernel_rfl)) (by unfold Func.isWrapper; first | (rw [if_pos (by decide +kernel)]; kernel_rfl) | (rw [if_neg (by decide +kernel)]; exact ⟨rfl, rfl⟩))
    (fun os started H enc _ => lifted os started H enc)
end Go.Proofs.Ytehkgcmdndehaaa.frameTurns
namespace Go.Proofs.Ytehkgcmdndehaaa
/-- The row. -/
theorem frameTurns_holds : Rows.FrameTurnsSaid := frameTurns.over
#print axioms frameTurns_holds
end Go.Proofs.Ytehkgcmdndehaaa
