/-
  The law PagerCrashes: the code of its switch; []int opened.
-/
import Derived.Test.YtjbomdhlfjcgmaaCrA
import Derived.Test.YtjbomdhlfjcgmaaOpenB
import Derived.Test.YtjbomdhlfjcgmaaRegW
import Derived.Deep.DeepCutAuto
import Derived.Deep.CutRange
import Derived.Deep.CutBlock
namespace Go.Proofs.Ytjbomdhlfjcgmaa
set_option linter.unusedSimpArgs false
set_option linter.unusedVariables false
open Go.RowKit
/-- The value reads as ints. -/
def RdInts (w : World) (v : Value) (ns : List Int) : Prop :=
  ∃ a c, v = .slice a ns.length c ∧ ∀ (i : Nat) (n : Int), ns[i]? = some n → (Lit.int .i64 n).wf = true ∧ ∃ b off, a = some ⟨b, off, none⟩ ∧ b < w.heap.size ∧ w.cell? ⟨b, off + i, none⟩ = some (.int .i64 n)
set_option maxRecDepth 100000 in
theorem open_intsR {H : Type} {enc : TypeId × Value → H} {w : World} {base : Nat} {spare : Nat → Bool} {held : Bool} {r : Reach} {b0 : Nat} {v : Value} {d : DataW H} {p : List MemPlace}
    (hv : Value.okWide Try.prog w r b0 43 v) (h : DataW.Trod enc Try.prog w base spare held 43 v d p) (hw : (d.weights Try.prog 43).all (· ≤ reachBytes) = true) :
    ∃ ns : List Int, RdInts w v ns ∧ ns.length ≤ 140737488351232 := by
  have hby : Try.prog.bytesOf 3 = 8 := by kernel_rfl
  obtain ⟨a0, len0, cap0, rfl⟩ := Go.WideShapes.okWide_slice Try.underlying43 hv
  obtain ⟨fuel, hf⟩ := h
  rcases Go.ChangeShapes.open_ints Try.underlying43 Try.underlying3 (by kernel_rfl) hf with ⟨hcs, _⟩ | ⟨a, len, cap, zs, hcs, hb, hl, hm, hz, hx, hcell, hwf⟩
  · simp [Value.cells] at hcs
    obtain ⟨rfl, rfl, rfl⟩ := hcs
    exact ⟨[], ⟨none, 0, rfl, fun i n h => by simp at h⟩, by simp⟩
  · simp only [Value.cells, List.cons.injEq, and_true] at hcs
    cases hcs
    have hlz : len0 ≤ zs.length := by rw [hz]; split <;> omega
    have hd : d = .slice (Go.ChangeShapes.lits .i64 (zs.take len0)) (Go.ChangeShapes.lits .i64 (zs.drop len0)) := congrArg Prod.fst hx
    have hlen : len0 ≤ 140737488351232 := by
      subst hd
      simp only [DataW.weights, Try.underlying43, List.all_cons, Bool.and_eq_true, decide_eq_true_eq, hby] at hw
      have := hw.1
      simp [Go.ChangeShapes.lits, reachBytes] at this
      omega
    refine ⟨zs.take len0, ⟨some a, cap0, by rw [List.length_take, Nat.min_eq_left hlz], fun i n hi => ?_⟩, by rw [List.length_take]; omega⟩
    rw [List.getElem?_take] at hi
    split at hi
    · obtain ⟨hi1, hi2⟩ := List.getElem?_eq_some_iff.1 hi
      have hc := hcell i hi1
      have hg : zs.getD i 0 = n := by simp [List.getD, hi]
      rw [hg] at hc
      have hspot : a.spot = none := by
        have hc0 := hcell 0 (by omega)
        rw [show a.add 0 = a from rfl] at hc0
        exact World.cell?_spot hc0
      have hblt : a.block < w.heap.size := by
        have hc0 := hcell 0 (by omega)
        rw [show a.add 0 = a from rfl] at hc0
        exact World.block_lt_of_cell? w a hc0
      obtain ⟨b, off, spot⟩ := a
      simp only at hspot
      subst hspot
      rw [Addr.add_lit] at hc
      exact ⟨hwf n (by rw [← hi2]; exact List.getElem_mem _), b, off, rfl, hblt, hc⟩
    · cases hi

/-- The inside of block n. -/
def findBlockC (n : Nat) : Code → Option Code
  | .block m c => if m = n then some c else findBlockC n c
  | .seq a b => match findBlockC n a with
    | some c => some c
    | none => findBlockC n b
  | .loop c => findBlockC n c
  | .scope c => findBlockC n c
  | .cond _ a b => match findBlockC n a with
    | some c => some c
    | none => findBlockC n b
  | _ => none
noncomputable def crashSw : Code := ((Try.f6.body.bind (findBlockC 2)).getD .skip)
/-- append([]Page{}, l...), within a region that draws. -/
theorem step_copy_pages (w : World) {ops : Array Oper} {o : Oper} {a : Act} {K : Act → World → Prop} {Q : Exit → Act → World → Prop} {E : Prop} (hgd : o.guard = none) (s x : Operand)
    (ho : o.op = .call { callee := .builtin .append, args := #[s, x], argTypes := #[47, 47] }) (hty : o.type = 47)
    (hs : a.eval s = .slice (some ⟨w.heap.size, 0, none⟩) 0 0) (b2 : Nat) (vs : Value) (zs : List PageD) (hx : a.eval x = vs) (hr : PRow w b2 vs zs) (hl : zs.length ≤ 100000)
    (h : ∀ a' c' w', PRow w' w.heap.size (.slice a' zs.length c') zs → Below w.heap.size w w' → K (a.put o.dst (.slice a' zs.length c')) w') :
    if Region.wanted o (yielded ops a.tmps) = true then Oper.wp Try.prog o a (w.alloc (.cells #[] 51)) K Q else E := by
  rw [if_pos (by simp [Region.wanted, hgd])]
  obtain ⟨v', w', hrun, h2, h3⟩ := run_append_pages (w.alloc (.cells #[] 51)) w.heap.size (.slice (some ⟨w.heap.size, 0, none⟩) 0 0) [] (World.ownsRow_made w #[] 0 (Nat.le_refl _) (Nat.zero_le _) rfl) b2 vs zs (hr.below (below_any w _)) (by simpa using hl) (by simp) o.type hty
  rw [List.nil_append] at h2
  obtain ⟨a', c', rfl⟩ := h2.len
  unfold Oper.wp execOp
  simp only [ho, resolve, invoke, builtin, Sem.run_bind, Sem.run_pure, Result.andThen_ok, List.map_toArray, List.map_cons, List.map_nil, hs, hx, hrun]
  exact h a' c' w' h2 ((below_any w _).trans (h3.keeps.below (by simp) (fun j hj e => by
    have e : w.heap.size = j := by simpa [Value.ownBlock] using e
    omega)))
end Go.Proofs.Ytjbomdhlfjcgmaa
