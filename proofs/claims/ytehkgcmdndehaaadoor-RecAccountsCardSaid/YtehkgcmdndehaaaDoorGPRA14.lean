/-
  The load of a row out of the middle of a block, as a rule of the walk's simp; the cells a row has in all worlds beyond. No function in sight.
-/
import Derived.Test.YtehkgcmdndehaaaDoorGPRA08
import Derived.Test.YtehkgcmdndehaaaDoorGPRA03
import Derived.Test.YtehkgcmdndehaaaDoorGPRA12
import Derived.OpenShut
import Derived.Test.YtehkgcmdndehaaaDoorGPRA13
namespace Go.Proofs.YtehkgcmdndehaaaDoor
set_option linter.unusedSimpArgs false
set_option linter.unusedVariables false
open Go.RowKit

set_option maxHeartbeats 1600000 in
set_option maxRecDepth 100000 in
theorem rr_write_plan (rb : Nat) (v : Value) (xs : List UInt8) (p : PlanD) (w : World) (hr : RowAt w rb v xs) (hb : rb < w.heap.size) (hl : Fits (xs.length + (encPlan p).length))
    (hname : w.cell? ⟨rb, 2, none⟩ = some (.string p.name)) (hnums : ∀ k n, p.nums[k]? = some n → w.cell? ⟨rb, 3 + k, none⟩ = some (.int .i64 n)) :
    Calls Tryd.prog 30 #[.pointer (some ⟨rb, 0, none⟩), .int .i64 0] w (PutPost w rb v (xs ++ encPlan p)) := by
  have HR := Lib.hid hr
  have HN := Lib.hid hnums
  have hl1 : Fits (xs.length + (encText p.name).length) := hl.le (by rw [encPlan, List.length_append]; omega)
  clear hr hnums
  go_enter Tryd.func30, Tryd.ntmps30
  go_wp2
  go_region_with (go_at_call 54; refine (rrow_text rb v xs p.name _ HR.out.drew (by simpa using hb) hl1).mono ?_; rintro e w1 ⟨v1, rfl, hrow1, hput1⟩)
  replace hput1 := Puts.from_below hb (Below.refl _ _).drew hput1
  go_wp2_with fail
  refine (rr_numbers rb 0 _).mono ?_
  rintro e w2 ⟨ao, rfl, hB2, hP⟩
  obtain ⟨offs, ho⟩ : ∃ o, o = recOffs 0 := ⟨_, rfl⟩
  rw [← ho] at hP ⊢
  have h9 : offs.length = p.nums.length := by rw [ho]; rfl
  have hoff : ∀ k, offs[k]? = if k < 9 then some (3 + k) else none := fun k => by
    rw [ho]; match k with
    | 0 | 1 | 2 | 3 | 4 | 5 | 6 | 7 | 8 => rfl
    | k + 9 => rw [if_neg (by omega)]; simp [recOffs]
  have O := Lib.hid (And.intro h9 (And.intro hoff hP))
  clear h9 hoff hP ho
  have hB12 := hput1
  have R2 := Lib.hid (hrow1.of_below (by have := hput1.size; omega) hB2)
  have hs1 := hput1.size
  have hs2 := hB2.size
  have hlt1 := Lib.hid (fun k h => hrow1.own.lt k h)
  clear hB12
  go_wp2
  go_loopg [7, 157] offs.length (fun g s7 s157 wr => ∃ (k : Nat) (vr : Value), k + g = offs.length ∧ s157 = .int .i64 k ∧ RowAt wr rb vr (xs ++ encText p.name ++ encInts (p.nums.take k)) ∧ Puts w2 wr rb v1 vr)
  case atStart => exact ⟨0, v1, by omega, rfl, by simpa [encInts] using R2.out, Puts.refl _ _ _⟩
  case round =>
    obtain ⟨k, vr, hkg, rfl, hrow, hput⟩ := hrel
    have hsz := hput.size
    cases gk with
    | zero =>
      have hk : ¬ ((k : Int) < (offs.length : Int)) := by omega
      have F := Lib.hid (And.intro hrow hput)
      clear hrow hput
      go_wp2
      go_end0
      refine ⟨vr, rfl, ?_, ?_⟩
      · have := F.out.1
        rw [List.take_of_length_le (by have := O.out.1; omega)] at this
        rw [encPlan, ← List.append_assoc]
        exact this
      · exact (hput1.trans (Puts.of_below hB2 (by omega))).trans F.out.2
    | succ g =>
      have hk : (k : Int) < (offs.length : Int) := by omega
      have hk9 : k < 9 := by have := O.out.1; simp [PlanD.nums] at this; omega
      obtain ⟨n, hn⟩ : ∃ n, p.nums[k]? = some n := ⟨_, List.getElem?_eq_getElem (by have := O.out.1; omega)⟩
      obtain ⟨nb, rfl, hnb1, hnb2, hcp⟩ := O.out.2.2 k (3 + k) (by rw [O.out.2.1, if_pos hk9])
      have hcp' := (hput.cell (a := ⟨nb, k, none⟩) hnb2 (by show nb ≠ rb; omega) (fun e => by have := hlt1.out nb e; omega)).trans hcp
      have hcn : wr.cell? ⟨rb, 3 + k, none⟩ = some (.int .i64 n) :=
        ((hput.row (3 + k) (by omega)).trans (hB2.cell (p := ⟨rb, 3 + k, none⟩) (by show rb < _; omega))).trans ((hput1.row (3 + k) (by omega)).trans (HN.out k n hn))
      have hrb : rb < wr.heap.size := by omega
      have HT := Lib.hid (encInts_take p.nums k n hn)
      have hfit : Fits ((xs ++ encText p.name ++ encInts (p.nums.take k)).length + 8 * [n].length) := hl.le (by
        have := encInts_take_length p.nums k
        simp only [List.length_append, encPlan, encInts_length, List.length_singleton] at this ⊢
        have := O.out.1
        simp only [List.length_take]
        omega)
      have HR2 := Lib.hid (And.intro hrow hput)
      clear hrow hput hn hcp
      go_wp2
      go_region_with (go_at_call 56; go_must (refine (rrow_ints rb wr.heap.size 1 _ _ vr _ [n] wr _ HR2.out.1 hrb hfit (by simp) rfl (below_alloc _ _).drew (Nat.le_refl _) (heap_alloc_new _ _) rfl).mono ?_); rintro e w3 ⟨v3, rfl, hrow3, hput3⟩)
      all_goals have X := Lib.hid (And.intro hrow3 hput3)
      all_goals clear hrow3 hput3
      all_goals go_wp2
      all_goals go_roundg g
      all_goals first
        | (case measure => omega)
        | skip
      all_goals
        refine ⟨k + 1, _, by omega, by first | rfl | go_num, ?_, HR2.out.2.trans X.out.2⟩
        rw [HT.out, ← List.append_assoc]
        have := X.out.1
        simpa [encInts] using this
end Go.Proofs.YtehkgcmdndehaaaDoor

namespace Go.Proofs.YtehkgcmdndehaaaDoor
set_option linter.unusedSimpArgs false
set_option linter.unusedVariables false
open Go.RowKit

theorem zrec0 : Tryd.zeroCells79[0]? = some (.slice none 0 0) := by kernel_rfl

set_option maxHeartbeats 1600000 in
set_option maxRecDepth 100000 in
theorem rr_encodePlan (p : PlanD) (w : World) (hl : Fits (encPlan p).length) :
    Calls Tryd.prog 10 #[p.value] w (BytesPost w (encPlan p)) := by
  unfold PlanD.value
  go_enter Tryd.func10, Tryd.ntmps10
  go_wp2_with fail
  refine (rr_write_plan (w.heap.size + 1) (.slice none 0 0) [] p _ (RowAt.new _ _ _ _ (by simp) (by (repeat rw [Array.getElem?_setIfInBounds_ne (by decide)]); exact zrec0)) (by simp) (by simpa using hl) ?hn ?hs).mono ?_
  case hn => rw [World.cell?_alloc_at _ _ _ _ (by simp)]; simp [Array.getElem?_setIfInBounds, Tryd.zeroCells79_size]
  case hs =>
    intro k n hn
    rw [World.cell?_alloc_at _ _ _ _ (by simp)]
    match k, hn with
    | 0, hn | 1, hn | 2, hn | 3, hn | 4, hn | 5, hn | 6, hn | 7, hn | 8, hn => cases hn; simp [Array.getElem?_setIfInBounds, Tryd.zeroCells79_size]
    | k + 9, hn => simp [PlanD.nums] at hn
  rintro e w1 ⟨v, rfl, hrow, hput⟩
  have hc := hrow.cell
  have F := Lib.hid (And.intro hrow hput)
  clear hrow hput
  go_wp2
  go_ret
  refine ⟨v, rfl, ownsRow_base (base := w.heap.size + 1 + 1) F.out.1.own (by omega), F.out.2.below_new rfl (below_alloc2 _ _ _) (by omega) (by simp; omega)⟩
end Go.Proofs.YtehkgcmdndehaaaDoor

namespace Go.Proofs.YtehkgcmdndehaaaDoor
set_option linter.unusedSimpArgs false
set_option linter.unusedVariables false
open Go.RowKit
/-- Is the value a pointer at n cells of a block? -/
def okAt (n : Nat) (v : Value) (w : World) : Bool := match v with | .pointer (some ⟨b, o, none⟩) => isRow w b o n | _ => false
def ptrAt (n : Nat) (v : Value) (w : World) : Array Value := match v with | .pointer (some ⟨b, o, none⟩) => rowOf w b o n | _ => #[]
@[go_sem] theorem okAt_ptr (n b o : Nat) (w : World) : okAt n (.pointer (some ⟨b, o, none⟩)) w = isRow w b o n := rfl
@[go_sem] theorem ptrAt_ptr (n b o : Nat) (w : World) : ptrAt n (.pointer (some ⟨b, o, none⟩)) w = rowOf w b o n := rfl
@[go_sem] theorem isRow_drew (w : World) (b o n : Nat) : isRow w.drew b o n = isRow w b o n := rfl
@[go_sem] theorem rowOf_drew (w : World) (b o n : Nat) : rowOf w.drew b o n = rowOf w b o n := rfl
theorem run_load_at {P : Program} (w : World) (ty : TypeId) (v : Value) (n : Nat) (d : TypeDesc) (hu : P.underlying ty = some d) (hd : d.isRow = true) (hi : (P.info? ty).map (·.size) = some n) (h : okAt n v w = true) :
    (Instr.loadAt ty v).run P w = .ok (.agg (ptrAt n v w)) w := by
  unfold okAt at h
  split at h
  · exact run_load_rowOf w ty _ _ n d hu hd hi h
  · cases h
theorem run_ex_loadAt {P : Program} (ρ : Operand → Value) (dst : Option Tmp) (x : Operand) (t : TypeId) (pos : String) (after : Array Edge) (guard : Option (Nat × Bool)) (w : World) (ty : TypeId) (n : Nat) (d : TypeDesc) (hu : P.underlying ty = some d) (hd : d.isRow = true) (hi : (P.info? ty).map (·.size) = some n) (h : okAt n (ρ x) w = true) :
    (execOp ρ { dst, op := .load ty x, type := t, pos, after, guard }).run P w = .ok (.value (.agg (ptrAt n (ρ x) w))) w := by
  unfold execOp
  simp only [Sem.run_bind, run_load_at w ty (ρ x) n d hu hd hi h, Result.andThen_ok, Sem.run_pure]
theorem row_mid {w : World} {b o n : Nat} {cs : Array Value} (h : w.rangeAt b o cs.toList) (hn : cs.size = n) : isRow w b o n = true ∧ rowOf w b o n = cs := by
  subst hn
  exact ⟨isRow_range h, rowOf_range h⟩
end Go.Proofs.YtehkgcmdndehaaaDoor

namespace Go.Proofs.YtehkgcmdndehaaaDoor
open Go.ChangeShapes Go.WideShapes Go.RowKit
set_option linter.unusedSimpArgs false
set_option linter.unusedVariables false

theorem i64_of {n : Int} (h : (Lit.int .i64 n).wf = true) : I64 n := by have := bounds_i64 h; exact ⟨this.1, by omega⟩
theorem planFit_of {p : PlanD} (h : PlanOk p) (hn : p.name.size ≤ 255) : PlanFit p := by
  obtain ⟨h0, h1, h2, h3, h4, h5, h6, h7, h8, h9⟩ := h
  refine ⟨hn, fun n hm => ?_⟩
  simp only [PlanD.nums, List.mem_cons, List.not_mem_nil, or_false] at hm
  rcases hm with rfl | rfl | rfl | rfl | rfl | rfl | rfl | rfl | rfl <;> (apply i64_of; assumption)
theorem stmtFit_of {p : StmtD} (h : StmtOk p) (hn : p.name.size ≤ 255) : StmtFit p := by
  obtain ⟨h0, h1, h2, h3, h4, h5, h6, h7, h8⟩ := h
  refine ⟨hn, fun n hm => ?_⟩
  simp only [StmtD.nums, List.mem_cons, List.not_mem_nil, or_false] at hm
  rcases hm with rfl | rfl | rfl | rfl | rfl | rfl | rfl | rfl <;> (apply i64_of; assumption)
end Go.Proofs.YtehkgcmdndehaaaDoor

