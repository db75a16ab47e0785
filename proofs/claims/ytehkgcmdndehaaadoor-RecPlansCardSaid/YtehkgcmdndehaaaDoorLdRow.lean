/-
  A struct that is loaded in a region that draws its order: rules at the operation as a whole. No program in sight.
-/
import Derived.WalkKit
import Derived.Deep.MidRow
namespace Go.Proofs.YtehkgcmdndehaaaDoor
set_option linter.unusedSimpArgs false
set_option linter.unusedVariables false
open Go.RowKit

/-- The cells of a range, whatever they hold. -/
def rowOf (w : World) (b o n : Nat) : Array Value := ((List.range n).map fun j => (w.cell? ⟨b, o + j, none⟩).getD undef).toArray
/-- Is there a cell at each place of a range? -/
def isRow (w : World) (b o n : Nat) : Bool := (List.range n).all fun j => (w.cell? ⟨b, o + j, none⟩).isSome

theorem rowOf_range {w : World} {b o : Nat} {cs : Array Value} (h : w.rangeAt b o cs.toList) : rowOf w b o cs.size = cs := by
  apply Array.ext
  · simp [rowOf]
  · intro i h1 h2
    have hi : i < cs.size := h2
    have := h i cs[i] (by simp [hi])
    simp [rowOf, this]
theorem isRow_range {w : World} {b o : Nat} {cs : Array Value} (h : w.rangeAt b o cs.toList) : isRow w b o cs.size = true := by
  unfold isRow
  rw [List.all_eq_true]
  intro j hj
  have hi : j < cs.size := by simpa using hj
  rw [h j cs[j] (by simp [hi])]
  rfl
theorem range_rowOf {w : World} {b o n : Nat} (h : isRow w b o n = true) : w.rangeAt b o (rowOf w b o n).toList := by
  intro j v hj
  unfold isRow at h
  rw [List.all_eq_true] at h
  have hj' : j < n := by
    have := (List.getElem?_eq_some_iff.1 hj).1
    simpa [rowOf] using this
  obtain ⟨u, hu⟩ := Option.isSome_iff_exists.1 (h j (by simpa using hj'))
  simp [rowOf, hj', hu] at hj
  rw [hu, hj]
theorem run_load_rowOf {P : Program} (w : World) (ty : TypeId) (b o n : Nat) (d : TypeDesc) (hu : P.underlying ty = some d) (hd : d.isRow = true) (hi : (P.info? ty).map (·.size) = some n) (h : isRow w b o n = true) :
    (Instr.loadAt ty (.pointer (some ⟨b, o, none⟩))).run P w = .ok (.agg (rowOf w b o n)) w := by
  have := run_loadAt_mid (P := P) w b o ty (rowOf w b o n).toList d (range_rowOf h) hu hd (by rw [hi]; simp [rowOf])
  simpa using this
/-- Is the value a pointer at a block's begin, with n cells behind it? -/
def okPtr (n : Nat) (v : Value) (w : World) : Bool := match v with | .pointer (some ⟨b, 0, none⟩) => isRow w b 0 n | _ => false
def ptrRow (n : Nat) (v : Value) (w : World) : Array Value := match v with | .pointer (some ⟨b, 0, none⟩) => rowOf w b 0 n | _ => #[]
@[go_sem] theorem okPtr_ptr (n b : Nat) (w : World) : okPtr n (.pointer (some ⟨b, 0, none⟩)) w = isRow w b 0 n := rfl
@[go_sem] theorem ptrRow_ptr (n b : Nat) (w : World) : ptrRow n (.pointer (some ⟨b, 0, none⟩)) w = rowOf w b 0 n := rfl
theorem run_load_ptr {P : Program} (w : World) (ty : TypeId) (v : Value) (n : Nat) (d : TypeDesc) (hu : P.underlying ty = some d) (hd : d.isRow = true) (hi : (P.info? ty).map (·.size) = some n) (h : okPtr n v w = true) :
    (Instr.loadAt ty v).run P w = .ok (.agg (ptrRow n v w)) w := by
  unfold okPtr at h
  split at h
  · exact run_load_rowOf w ty _ 0 n d hu hd hi h
  · cases h
theorem run_ex_load {P : Program} (ρ : Operand → Value) (dst : Option Tmp) (x : Operand) (t : TypeId) (pos : String) (after : Array Edge) (guard : Option (Nat × Bool)) (w : World) (ty : TypeId) (n : Nat) (d : TypeDesc) (hu : P.underlying ty = some d) (hd : d.isRow = true) (hi : (P.info? ty).map (·.size) = some n) (h : okPtr n (ρ x) w = true) :
    (execOp ρ { dst, op := .load ty x, type := t, pos, after, guard }).run P w = .ok (.value (.agg (ptrRow n (ρ x) w))) w := by
  unfold execOp
  simp only [Sem.run_bind, run_load_ptr w ty (ρ x) n d hu hd hi h, Result.andThen_ok, Sem.run_pure]
end Go.Proofs.YtehkgcmdndehaaaDoor
