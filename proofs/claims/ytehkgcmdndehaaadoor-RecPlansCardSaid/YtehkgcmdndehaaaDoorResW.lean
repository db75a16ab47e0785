/-
  Results kept in a cell beside a temporary; a row that was stored whole. No function in sight.
-/
import Derived.WalkKit
import Derived.Deep.MidRow
import Derived.Laws.CopyOwn
namespace Go.Proofs.YtehkgcmdndehaaaDoor
set_option linter.unusedSimpArgs false
set_option linter.unusedVariables false
open Go.RowKit

theorem res_cell_tmp {P : Program} {fn : Func} {p u : Tmp} {ty : TypeId} (h : fn.results = #[.cell p ty, .tmp u]) (tmps : Array Value) (w : World) (b : Nat) (hp : tmps.getD p undef = .pointer (some ⟨b, 0, none⟩))
    (cs : List Value) (d : TypeDesc) (hc : w.rangeAt b 0 cs) (hu : P.underlying ty = some d) (hd : d.isRow = true) (hi : (P.info? ty).map (·.size) = some cs.length) :
    (results fn tmps).run P w = .ok (.tuple #[.agg cs.toArray, tmps.getD u undef]) w := by
  rw [results_cell_tmp h, hp]
  have := run_loadVar_mid w b 0 ty cs d hc hu hd hi
  simp [asAddr, this]
theorem rng_setRow {w : World} {sb : Nat} {cs old : Array Value} {T : TypeId} (hg : w.heap[sb]? = some (.cells old T (0, 0))) : (w.setRow sb cs).rangeAt sb 0 cs.toList := by
  intro j v hv
  rw [Nat.zero_add, cell_setRow_same _ _ _ _ _ _ _ hg]
  simpa using hv
/-- A value that was stored into a block just made. -/
theorem made_row (w : World) (cs cs0 : Array Value) (T : TypeId) : Below w.heap.size w ((w.alloc (.cells cs0 T)).setRow w.heap.size cs) ∧ ((w.alloc (.cells cs0 T)).setRow w.heap.size cs).heap[w.heap.size]? = some (.cells cs T (0, 0)) ∧ ((w.alloc (.cells cs0 T)).setRow w.heap.size cs).heap.size = w.heap.size + 1 :=
  ⟨below_setRow ((Below.refl _ _).alloc (Nat.le_refl _) _) (Nat.le_refl _) _, setRow_heap _ _ _ _ _ _ (heap_alloc_new _ _), by simp⟩
end Go.Proofs.YtehkgcmdndehaaaDoor
