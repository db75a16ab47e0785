import Derived.Test.YtehkgcmdndehaaaDoorRecWr
namespace Go.Proofs.YtehkgcmdndehaaaDoor
set_option linter.unusedSimpArgs false
set_option linter.unusedVariables false
open Go.RowKit

theorem zrec0 : Tryd.zeroCells79[0]? = some (.slice none 0 0) := by kernel_rfl

set_option maxHeartbeats 1600000 in
set_option maxRecDepth 100000 in
theorem rr_encodePlan (p : PlanD) (w : World) (hl : Fits (encPlan p).length) :
    Calls Tryd.prog 10 #[p.value] w (BytesPost w (encPlan p)) := by
  unfold PlanD.value
  go_enter Tryd.func10, Tryd.ntmps10
  go_wp2_with fail
  refine (rr_write_plan (w.heap.size + 1) (.slice none 0 0) [] p _ (RowAt.new _ _ _ _ (by simp) (by (repeat rw [Array.getElem?_setIfInBounds_ne (by decide)]); exact zrec0)) (by simp) (by simpa using hl) ?hn ?hs).mono ?_
  case hn => rw [World.cell?_alloc_at _ _ _ _ (by simp)]; simp [Array.getElem?_setIfInBounds, Tryd.zeroCells79_size]
  case hs =>
    intro k n hn
    rw [World.cell?_alloc_at _ _ _ _ (by simp)]
    match k, hn with
    | 0, hn | 1, hn | 2, hn | 3, hn | 4, hn | 5, hn | 6, hn | 7, hn | 8, hn => cases hn; simp [Array.getElem?_setIfInBounds, Tryd.zeroCells79_size]
    | k + 9, hn => simp [PlanD.nums] at hn
  rintro e w1 ⟨v, rfl, hrow, hput⟩
  have hc := hrow.cell
  have F := Lib.hid (And.intro hrow hput)
  clear hrow hput
  go_wp2
  go_ret
  refine ⟨v, rfl, ownsRow_base (base := w.heap.size + 1 + 1) F.out.1.own (by omega), F.out.2.below_new rfl (below_alloc2 _ _ _) (by omega) (by simp; omega)⟩
end Go.Proofs.YtehkgcmdndehaaaDoor
