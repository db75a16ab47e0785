import Derived.Test.YtehkgcmdndehaaaRefZ
namespace Go.Proofs.Ytehkgcmdndehaaa
set_option linter.unusedSimpArgs false
set_option linter.unusedVariables false
open Go.RowKit

set_option maxHeartbeats 800000 in
set_option maxRecDepth 100000 in
theorem ref_enc_ans (a : AnsD) (w : World) (hn : a.stmt.name.size ≤ 3000) :
    Calls Try.prog 20 #[a.value] w (BytesPost w (encAns a)) := by
  unfold AnsD.value
  go_enter Try.func20, Try.ntmps20
  go_upto_region 1 with (fail)
  go_step
  refine wpList_load_row rfl 38 (.tmp 1) rfl w.heap.size rfl 38 a.cells (0, 0) _ (heap_alloc_new _ _) Try.underlying38 rfl (by kernel_rfl) ?_
  have hB := below_alloc w (.cells a.cells 38)
  have hs : (w.alloc (.cells a.cells 38)).heap.size = w.heap.size + 1 := by simp
  generalize w.alloc (.cells a.cells 38) = W at *
  have HS := Lib.hid hs
  have hbw : w.heap.size ≤ W.heap.size := by omega
  clear hs
  go_wp2_with (go_at_call 50; refine (ref_wans w.heap.size (.slice none 0 0) [] a W (OwnB.nil _ _) hbw (by simp) hn).mono ?_; rintro e w1 ⟨v1, rfl, ho, hg⟩; have F : Hid (BytesPost w (encAns a) (.returned v1) w1) := Lib.hid ⟨v1, rfl, by simpa [OwnB] using ho, hg.below_new rfl hB hbw⟩; clear ho hg)
  go_ret
  exact F.out
end Go.Proofs.Ytehkgcmdndehaaa
