import Derived.Test.YtehkgcmdndehaaaReqP
import Derived.Test.YtehkgcmdndehaaaBytes
import Derived.Test.YtehkgcmdndehaaaOpenReq
import Derived.Deep.QuietTactic
import Derived.BigQuiet
namespace Go.Proofs.Ytehkgcmdndehaaa
set_option linter.unusedSimpArgs false
set_option linter.unusedVariables false
open Go.RowKit

/-- A plan, a request of nothing. -/
def planZ : PlanD := ⟨⟨#[]⟩, 0, 0, 0, 0, 0, 0, 0, 0, 0⟩
def reqZ : ReqD := ⟨0, ⟨#[]⟩, 0, 0, 0, 0, ⟨#[]⟩, ⟨#[]⟩, planZ⟩
def reqK : ReqD := { reqZ with kind := 5, key := ⟨#[107]⟩ }

def TrueBelow (w : World) (e : Ending) (w' : World) : Prop := e = .returned (.bool true) ∧ Below w.heap.size w w'

set_option maxHeartbeats 800000 in
set_option maxRecDepth 100000 in
theorem l18_known (w : World) : Calls Try.prog 11 #[] w (TrueBelow w) := by
  go_enter Try.func11, Try.ntmps11
  go_upto_region 1 with (fail)
  go_step
  refine wpList_build_at _ rfl 25 _ rfl reqK.cells (by kernel_rfl) ?_
  go_wp2_with fail
  refine (fr_enc_ok reqK w (by decide) (by decide) (by decide)).mono ?_
  rintro e w1 ⟨v, rfl, hown, hB⟩
  have HR : Reads w1 v reqK.bytes := Reads.of_own hown
  clear hown
  have e1 : reqK.bytes = [5, 1, 107] := by decide
  rw [e1] at HR
  have X := Lib.hid HR
  clear HR e1
  go_wp2_with (refine wpList_string_of 28 9 5 (.tmp 11) rfl Try.underlying28 Try.underlying5 Try.underlying9 v [5, 1, 107] rfl X.out rfl ?_)
  go_ret
  exact ⟨ret_bool (by rw [ByteArray.toList_eq]; decide), hB⟩

/-- A request that is not too much. -/
def ReqD.few (q : ReqD) : Bool := decide (q.key.size + q.name.size + q.secret.size + q.plan.name.size < 2000)

set_option maxHeartbeats 800000 in
set_option maxRecDepth 100000 in
theorem l18_few (q : ReqD) (hq : ReqOk q) (w : World) : Calls Try.prog 12 #[.agg q.cells] w fun e w' => e = .returned (.bool q.few) ∧ Below w.heap.size w w' := by
  obtain ⟨_, h1, _, _, _, _, h2, h3, h4, _⟩ := hq
  have c1 : q.cells[1]? = some (.string q.key) := rfl
  have c6 : q.cells[6]? = some (.string q.name) := rfl
  have c7 : q.cells[7]? = some (.string q.secret) := rfl
  have c8 : q.cells[8]? = some (.string q.plan.name) := rfl
  go_enter Try.func12, Try.ntmps12
  go_wp2
  go_ret
  refine ⟨ret_bool ?_, below_alloc _ _⟩
  simp only [ReqD.few, decide_eq_decide]
  omega
end Go.Proofs.Ytehkgcmdndehaaa
