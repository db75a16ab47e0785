/-
  The law PagerPlays: the code of its switch.
-/
import Derived.Test.YtjbomdhlfjcgmaaPgPd
import Derived.Deep.DeepCutAuto
import Derived.Deep.CutRange
import Derived.Deep.CutBlock
namespace Go.Proofs.Ytjbomdhlfjcgmaa
set_option linter.unusedSimpArgs false
set_option linter.unusedVariables false
open Go.RowKit

/-- The inside of block n. -/
def findBlock (n : Nat) : Code → Option Code
  | .block m c => if m = n then some c else findBlock n c
  | .seq a b => match findBlock n a with
    | some c => some c
    | none => findBlock n b
  | .loop c => findBlock n c
  | .scope c => findBlock n c
  | .cond _ a b => match findBlock n a with
    | some c => some c
    | none => findBlock n b
  | _ => none
noncomputable def playsSw : Code := ((Try.f7.body.bind (findBlock 2)).getD .skip)
end Go.Proofs.Ytjbomdhlfjcgmaa
