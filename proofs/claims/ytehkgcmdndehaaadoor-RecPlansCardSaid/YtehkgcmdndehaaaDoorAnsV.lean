/-
  An answer as a value.
-/
import Derived.Test.YtehkgcmdndehaaaDoorAnsD
namespace Go.Proofs.YtehkgcmdndehaaaDoor
open Go.RowKit
def AnsD.value (a : AnsD) : Value := .agg a.cells
end Go.Proofs.YtehkgcmdndehaaaDoor
