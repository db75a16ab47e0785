import Derived.Test.YtehkgcmdndehaaaDoorLawRP
import Derived.Test.YtehkgcmdndehaaaDoorFitPS
namespace Go.Proofs.YtehkgcmdndehaaaDoor
open Go.ChangeShapes Go.WideShapes Go.RowKit
set_option linter.unusedSimpArgs false
set_option linter.unusedVariables false

theorem recPlans_walk {w : World} (ht : w.cell? ⟨3, 15, none⟩ = some (.int .u8 4)) (p : PlanD) (hp : PlanOk p) (q : PlanD) (hq : PlanOk q) (s : StmtD) (hs : StmtOk s) :
    Calls Tryd.prog 4 #[.agg p.cells, .agg q.cells, .agg s.cells] w (NumPost w) := by
  by_cases h1 : 255 < p.name.size
  · exact rp_p p q s h1 w ht
  · by_cases h2 : 255 < q.name.size
    · exact rp_q p q s (by omega) h2 w ht
    · by_cases h3 : 255 < s.name.size
      · exact rp_s p q s (by omega) (by omega) h3 w ht
      · exact rp_main p q s (planFit_of hp (by omega)) (by omega) (stmtFit_of hs (by omega)) w ht
end Go.Proofs.YtehkgcmdndehaaaDoor
