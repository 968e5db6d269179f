/- Walks of the functions of this seat: what each Go function comes to, as a Lean function, and the proof. Part WR1. Under no conditions. -/
import Derived.Test.YtmbgmefmkjeahaaDoorC15WBZ
set_option linter.unusedVariables false
set_option linter.unusedSimpArgs false
set_option maxRecDepth 100000
set_option maxHeartbeats 4000000
namespace Go.Proofs.YtmbgmefmkjeahaaDoor.Rt
open Go Go.RowKit
end Go.Proofs.YtmbgmefmkjeahaaDoor.Rt
