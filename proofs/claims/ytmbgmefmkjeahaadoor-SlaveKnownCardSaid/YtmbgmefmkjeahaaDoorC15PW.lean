/- Plain laws of the slave seat: a tale that is made up, and its line. Under the conditions that each names. -/
import Derived.Test.YtmbgmefmkjeahaaDoorC15PV
import Derived.Test.YtmbgmefmkjeahaaDoorC15WNZ
set_option linter.unusedVariables false
set_option linter.unusedSimpArgs false
set_option maxRecDepth 100000
set_option maxHeartbeats 4000000
namespace Go.Proofs.YtmbgmefmkjeahaaDoor.Rt
open Go Go.RowKit
section
variable {l : SlaveLine} {bits : List Int}
end
end Go.Proofs.YtmbgmefmkjeahaaDoor.Rt
