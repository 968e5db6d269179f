/- Plain laws of the slave seat: pulses of signs in turn. Under the conditions that each names. -/
import Derived.Test.YtmbgmefmkjeahaaDoorC15PU
set_option linter.unusedVariables false
set_option linter.unusedSimpArgs false
set_option maxRecDepth 100000
set_option maxHeartbeats 4000000
namespace Go.Proofs.YtmbgmefmkjeahaaDoor.Rt
open Go Go.RowKit
end Go.Proofs.YtmbgmefmkjeahaaDoor.Rt
