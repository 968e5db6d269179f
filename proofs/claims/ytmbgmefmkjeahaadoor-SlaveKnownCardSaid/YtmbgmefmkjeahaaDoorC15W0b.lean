/- Walks of the functions of this seat: what each Go function comes to, as a Lean function, and the proof. More facts. Under no conditions. -/
import Derived.Test.YtmbgmefmkjeahaaDoorC15W0
import Derived.Test.YtmbgmefmkjeahaaDoorC15Rt24
set_option linter.unusedVariables false
set_option linter.unusedSimpArgs false
set_option maxRecDepth 100000
set_option maxHeartbeats 4000000
namespace Go.Proofs.YtmbgmefmkjeahaaDoor.Rt
open Go Go.RowKit
theorem u_82 : Tryd.prog.underlying 82 = some (.slice 25) := by kernel_rfl
theorem u_83 : Tryd.prog.underlying 83 = some (.slice 38) := by kernel_rfl
theorem u_84 : Tryd.prog.underlying 84 = some (.slice 49) := by kernel_rfl
end Go.Proofs.YtmbgmefmkjeahaaDoor.Rt
