/- Walks of the functions of this seat: what each Go function comes to, as a Lean function, and the proof. More facts. Under no conditions. -/
import Derived.Test.YtpniidbbbhbglaaDoorC14W0
import Derived.Test.YtpniidbbbhbglaaDoorC14Rt26
set_option linter.unusedVariables false
set_option linter.unusedSimpArgs false
set_option maxRecDepth 100000
set_option maxHeartbeats 4000000
namespace Go.Proofs.YtpniidbbbhbglaaDoor.Rt
open Go Go.RowKit
theorem u_74 : Tryd.prog.underlying 74 = some (.slice 26) := by kernel_rfl
end Go.Proofs.YtpniidbbbhbglaaDoor.Rt
