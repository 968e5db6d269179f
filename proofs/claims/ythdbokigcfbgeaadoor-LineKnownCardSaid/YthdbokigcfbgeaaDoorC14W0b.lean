/- Walks of the functions of this seat: what each Go function comes to, as a Lean function, and the proof. More facts. Under no conditions. -/
import Derived.Test.YthdbokigcfbgeaaDoorC14W0
import Derived.Test.YthdbokigcfbgeaaDoorC14Rt24
set_option linter.unusedVariables false
set_option linter.unusedSimpArgs false
set_option maxRecDepth 100000
set_option maxHeartbeats 4000000
namespace Go.Proofs.YthdbokigcfbgeaaDoor.Rt
open Go Go.RowKit
theorem u_81 : Tryd.prog.underlying 81 = some (.slice 25) := by kernel_rfl
end Go.Proofs.YthdbokigcfbgeaaDoor.Rt
