/- Walks of the functions of this seat: what each Go function comes to, as a Lean function, and the proof. More facts. Under no conditions. -/
import Derived.Test.YtidmdgjgpmeecaaDoorC14W0
import Derived.Test.YtidmdgjgpmeecaaDoorC14Rt26
set_option linter.unusedVariables false
set_option linter.unusedSimpArgs false
set_option maxRecDepth 100000
set_option maxHeartbeats 4000000
namespace Go.Proofs.YtidmdgjgpmeecaaDoor.Rt
open Go Go.RowKit
theorem u_66 : Tryd.prog.underlying 66 = some (.slice 24) := by kernel_rfl
theorem u_68 : Tryd.prog.underlying 68 = some (.slice 25) := by kernel_rfl
theorem sz_25 : tsz Tryd.prog 25 = some (false, 1) := by kernel_rfl
end Go.Proofs.YtidmdgjgpmeecaaDoor.Rt
