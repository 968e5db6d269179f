/- Walks of the functions of this seat: what each Go function comes to, as a Lean function, and the proof. What the pure function of the law comes to. Under no conditions. -/
import Derived.Test.YtgdfljiliflhfaaDoorC3TpA
import Derived.Test.YtgdfljiliflhfaaDoorC3TpS
set_option linter.unusedVariables false
set_option linter.unusedSimpArgs false
set_option maxRecDepth 100000
set_option maxHeartbeats 4000000
namespace Go.Proofs.YtgdfljiliflhfaaDoor.Rt
open Go Go.RowKit
theorem pure_3 (n : LineNet) (b : ScaleBook) (k : Arr4) (hn : Ok_LineNet n) (hb : Ok_ScaleBook b) (_ : Ok_Arr4 k) : remontoirtop_TopSent n b k = some true := Tp.sent_eq Tp.rung_eq n b k hn hb
end Go.Proofs.YtgdfljiliflhfaaDoor.Rt
