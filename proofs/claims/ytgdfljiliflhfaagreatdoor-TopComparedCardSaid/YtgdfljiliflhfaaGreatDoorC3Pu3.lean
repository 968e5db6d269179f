/- Walks of the functions of this seat: what each Go function comes to, as a Lean function, and the proof. What the pure function of the law comes to. Under no conditions. -/
import Derived.Test.YtgdfljiliflhfaaGreatDoorC3TcC
set_option linter.unusedVariables false
set_option linter.unusedSimpArgs false
set_option maxRecDepth 100000
set_option maxHeartbeats 4000000
namespace Go.Proofs.YtgdfljiliflhfaaGreatDoor.Rt
open Go Go.RowKit
theorem pure_3 (n:LineNet) (rates:Arr2_Span) (k:Arr4) (bits:(List Int)) (hn:Ok_LineNet n) (hr:Ok_Arr2_Span rates) (_:Ok_Arr4 k) (hb:OkL InR bits):remontoirtop_TopCompared n rates k bits=some true:=Tc.compared_eq n rates k bits hn hr hb
end Go.Proofs.YtgdfljiliflhfaaGreatDoor.Rt
