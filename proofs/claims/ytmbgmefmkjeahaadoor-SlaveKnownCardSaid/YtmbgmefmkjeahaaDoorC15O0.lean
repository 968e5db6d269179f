/- Walks of the functions of this seat: what each Go function comes to, as a Lean function, and the proof. Arguments read as data. Under no conditions. -/
import Derived.Test.YtmbgmefmkjeahaaDoorC15W0
import Derived.Test.YtmbgmefmkjeahaaDoorC15Rt13
set_option linter.unusedVariables false
set_option linter.unusedSimpArgs false
set_option maxRecDepth 100000
set_option maxHeartbeats 4000000
namespace Go.Proofs.YtmbgmefmkjeahaaDoor.Rt
open Go Go.RowKit Go.ChangeShapes Go.WideShapes
def Ok_SlaveStart (x : SlaveStart) : Prop := InR x.Shown ∧ InR x.Last
def Ok_SlaveEvent (x : SlaveEvent) : Prop := InR x.Kind ∧ InR x.First ∧ InR x.Count ∧ InR x.Lost ∧ InR x.Who ∧ InR x.Shown
def Ok_SlaveLine (x : SlaveLine) : Prop := InR x.Ring ∧ (OkL Ok_SlaveStart x.Starts) ∧ (OkL Ok_SlaveEvent x.Events)
end Go.Proofs.YtmbgmefmkjeahaaDoor.Rt
