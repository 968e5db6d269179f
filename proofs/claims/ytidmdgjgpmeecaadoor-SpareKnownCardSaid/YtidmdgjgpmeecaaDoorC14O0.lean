/- Walks of the functions of this seat: what each Go function comes to, as a Lean function, and the proof. Arguments read as data. Under no conditions. -/
import Derived.Test.YtidmdgjgpmeecaaDoorC14W0
import Derived.Test.YtidmdgjgpmeecaaDoorC14Rt13
set_option linter.unusedVariables false
set_option linter.unusedSimpArgs false
set_option maxRecDepth 100000
set_option maxHeartbeats 4000000
namespace Go.Proofs.YtidmdgjgpmeecaaDoor.Rt
open Go Go.RowKit Go.ChangeShapes Go.WideShapes
def Ok_Span (x : Span) : Prop := InR x.Low ∧ InR x.High
def Ok_SpareMachine (x : SpareMachine) : Prop := InR x.From ∧ InR x.Warm ∧ Ok_Span x.Life ∧ InR x.Drift
def Ok_SpareStore (x : SpareStore) : Prop := InR x.Hours ∧ InR x.Gap ∧ (OkL Ok_SpareMachine x.Machines)
def Ok_SpareTurn (x : SpareTurn) : Prop := InR x.Machine ∧ InR x.Start ∧ InR x.Over
end Go.Proofs.YtidmdgjgpmeecaaDoor.Rt
