/- Walks of the functions of this seat: what each Go function comes to, as a Lean function, and the proof. Arguments read as data. Under no conditions. -/
import Derived.Test.YthdbokigcfbgeaaDoorC14W0
import Derived.Test.YthdbokigcfbgeaaDoorC14Rt13
set_option linter.unusedVariables false
set_option linter.unusedSimpArgs false
set_option maxRecDepth 100000
set_option maxHeartbeats 4000000
namespace Go.Proofs.YthdbokigcfbgeaaDoor.Rt
open Go Go.RowKit Go.ChangeShapes Go.WideShapes
def Ok_Span (x : Span) : Prop := InR x.Low ∧ InR x.High
def Ok_LineLine (x : LineLine) : Prop := InR x.From ∧ InR x.To ∧ Ok_Span x.Delay
def Ok_LineLoop (x : LineLoop) : Prop := InR x.Exchange ∧ Ok_Span x.Read
def Ok_LineNet (x : LineNet) : Prop := InR x.Exchanges ∧ (OkL Ok_LineLine x.Lines) ∧ InR x.Hops ∧ (OkL Ok_LineLoop x.Loops)
end Go.Proofs.YthdbokigcfbgeaaDoor.Rt
