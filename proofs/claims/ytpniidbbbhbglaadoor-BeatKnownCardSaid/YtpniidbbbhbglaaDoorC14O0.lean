/- Walks of the functions of this seat: what each Go function comes to, as a Lean function, and the proof. Arguments read as data. Under no conditions. -/
import Derived.Test.YtpniidbbbhbglaaDoorC14W0
import Derived.Test.YtpniidbbbhbglaaDoorC14Rt13
set_option linter.unusedVariables false
set_option linter.unusedSimpArgs false
set_option maxRecDepth 100000
set_option maxHeartbeats 4000000
namespace Go.Proofs.YtpniidbbbhbglaaDoor.Rt
open Go Go.RowKit Go.ChangeShapes Go.WideShapes
def Ok_Span (x : Span) : Prop := InR x.Low ∧ InR x.High
def Ok_BeatOpen (x : BeatOpen) : Prop := InR x.Clock ∧ InR x.Hour ∧ Ok_Span x.Step
def Ok_BeatPair (x : BeatPair) : Prop := InR x.Hour ∧ InR x.One ∧ InR x.Other ∧ Ok_Span x.Read
def Ok_BeatCellar (x : BeatCellar) : Prop := InR x.Hours ∧ (OkL Ok_Span x.Rates) ∧ (OkL Ok_BeatOpen x.Opens) ∧ (OkL Ok_BeatPair x.Pairs)
end Go.Proofs.YtpniidbbbhbglaaDoor.Rt
