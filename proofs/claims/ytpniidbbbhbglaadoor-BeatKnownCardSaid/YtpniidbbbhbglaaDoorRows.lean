/-
  NARROWER THAN 'FOR EVERY INPUT', by the rows' own cells (each row's printed sentence says how): BeatTruths: laid · BeatApart: laid · BeatCases: laid · BeatWrongs: laid · BeatTrue: laid · BeatEnds: laid · BeatMore: laid · BeatWider: laid · BeatTurned: laid · BeatLeft: laid · BeatRates: laid · BeatKnown: laid.
  DERIVED. THE GIVEN ROWS OF THIS SEAT. 12 by the template 'for every input the law returns true; each argument reads behind the call as it read before'; 0 by the template 'total and deterministic' (their statements: YtpniidbbbhbglaaDoorTotals.lean).
  GIVEN WITH THE SEED: the statements are not yours to turn. If you find one false, say at which input.
  Laid BY PROGRAM, IN A SANDBOX (cutbox-rows.mjs): the forced cells as the released guide's own fill.sh prints them over the translation 97480ce018e5a2ed… (all of the seat's roots in one cut). By AI agents, Wed Nov 11 2026. No macro, syntax, notation, axiom, sorry.
-/
import Derived.Test.YtpniidbbbhbglaaDoorChecked
import GoSem.Claim
import GoSem.ClaimJoined
import GoSem.ClaimMapViews
import Derived.JoinedTies
import Derived.KernelRfl
namespace Go.Proofs.YtpniidbbbhbglaaDoor
/- THE CELL 'sum', in the pinned program and in every row, IS THE sha256 OF THE DUMP (.gsa) THAT YtpniidbbbhbglaaDoorProg.lean LOADS. Nothing in Lean hashes anything: it is a label: what it is worth is what the hold of that sum in a sandbox is worth. -/
noncomputable def Tryd.pinned : Pinned := { name := "ytpniidbbbhbglaadoor", sum := "97480ce018e5a2edccbbf0fc0687da96a915a4920a12aaab357257b0919ece9c", checked := Tryd.checked }
namespace Rows
def none {H : Type} : Left H := { results := [], args := [] }

/- WHAT THE LISTED PACKAGE-LEVEL VARIABLES READ AS WHEN THE CALL BEGINS. Each datum BY PROGRAM (the guide's laid-datum.mjs) off the statement by which the dump's own 'gosem.cut.vars' lays the variable. In a bare row this is a premise. The card (YtpniidbbbhbglaaDoorCards.lean) ties it to the program's text. -/
def laid_remontoir_beat_kinds {H : Type} : DataW H := .iface "func table" (.agg [.iface "func" (.lit (.string [40, 114, 101, 109, 111, 110, 116, 111, 105, 114, 47, 98, 101, 97, 116, 46, 99, 101, 108, 108, 97, 114, 41, 46, 103, 114, 111, 119, 115])), .iface "func" (.lit (.string [40, 114, 101, 109, 111, 110, 116, 111, 105, 114, 47, 98, 101, 97, 116, 46, 99, 101, 108, 108, 97, 114, 41, 46, 114, 101, 97, 100, 115])), .iface "func" (.lit (.string [40, 114, 101, 109, 111, 110, 116, 111, 105, 114, 47, 98, 101, 97, 116, 46, 99, 101, 108, 108, 97, 114, 41, 46, 104, 111, 108, 100, 115]))])

/-- 'remontoirlaw02.BeatTruths': WHATEVER THE INPUT: true; the input reads as it did. -/
def beatTruthsSpec : ChangeSpec := { name := "beatTruths", fn := fun _ => fun
  | [d1, d2, d3] => { results := [.lit (.bool true)], args := [d1, d2, d3] }
  | _ => none }
def beatTruthsRow : OpenClaim := { program := "ytpniidbbbhbglaadoor", sum := "97480ce018e5a2edccbbf0fc0687da96a915a4920a12aaab357257b0919ece9c", func := "remontoir/remontoirlaw02.BeatTruths", spec := "beatTruths", unfollowed := true, recurses := true, named := ["remontoir/beat.kinds"], plainKeys := false, apart := false, laid := [("remontoir/beat.kinds", laid_remontoir_beat_kinds)] }
def BeatTruthsSaid : Prop := beatTruthsRow.holds Tryd.pinned (OpenSpec.ofChange beatTruthsSpec)

/-- ITS FALSE NEIGHBOUR: 'it returns false'. Refute it at one input. -/
def beatTruthsWrong : ChangeSpec := { name := "beatTruths", fn := fun _ => fun
  | [d1, d2, d3] => { results := [.lit (.bool false)], args := [d1, d2, d3] }
  | _ => none }
def BeatTruthsWrongFalsely : Prop := beatTruthsRow.holds Tryd.pinned (OpenSpec.ofChange beatTruthsWrong)

/-- 'remontoirlaw02.BeatApart': WHATEVER THE INPUT: true; the input reads as it did. -/
def beatApartSpec : ChangeSpec := { name := "beatApart", fn := fun _ => fun
  | [d1, d2, d3] => { results := [.lit (.bool true)], args := [d1, d2, d3] }
  | _ => none }
def beatApartRow : OpenClaim := { program := "ytpniidbbbhbglaadoor", sum := "97480ce018e5a2edccbbf0fc0687da96a915a4920a12aaab357257b0919ece9c", func := "remontoir/remontoirlaw02.BeatApart", spec := "beatApart", unfollowed := true, recurses := true, named := ["remontoir/beat.kinds"], plainKeys := false, apart := false, laid := [("remontoir/beat.kinds", laid_remontoir_beat_kinds)] }
def BeatApartSaid : Prop := beatApartRow.holds Tryd.pinned (OpenSpec.ofChange beatApartSpec)

/-- ITS FALSE NEIGHBOUR: 'it returns false'. Refute it at one input. -/
def beatApartWrong : ChangeSpec := { name := "beatApart", fn := fun _ => fun
  | [d1, d2, d3] => { results := [.lit (.bool false)], args := [d1, d2, d3] }
  | _ => none }
def BeatApartWrongFalsely : Prop := beatApartRow.holds Tryd.pinned (OpenSpec.ofChange beatApartWrong)

/-- 'remontoirlaw02.BeatCases': WHATEVER THE INPUT: true; the input reads as it did. -/
def beatCasesSpec : ChangeSpec := { name := "beatCases", fn := fun _ => fun
  | [d1, d2, d3] => { results := [.lit (.bool true)], args := [d1, d2, d3] }
  | _ => none }
def beatCasesRow : OpenClaim := { program := "ytpniidbbbhbglaadoor", sum := "97480ce018e5a2edccbbf0fc0687da96a915a4920a12aaab357257b0919ece9c", func := "remontoir/remontoirlaw02.BeatCases", spec := "beatCases", unfollowed := true, recurses := true, named := ["remontoir/beat.kinds"], plainKeys := false, apart := false, laid := [("remontoir/beat.kinds", laid_remontoir_beat_kinds)] }
def BeatCasesSaid : Prop := beatCasesRow.holds Tryd.pinned (OpenSpec.ofChange beatCasesSpec)

/-- ITS FALSE NEIGHBOUR: 'it returns false'. Refute it at one input. -/
def beatCasesWrong : ChangeSpec := { name := "beatCases", fn := fun _ => fun
  | [d1, d2, d3] => { results := [.lit (.bool false)], args := [d1, d2, d3] }
  | _ => none }
def BeatCasesWrongFalsely : Prop := beatCasesRow.holds Tryd.pinned (OpenSpec.ofChange beatCasesWrong)

/-- 'remontoirlaw02.BeatWrongs': WHATEVER THE INPUT: true; the input reads as it did. -/
def beatWrongsSpec : ChangeSpec := { name := "beatWrongs", fn := fun _ => fun
  | [d1, d2] => { results := [.lit (.bool true)], args := [d1, d2] }
  | _ => none }
def beatWrongsRow : OpenClaim := { program := "ytpniidbbbhbglaadoor", sum := "97480ce018e5a2edccbbf0fc0687da96a915a4920a12aaab357257b0919ece9c", func := "remontoir/remontoirlaw02.BeatWrongs", spec := "beatWrongs", unfollowed := true, recurses := true, named := ["remontoir/beat.kinds"], plainKeys := false, apart := false, laid := [("remontoir/beat.kinds", laid_remontoir_beat_kinds)] }
def BeatWrongsSaid : Prop := beatWrongsRow.holds Tryd.pinned (OpenSpec.ofChange beatWrongsSpec)

/-- ITS FALSE NEIGHBOUR: 'it returns false'. Refute it at one input. -/
def beatWrongsWrong : ChangeSpec := { name := "beatWrongs", fn := fun _ => fun
  | [d1, d2] => { results := [.lit (.bool false)], args := [d1, d2] }
  | _ => none }
def BeatWrongsWrongFalsely : Prop := beatWrongsRow.holds Tryd.pinned (OpenSpec.ofChange beatWrongsWrong)

/-- 'remontoirlaw02.BeatTrue': WHATEVER THE INPUT: true; the input reads as it did. -/
def beatTrueSpec : ChangeSpec := { name := "beatTrue", fn := fun _ => fun
  | [d1, d2, d3] => { results := [.lit (.bool true)], args := [d1, d2, d3] }
  | _ => none }
def beatTrueRow : OpenClaim := { program := "ytpniidbbbhbglaadoor", sum := "97480ce018e5a2edccbbf0fc0687da96a915a4920a12aaab357257b0919ece9c", func := "remontoir/remontoirlaw02.BeatTrue", spec := "beatTrue", unfollowed := true, recurses := true, named := ["remontoir/beat.kinds"], plainKeys := false, apart := false, laid := [("remontoir/beat.kinds", laid_remontoir_beat_kinds)] }
def BeatTrueSaid : Prop := beatTrueRow.holds Tryd.pinned (OpenSpec.ofChange beatTrueSpec)

/-- ITS FALSE NEIGHBOUR: 'it returns false'. Refute it at one input. -/
def beatTrueWrong : ChangeSpec := { name := "beatTrue", fn := fun _ => fun
  | [d1, d2, d3] => { results := [.lit (.bool false)], args := [d1, d2, d3] }
  | _ => none }
def BeatTrueWrongFalsely : Prop := beatTrueRow.holds Tryd.pinned (OpenSpec.ofChange beatTrueWrong)

/-- 'remontoirlaw02.BeatEnds': WHATEVER THE INPUT: true; the input reads as it did. -/
def beatEndsSpec : ChangeSpec := { name := "beatEnds", fn := fun _ => fun
  | [d1, d2] => { results := [.lit (.bool true)], args := [d1, d2] }
  | _ => none }
def beatEndsRow : OpenClaim := { program := "ytpniidbbbhbglaadoor", sum := "97480ce018e5a2edccbbf0fc0687da96a915a4920a12aaab357257b0919ece9c", func := "remontoir/remontoirlaw02.BeatEnds", spec := "beatEnds", unfollowed := true, recurses := true, named := ["remontoir/beat.kinds"], plainKeys := false, apart := false, laid := [("remontoir/beat.kinds", laid_remontoir_beat_kinds)] }
def BeatEndsSaid : Prop := beatEndsRow.holds Tryd.pinned (OpenSpec.ofChange beatEndsSpec)

/-- ITS FALSE NEIGHBOUR: 'it returns false'. Refute it at one input. -/
def beatEndsWrong : ChangeSpec := { name := "beatEnds", fn := fun _ => fun
  | [d1, d2] => { results := [.lit (.bool false)], args := [d1, d2] }
  | _ => none }
def BeatEndsWrongFalsely : Prop := beatEndsRow.holds Tryd.pinned (OpenSpec.ofChange beatEndsWrong)

/-- 'remontoirlaw02.BeatMore': WHATEVER THE INPUT: true; the input reads as it did. -/
def beatMoreSpec : ChangeSpec := { name := "beatMore", fn := fun _ => fun
  | [d1, d2, d3] => { results := [.lit (.bool true)], args := [d1, d2, d3] }
  | _ => none }
def beatMoreRow : OpenClaim := { program := "ytpniidbbbhbglaadoor", sum := "97480ce018e5a2edccbbf0fc0687da96a915a4920a12aaab357257b0919ece9c", func := "remontoir/remontoirlaw02.BeatMore", spec := "beatMore", unfollowed := true, recurses := true, named := ["remontoir/beat.kinds"], plainKeys := false, apart := false, laid := [("remontoir/beat.kinds", laid_remontoir_beat_kinds)] }
def BeatMoreSaid : Prop := beatMoreRow.holds Tryd.pinned (OpenSpec.ofChange beatMoreSpec)

/-- ITS FALSE NEIGHBOUR: 'it returns false'. Refute it at one input. -/
def beatMoreWrong : ChangeSpec := { name := "beatMore", fn := fun _ => fun
  | [d1, d2, d3] => { results := [.lit (.bool false)], args := [d1, d2, d3] }
  | _ => none }
def BeatMoreWrongFalsely : Prop := beatMoreRow.holds Tryd.pinned (OpenSpec.ofChange beatMoreWrong)

/-- 'remontoirlaw02.BeatWider': WHATEVER THE INPUT: true; the input reads as it did. -/
def beatWiderSpec : ChangeSpec := { name := "beatWider", fn := fun _ => fun
  | [d1, d2] => { results := [.lit (.bool true)], args := [d1, d2] }
  | _ => none }
def beatWiderRow : OpenClaim := { program := "ytpniidbbbhbglaadoor", sum := "97480ce018e5a2edccbbf0fc0687da96a915a4920a12aaab357257b0919ece9c", func := "remontoir/remontoirlaw02.BeatWider", spec := "beatWider", unfollowed := true, recurses := true, named := ["remontoir/beat.kinds"], plainKeys := false, apart := false, laid := [("remontoir/beat.kinds", laid_remontoir_beat_kinds)] }
def BeatWiderSaid : Prop := beatWiderRow.holds Tryd.pinned (OpenSpec.ofChange beatWiderSpec)

/-- ITS FALSE NEIGHBOUR: 'it returns false'. Refute it at one input. -/
def beatWiderWrong : ChangeSpec := { name := "beatWider", fn := fun _ => fun
  | [d1, d2] => { results := [.lit (.bool false)], args := [d1, d2] }
  | _ => none }
def BeatWiderWrongFalsely : Prop := beatWiderRow.holds Tryd.pinned (OpenSpec.ofChange beatWiderWrong)

/-- 'remontoirlaw02.BeatTurned': WHATEVER THE INPUT: true; the input reads as it did. -/
def beatTurnedSpec : ChangeSpec := { name := "beatTurned", fn := fun _ => fun
  | [d1, d2, d3] => { results := [.lit (.bool true)], args := [d1, d2, d3] }
  | _ => none }
def beatTurnedRow : OpenClaim := { program := "ytpniidbbbhbglaadoor", sum := "97480ce018e5a2edccbbf0fc0687da96a915a4920a12aaab357257b0919ece9c", func := "remontoir/remontoirlaw02.BeatTurned", spec := "beatTurned", unfollowed := true, recurses := true, named := ["remontoir/beat.kinds"], plainKeys := false, apart := false, laid := [("remontoir/beat.kinds", laid_remontoir_beat_kinds)] }
def BeatTurnedSaid : Prop := beatTurnedRow.holds Tryd.pinned (OpenSpec.ofChange beatTurnedSpec)

/-- ITS FALSE NEIGHBOUR: 'it returns false'. Refute it at one input. -/
def beatTurnedWrong : ChangeSpec := { name := "beatTurned", fn := fun _ => fun
  | [d1, d2, d3] => { results := [.lit (.bool false)], args := [d1, d2, d3] }
  | _ => none }
def BeatTurnedWrongFalsely : Prop := beatTurnedRow.holds Tryd.pinned (OpenSpec.ofChange beatTurnedWrong)

/-- 'remontoirlaw02.BeatLeft': WHATEVER THE INPUT: true; the input reads as it did. -/
def beatLeftSpec : ChangeSpec := { name := "beatLeft", fn := fun _ => fun
  | [d1, d2] => { results := [.lit (.bool true)], args := [d1, d2] }
  | _ => none }
def beatLeftRow : OpenClaim := { program := "ytpniidbbbhbglaadoor", sum := "97480ce018e5a2edccbbf0fc0687da96a915a4920a12aaab357257b0919ece9c", func := "remontoir/remontoirlaw02.BeatLeft", spec := "beatLeft", unfollowed := true, recurses := true, named := ["remontoir/beat.kinds"], plainKeys := false, apart := false, laid := [("remontoir/beat.kinds", laid_remontoir_beat_kinds)] }
def BeatLeftSaid : Prop := beatLeftRow.holds Tryd.pinned (OpenSpec.ofChange beatLeftSpec)

/-- ITS FALSE NEIGHBOUR: 'it returns false'. Refute it at one input. -/
def beatLeftWrong : ChangeSpec := { name := "beatLeft", fn := fun _ => fun
  | [d1, d2] => { results := [.lit (.bool false)], args := [d1, d2] }
  | _ => none }
def BeatLeftWrongFalsely : Prop := beatLeftRow.holds Tryd.pinned (OpenSpec.ofChange beatLeftWrong)

/-- 'remontoirlaw02.BeatRates': WHATEVER THE INPUT: true; the input reads as it did. -/
def beatRatesSpec : ChangeSpec := { name := "beatRates", fn := fun _ => fun
  | [d1, d2] => { results := [.lit (.bool true)], args := [d1, d2] }
  | _ => none }
def beatRatesRow : OpenClaim := { program := "ytpniidbbbhbglaadoor", sum := "97480ce018e5a2edccbbf0fc0687da96a915a4920a12aaab357257b0919ece9c", func := "remontoir/remontoirlaw02.BeatRates", spec := "beatRates", unfollowed := true, recurses := true, named := ["remontoir/beat.kinds"], plainKeys := false, apart := false, laid := [("remontoir/beat.kinds", laid_remontoir_beat_kinds)] }
def BeatRatesSaid : Prop := beatRatesRow.holds Tryd.pinned (OpenSpec.ofChange beatRatesSpec)

/-- ITS FALSE NEIGHBOUR: 'it returns false'. Refute it at one input. -/
def beatRatesWrong : ChangeSpec := { name := "beatRates", fn := fun _ => fun
  | [d1, d2] => { results := [.lit (.bool false)], args := [d1, d2] }
  | _ => none }
def BeatRatesWrongFalsely : Prop := beatRatesRow.holds Tryd.pinned (OpenSpec.ofChange beatRatesWrong)

/-- 'remontoirlaw02.BeatKnown': WHATEVER THE INPUT: true; the input reads as it did. -/
def beatKnownSpec : ChangeSpec := { name := "beatKnown", fn := fun _ => fun
  | [] => { results := [.lit (.bool true)], args := [] }
  | _ => none }
def beatKnownRow : OpenClaim := { program := "ytpniidbbbhbglaadoor", sum := "97480ce018e5a2edccbbf0fc0687da96a915a4920a12aaab357257b0919ece9c", func := "remontoir/remontoirlaw02.BeatKnown", spec := "beatKnown", unfollowed := true, recurses := true, named := ["remontoir/beat.kinds"], plainKeys := false, apart := false, laid := [("remontoir/beat.kinds", laid_remontoir_beat_kinds)] }
def BeatKnownSaid : Prop := beatKnownRow.holds Tryd.pinned (OpenSpec.ofChange beatKnownSpec)

/-- ITS FALSE NEIGHBOUR: 'it returns false'. Refute it at one input. -/
def beatKnownWrong : ChangeSpec := { name := "beatKnown", fn := fun _ => fun
  | [] => { results := [.lit (.bool false)], args := [] }
  | _ => none }
def BeatKnownWrongFalsely : Prop := beatKnownRow.holds Tryd.pinned (OpenSpec.ofChange beatKnownWrong)

/- THE SECOND FORM. 'bulk': how many values and letters a reading holds, each counted each time it is reached (what is shared counts as often as it is met; a slice's spare places count too). A statement '..UptoSaid' is the law's where the arguments, and the package variables that the reading takes, are together of bulk at most 1048576: NARROWER than '..Said'. Prove '..Said' where nothing that the law and all that it calls make is longer than what came in: it says more and counts as full. Else prove '..UptoSaid'. A law counts once. -/
mutual
def uptoBulk {H : Type} : DataW H → Nat
  | .lit (.string bytes) => bytes.length + 1
  | .lit _ => 1
  | .nil => 1
  | .ptr d => uptoBulk d + 1
  | .slice elems spare => uptoBulkAll elems + uptoBulkAll spare + 1
  | .agg parts => uptoBulkAll parts + 1
  | .iface _ d => uptoBulk d + 1
  | .map entries => uptoBulkEntries entries + 1
  | .held _ => 1
def uptoBulkAll {H : Type} : List (DataW H) → Nat
  | [] => 0
  | d :: r => uptoBulk d + uptoBulkAll r
def uptoBulkEntries {H : Type} : List (Lit × DataW H) → Nat
  | [] => 0
  | x :: r => uptoBulkEntry x + uptoBulkEntries r
def uptoBulkEntry {H : Type} : Lit × DataW H → Nat
  | (.string bytes, d) => bytes.length + uptoBulk d + 1
  | (_, d) => uptoBulk d + 1
 end
def uptoSmall : (H : Type) → List (DataW H) → Bool := fun _ ds => decide (uptoBulkAll ds ≤ 1048576)
def OpenSpec.upto (s : _root_.Go.ChangeSpec) : _root_.Go.OpenSpec := { _root_.Go.OpenSpec.ofChange s with cond := some uptoSmall }

/-- 'remontoirlaw02.BeatTruths', WHERE WHAT IT READS IS OF BULK AT MOST 1048576: true; the input reads as it did. -/
def beatTruthsUptoRow : OpenClaim := { program := "ytpniidbbbhbglaadoor", sum := "97480ce018e5a2edccbbf0fc0687da96a915a4920a12aaab357257b0919ece9c", func := "remontoir/remontoirlaw02.BeatTruths", spec := "beatTruths", unfollowed := true, recurses := true, named := ["remontoir/beat.kinds"], plainKeys := false, apart := false, laid := [("remontoir/beat.kinds", laid_remontoir_beat_kinds)], narrowed := true }
def BeatTruthsUptoSaid : Prop := beatTruthsUptoRow.holds Tryd.pinned (OpenSpec.upto beatTruthsSpec)

/-- 'remontoirlaw02.BeatApart', WHERE WHAT IT READS IS OF BULK AT MOST 1048576: true; the input reads as it did. -/
def beatApartUptoRow : OpenClaim := { program := "ytpniidbbbhbglaadoor", sum := "97480ce018e5a2edccbbf0fc0687da96a915a4920a12aaab357257b0919ece9c", func := "remontoir/remontoirlaw02.BeatApart", spec := "beatApart", unfollowed := true, recurses := true, named := ["remontoir/beat.kinds"], plainKeys := false, apart := false, laid := [("remontoir/beat.kinds", laid_remontoir_beat_kinds)], narrowed := true }
def BeatApartUptoSaid : Prop := beatApartUptoRow.holds Tryd.pinned (OpenSpec.upto beatApartSpec)

/-- 'remontoirlaw02.BeatCases', WHERE WHAT IT READS IS OF BULK AT MOST 1048576: true; the input reads as it did. -/
def beatCasesUptoRow : OpenClaim := { program := "ytpniidbbbhbglaadoor", sum := "97480ce018e5a2edccbbf0fc0687da96a915a4920a12aaab357257b0919ece9c", func := "remontoir/remontoirlaw02.BeatCases", spec := "beatCases", unfollowed := true, recurses := true, named := ["remontoir/beat.kinds"], plainKeys := false, apart := false, laid := [("remontoir/beat.kinds", laid_remontoir_beat_kinds)], narrowed := true }
def BeatCasesUptoSaid : Prop := beatCasesUptoRow.holds Tryd.pinned (OpenSpec.upto beatCasesSpec)

/-- 'remontoirlaw02.BeatWrongs', WHERE WHAT IT READS IS OF BULK AT MOST 1048576: true; the input reads as it did. -/
def beatWrongsUptoRow : OpenClaim := { program := "ytpniidbbbhbglaadoor", sum := "97480ce018e5a2edccbbf0fc0687da96a915a4920a12aaab357257b0919ece9c", func := "remontoir/remontoirlaw02.BeatWrongs", spec := "beatWrongs", unfollowed := true, recurses := true, named := ["remontoir/beat.kinds"], plainKeys := false, apart := false, laid := [("remontoir/beat.kinds", laid_remontoir_beat_kinds)], narrowed := true }
def BeatWrongsUptoSaid : Prop := beatWrongsUptoRow.holds Tryd.pinned (OpenSpec.upto beatWrongsSpec)

/-- 'remontoirlaw02.BeatTrue', WHERE WHAT IT READS IS OF BULK AT MOST 1048576: true; the input reads as it did. -/
def beatTrueUptoRow : OpenClaim := { program := "ytpniidbbbhbglaadoor", sum := "97480ce018e5a2edccbbf0fc0687da96a915a4920a12aaab357257b0919ece9c", func := "remontoir/remontoirlaw02.BeatTrue", spec := "beatTrue", unfollowed := true, recurses := true, named := ["remontoir/beat.kinds"], plainKeys := false, apart := false, laid := [("remontoir/beat.kinds", laid_remontoir_beat_kinds)], narrowed := true }
def BeatTrueUptoSaid : Prop := beatTrueUptoRow.holds Tryd.pinned (OpenSpec.upto beatTrueSpec)

/-- 'remontoirlaw02.BeatEnds', WHERE WHAT IT READS IS OF BULK AT MOST 1048576: true; the input reads as it did. -/
def beatEndsUptoRow : OpenClaim := { program := "ytpniidbbbhbglaadoor", sum := "97480ce018e5a2edccbbf0fc0687da96a915a4920a12aaab357257b0919ece9c", func := "remontoir/remontoirlaw02.BeatEnds", spec := "beatEnds", unfollowed := true, recurses := true, named := ["remontoir/beat.kinds"], plainKeys := false, apart := false, laid := [("remontoir/beat.kinds", laid_remontoir_beat_kinds)], narrowed := true }
def BeatEndsUptoSaid : Prop := beatEndsUptoRow.holds Tryd.pinned (OpenSpec.upto beatEndsSpec)

/-- 'remontoirlaw02.BeatMore', WHERE WHAT IT READS IS OF BULK AT MOST 1048576: true; the input reads as it did. -/
def beatMoreUptoRow : OpenClaim := { program := "ytpniidbbbhbglaadoor", sum := "97480ce018e5a2edccbbf0fc0687da96a915a4920a12aaab357257b0919ece9c", func := "remontoir/remontoirlaw02.BeatMore", spec := "beatMore", unfollowed := true, recurses := true, named := ["remontoir/beat.kinds"], plainKeys := false, apart := false, laid := [("remontoir/beat.kinds", laid_remontoir_beat_kinds)], narrowed := true }
def BeatMoreUptoSaid : Prop := beatMoreUptoRow.holds Tryd.pinned (OpenSpec.upto beatMoreSpec)

/-- 'remontoirlaw02.BeatWider', WHERE WHAT IT READS IS OF BULK AT MOST 1048576: true; the input reads as it did. -/
def beatWiderUptoRow : OpenClaim := { program := "ytpniidbbbhbglaadoor", sum := "97480ce018e5a2edccbbf0fc0687da96a915a4920a12aaab357257b0919ece9c", func := "remontoir/remontoirlaw02.BeatWider", spec := "beatWider", unfollowed := true, recurses := true, named := ["remontoir/beat.kinds"], plainKeys := false, apart := false, laid := [("remontoir/beat.kinds", laid_remontoir_beat_kinds)], narrowed := true }
def BeatWiderUptoSaid : Prop := beatWiderUptoRow.holds Tryd.pinned (OpenSpec.upto beatWiderSpec)

/-- 'remontoirlaw02.BeatTurned', WHERE WHAT IT READS IS OF BULK AT MOST 1048576: true; the input reads as it did. -/
def beatTurnedUptoRow : OpenClaim := { program := "ytpniidbbbhbglaadoor", sum := "97480ce018e5a2edccbbf0fc0687da96a915a4920a12aaab357257b0919ece9c", func := "remontoir/remontoirlaw02.BeatTurned", spec := "beatTurned", unfollowed := true, recurses := true, named := ["remontoir/beat.kinds"], plainKeys := false, apart := false, laid := [("remontoir/beat.kinds", laid_remontoir_beat_kinds)], narrowed := true }
def BeatTurnedUptoSaid : Prop := beatTurnedUptoRow.holds Tryd.pinned (OpenSpec.upto beatTurnedSpec)

/-- 'remontoirlaw02.BeatLeft', WHERE WHAT IT READS IS OF BULK AT MOST 1048576: true; the input reads as it did. -/
def beatLeftUptoRow : OpenClaim := { program := "ytpniidbbbhbglaadoor", sum := "97480ce018e5a2edccbbf0fc0687da96a915a4920a12aaab357257b0919ece9c", func := "remontoir/remontoirlaw02.BeatLeft", spec := "beatLeft", unfollowed := true, recurses := true, named := ["remontoir/beat.kinds"], plainKeys := false, apart := false, laid := [("remontoir/beat.kinds", laid_remontoir_beat_kinds)], narrowed := true }
def BeatLeftUptoSaid : Prop := beatLeftUptoRow.holds Tryd.pinned (OpenSpec.upto beatLeftSpec)

/-- 'remontoirlaw02.BeatRates', WHERE WHAT IT READS IS OF BULK AT MOST 1048576: true; the input reads as it did. -/
def beatRatesUptoRow : OpenClaim := { program := "ytpniidbbbhbglaadoor", sum := "97480ce018e5a2edccbbf0fc0687da96a915a4920a12aaab357257b0919ece9c", func := "remontoir/remontoirlaw02.BeatRates", spec := "beatRates", unfollowed := true, recurses := true, named := ["remontoir/beat.kinds"], plainKeys := false, apart := false, laid := [("remontoir/beat.kinds", laid_remontoir_beat_kinds)], narrowed := true }
def BeatRatesUptoSaid : Prop := beatRatesUptoRow.holds Tryd.pinned (OpenSpec.upto beatRatesSpec)

/-- 'remontoirlaw02.BeatKnown', WHERE WHAT IT READS IS OF BULK AT MOST 1048576: true; the input reads as it did. -/
def beatKnownUptoRow : OpenClaim := { program := "ytpniidbbbhbglaadoor", sum := "97480ce018e5a2edccbbf0fc0687da96a915a4920a12aaab357257b0919ece9c", func := "remontoir/remontoirlaw02.BeatKnown", spec := "beatKnown", unfollowed := true, recurses := true, named := ["remontoir/beat.kinds"], plainKeys := false, apart := false, laid := [("remontoir/beat.kinds", laid_remontoir_beat_kinds)], narrowed := true }
def BeatKnownUptoSaid : Prop := beatKnownUptoRow.holds Tryd.pinned (OpenSpec.upto beatKnownSpec)

end Rows
end Go.Proofs.YtpniidbbbhbglaaDoor
