/-
  NARROWER THAN 'FOR EVERY INPUT', by the rows' own cells (each row's printed sentence says how): LineRoutes: laid · LineDelays: laid · LineCuts: laid · LineTrue: laid · LineEnds: laid · LineListed: laid · LineMore: laid · LineWider: laid · LineCut: laid · LineLeft: laid · LineTurned: laid · LineKnown: laid.
  DERIVED. THE GIVEN ROWS OF THIS SEAT. 12 by the template 'for every input the law returns true; each argument reads behind the call as it read before'; 0 by the template 'total and deterministic' (their statements: YthdbokigcfbgeaaDoorTotals.lean).
  GIVEN WITH THE SEED: the statements are not yours to turn. If you find one false, say at which input.
  Laid BY PROGRAM, IN A SANDBOX (cutbox-rows.mjs): the forced cells as the released guide's own fill.sh prints them over the translation d38acbdddeca16d3… (all of the seat's roots in one cut). By AI agents, Wed Nov 11 2026. No macro, syntax, notation, axiom, sorry.
-/
import Derived.Test.YthdbokigcfbgeaaDoorChecked
import GoSem.Claim
import GoSem.ClaimJoined
import GoSem.ClaimMapViews
import Derived.JoinedTies
import Derived.KernelRfl
namespace Go.Proofs.YthdbokigcfbgeaaDoor
/- THE CELL 'sum', in the pinned program and in every row, IS THE sha256 OF THE DUMP (.gsa) THAT YthdbokigcfbgeaaDoorProg.lean LOADS. Nothing in Lean hashes anything: it is a label: what it is worth is what the hold of that sum in a sandbox is worth. -/
noncomputable def Tryd.pinned : Pinned := { name := "ythdbokigcfbgeaadoor", sum := "d38acbdddeca16d3d2ab43ae8a248aad68931ff60b9707d628f254938baf058e", checked := Tryd.checked }
namespace Rows
def none {H : Type} : Left H := { results := [], args := [] }

/- WHAT THE LISTED PACKAGE-LEVEL VARIABLES READ AS WHEN THE CALL BEGINS. Each datum BY PROGRAM (the guide's laid-datum.mjs) off the statement by which the dump's own 'gosem.cut.vars' lays the variable. In a bare row this is a premise. The card (YthdbokigcfbgeaaDoorCards.lean) ties it to the program's text. -/
def laid_remontoir_line_ends {H : Type} : DataW H := .iface "func table" (.agg [.iface "func" (.lit (.string [40, 114, 101, 109, 111, 110, 116, 111, 105, 114, 47, 108, 105, 110, 101, 46, 110, 101, 116, 41, 46, 98, 101, 103, 105, 110])), .iface "func" (.lit (.string [40, 114, 101, 109, 111, 110, 116, 111, 105, 114, 47, 108, 105, 110, 101, 46, 110, 101, 116, 41, 46, 101, 110, 100]))])

/-- 'remontoirlaw06.LineRoutes': WHATEVER THE INPUT: true; the input reads as it did. -/
def lineRoutesSpec : ChangeSpec := { name := "lineRoutes", fn := fun _ => fun
  | [d1, d2] => { results := [.lit (.bool true)], args := [d1, d2] }
  | _ => none }
def lineRoutesRow : OpenClaim := { program := "ythdbokigcfbgeaadoor", sum := "d38acbdddeca16d3d2ab43ae8a248aad68931ff60b9707d628f254938baf058e", func := "remontoir/remontoirlaw06.LineRoutes", spec := "lineRoutes", unfollowed := true, recurses := true, named := ["remontoir/line.ends"], plainKeys := false, apart := false, laid := [("remontoir/line.ends", laid_remontoir_line_ends)] }
def LineRoutesSaid : Prop := lineRoutesRow.holds Tryd.pinned (OpenSpec.ofChange lineRoutesSpec)

/-- ITS FALSE NEIGHBOUR: 'it returns false'. Refute it at one input. -/
def lineRoutesWrong : ChangeSpec := { name := "lineRoutes", fn := fun _ => fun
  | [d1, d2] => { results := [.lit (.bool false)], args := [d1, d2] }
  | _ => none }
def LineRoutesWrongFalsely : Prop := lineRoutesRow.holds Tryd.pinned (OpenSpec.ofChange lineRoutesWrong)

/-- 'remontoirlaw06.LineDelays': WHATEVER THE INPUT: true; the input reads as it did. -/
def lineDelaysSpec : ChangeSpec := { name := "lineDelays", fn := fun _ => fun
  | [d1, d2] => { results := [.lit (.bool true)], args := [d1, d2] }
  | _ => none }
def lineDelaysRow : OpenClaim := { program := "ythdbokigcfbgeaadoor", sum := "d38acbdddeca16d3d2ab43ae8a248aad68931ff60b9707d628f254938baf058e", func := "remontoir/remontoirlaw06.LineDelays", spec := "lineDelays", unfollowed := true, recurses := true, named := ["remontoir/line.ends"], plainKeys := false, apart := false, laid := [("remontoir/line.ends", laid_remontoir_line_ends)] }
def LineDelaysSaid : Prop := lineDelaysRow.holds Tryd.pinned (OpenSpec.ofChange lineDelaysSpec)

/-- ITS FALSE NEIGHBOUR: 'it returns false'. Refute it at one input. -/
def lineDelaysWrong : ChangeSpec := { name := "lineDelays", fn := fun _ => fun
  | [d1, d2] => { results := [.lit (.bool false)], args := [d1, d2] }
  | _ => none }
def LineDelaysWrongFalsely : Prop := lineDelaysRow.holds Tryd.pinned (OpenSpec.ofChange lineDelaysWrong)

/-- 'remontoirlaw06.LineCuts': WHATEVER THE INPUT: true; the input reads as it did. -/
def lineCutsSpec : ChangeSpec := { name := "lineCuts", fn := fun _ => fun
  | [d1, d2] => { results := [.lit (.bool true)], args := [d1, d2] }
  | _ => none }
def lineCutsRow : OpenClaim := { program := "ythdbokigcfbgeaadoor", sum := "d38acbdddeca16d3d2ab43ae8a248aad68931ff60b9707d628f254938baf058e", func := "remontoir/remontoirlaw06.LineCuts", spec := "lineCuts", unfollowed := true, recurses := true, named := ["remontoir/line.ends"], plainKeys := false, apart := false, laid := [("remontoir/line.ends", laid_remontoir_line_ends)] }
def LineCutsSaid : Prop := lineCutsRow.holds Tryd.pinned (OpenSpec.ofChange lineCutsSpec)

/-- ITS FALSE NEIGHBOUR: 'it returns false'. Refute it at one input. -/
def lineCutsWrong : ChangeSpec := { name := "lineCuts", fn := fun _ => fun
  | [d1, d2] => { results := [.lit (.bool false)], args := [d1, d2] }
  | _ => none }
def LineCutsWrongFalsely : Prop := lineCutsRow.holds Tryd.pinned (OpenSpec.ofChange lineCutsWrong)

/-- 'remontoirlaw06.LineTrue': WHATEVER THE INPUT: true; the input reads as it did. -/
def lineTrueSpec : ChangeSpec := { name := "lineTrue", fn := fun _ => fun
  | [d1, d2] => { results := [.lit (.bool true)], args := [d1, d2] }
  | _ => none }
def lineTrueRow : OpenClaim := { program := "ythdbokigcfbgeaadoor", sum := "d38acbdddeca16d3d2ab43ae8a248aad68931ff60b9707d628f254938baf058e", func := "remontoir/remontoirlaw06.LineTrue", spec := "lineTrue", unfollowed := true, recurses := true, named := ["remontoir/line.ends"], plainKeys := false, apart := false, laid := [("remontoir/line.ends", laid_remontoir_line_ends)] }
def LineTrueSaid : Prop := lineTrueRow.holds Tryd.pinned (OpenSpec.ofChange lineTrueSpec)

/-- ITS FALSE NEIGHBOUR: 'it returns false'. Refute it at one input. -/
def lineTrueWrong : ChangeSpec := { name := "lineTrue", fn := fun _ => fun
  | [d1, d2] => { results := [.lit (.bool false)], args := [d1, d2] }
  | _ => none }
def LineTrueWrongFalsely : Prop := lineTrueRow.holds Tryd.pinned (OpenSpec.ofChange lineTrueWrong)

/-- 'remontoirlaw06.LineEnds': WHATEVER THE INPUT: true; the input reads as it did. -/
def lineEndsSpec : ChangeSpec := { name := "lineEnds", fn := fun _ => fun
  | [d1, d2] => { results := [.lit (.bool true)], args := [d1, d2] }
  | _ => none }
def lineEndsRow : OpenClaim := { program := "ythdbokigcfbgeaadoor", sum := "d38acbdddeca16d3d2ab43ae8a248aad68931ff60b9707d628f254938baf058e", func := "remontoir/remontoirlaw06.LineEnds", spec := "lineEnds", unfollowed := true, recurses := true, named := ["remontoir/line.ends"], plainKeys := false, apart := false, laid := [("remontoir/line.ends", laid_remontoir_line_ends)] }
def LineEndsSaid : Prop := lineEndsRow.holds Tryd.pinned (OpenSpec.ofChange lineEndsSpec)

/-- ITS FALSE NEIGHBOUR: 'it returns false'. Refute it at one input. -/
def lineEndsWrong : ChangeSpec := { name := "lineEnds", fn := fun _ => fun
  | [d1, d2] => { results := [.lit (.bool false)], args := [d1, d2] }
  | _ => none }
def LineEndsWrongFalsely : Prop := lineEndsRow.holds Tryd.pinned (OpenSpec.ofChange lineEndsWrong)

/-- 'remontoirlaw06.LineListed': WHATEVER THE INPUT: true; the input reads as it did. -/
def lineListedSpec : ChangeSpec := { name := "lineListed", fn := fun _ => fun
  | [d1, d2] => { results := [.lit (.bool true)], args := [d1, d2] }
  | _ => none }
def lineListedRow : OpenClaim := { program := "ythdbokigcfbgeaadoor", sum := "d38acbdddeca16d3d2ab43ae8a248aad68931ff60b9707d628f254938baf058e", func := "remontoir/remontoirlaw06.LineListed", spec := "lineListed", unfollowed := true, recurses := true, named := ["remontoir/line.ends"], plainKeys := false, apart := false, laid := [("remontoir/line.ends", laid_remontoir_line_ends)] }
def LineListedSaid : Prop := lineListedRow.holds Tryd.pinned (OpenSpec.ofChange lineListedSpec)

/-- ITS FALSE NEIGHBOUR: 'it returns false'. Refute it at one input. -/
def lineListedWrong : ChangeSpec := { name := "lineListed", fn := fun _ => fun
  | [d1, d2] => { results := [.lit (.bool false)], args := [d1, d2] }
  | _ => none }
def LineListedWrongFalsely : Prop := lineListedRow.holds Tryd.pinned (OpenSpec.ofChange lineListedWrong)

/-- 'remontoirlaw06.LineMore': WHATEVER THE INPUT: true; the input reads as it did. -/
def lineMoreSpec : ChangeSpec := { name := "lineMore", fn := fun _ => fun
  | [d1, d2, d3] => { results := [.lit (.bool true)], args := [d1, d2, d3] }
  | _ => none }
def lineMoreRow : OpenClaim := { program := "ythdbokigcfbgeaadoor", sum := "d38acbdddeca16d3d2ab43ae8a248aad68931ff60b9707d628f254938baf058e", func := "remontoir/remontoirlaw06.LineMore", spec := "lineMore", unfollowed := true, recurses := true, named := ["remontoir/line.ends"], plainKeys := false, apart := false, laid := [("remontoir/line.ends", laid_remontoir_line_ends)] }
def LineMoreSaid : Prop := lineMoreRow.holds Tryd.pinned (OpenSpec.ofChange lineMoreSpec)

/-- ITS FALSE NEIGHBOUR: 'it returns false'. Refute it at one input. -/
def lineMoreWrong : ChangeSpec := { name := "lineMore", fn := fun _ => fun
  | [d1, d2, d3] => { results := [.lit (.bool false)], args := [d1, d2, d3] }
  | _ => none }
def LineMoreWrongFalsely : Prop := lineMoreRow.holds Tryd.pinned (OpenSpec.ofChange lineMoreWrong)

/-- 'remontoirlaw06.LineWider': WHATEVER THE INPUT: true; the input reads as it did. -/
def lineWiderSpec : ChangeSpec := { name := "lineWider", fn := fun _ => fun
  | [d1, d2, d3] => { results := [.lit (.bool true)], args := [d1, d2, d3] }
  | _ => none }
def lineWiderRow : OpenClaim := { program := "ythdbokigcfbgeaadoor", sum := "d38acbdddeca16d3d2ab43ae8a248aad68931ff60b9707d628f254938baf058e", func := "remontoir/remontoirlaw06.LineWider", spec := "lineWider", unfollowed := true, recurses := true, named := ["remontoir/line.ends"], plainKeys := false, apart := false, laid := [("remontoir/line.ends", laid_remontoir_line_ends)] }
def LineWiderSaid : Prop := lineWiderRow.holds Tryd.pinned (OpenSpec.ofChange lineWiderSpec)

/-- ITS FALSE NEIGHBOUR: 'it returns false'. Refute it at one input. -/
def lineWiderWrong : ChangeSpec := { name := "lineWider", fn := fun _ => fun
  | [d1, d2, d3] => { results := [.lit (.bool false)], args := [d1, d2, d3] }
  | _ => none }
def LineWiderWrongFalsely : Prop := lineWiderRow.holds Tryd.pinned (OpenSpec.ofChange lineWiderWrong)

/-- 'remontoirlaw06.LineCut': WHATEVER THE INPUT: true; the input reads as it did. -/
def lineCutSpec : ChangeSpec := { name := "lineCut", fn := fun _ => fun
  | [d1, d2] => { results := [.lit (.bool true)], args := [d1, d2] }
  | _ => none }
def lineCutRow : OpenClaim := { program := "ythdbokigcfbgeaadoor", sum := "d38acbdddeca16d3d2ab43ae8a248aad68931ff60b9707d628f254938baf058e", func := "remontoir/remontoirlaw06.LineCut", spec := "lineCut", unfollowed := true, recurses := true, named := ["remontoir/line.ends"], plainKeys := false, apart := false, laid := [("remontoir/line.ends", laid_remontoir_line_ends)] }
def LineCutSaid : Prop := lineCutRow.holds Tryd.pinned (OpenSpec.ofChange lineCutSpec)

/-- ITS FALSE NEIGHBOUR: 'it returns false'. Refute it at one input. -/
def lineCutWrong : ChangeSpec := { name := "lineCut", fn := fun _ => fun
  | [d1, d2] => { results := [.lit (.bool false)], args := [d1, d2] }
  | _ => none }
def LineCutWrongFalsely : Prop := lineCutRow.holds Tryd.pinned (OpenSpec.ofChange lineCutWrong)

/-- 'remontoirlaw06.LineLeft': WHATEVER THE INPUT: true; the input reads as it did. -/
def lineLeftSpec : ChangeSpec := { name := "lineLeft", fn := fun _ => fun
  | [d1, d2] => { results := [.lit (.bool true)], args := [d1, d2] }
  | _ => none }
def lineLeftRow : OpenClaim := { program := "ythdbokigcfbgeaadoor", sum := "d38acbdddeca16d3d2ab43ae8a248aad68931ff60b9707d628f254938baf058e", func := "remontoir/remontoirlaw06.LineLeft", spec := "lineLeft", unfollowed := true, recurses := true, named := ["remontoir/line.ends"], plainKeys := false, apart := false, laid := [("remontoir/line.ends", laid_remontoir_line_ends)] }
def LineLeftSaid : Prop := lineLeftRow.holds Tryd.pinned (OpenSpec.ofChange lineLeftSpec)

/-- ITS FALSE NEIGHBOUR: 'it returns false'. Refute it at one input. -/
def lineLeftWrong : ChangeSpec := { name := "lineLeft", fn := fun _ => fun
  | [d1, d2] => { results := [.lit (.bool false)], args := [d1, d2] }
  | _ => none }
def LineLeftWrongFalsely : Prop := lineLeftRow.holds Tryd.pinned (OpenSpec.ofChange lineLeftWrong)

/-- 'remontoirlaw06.LineTurned': WHATEVER THE INPUT: true; the input reads as it did. -/
def lineTurnedSpec : ChangeSpec := { name := "lineTurned", fn := fun _ => fun
  | [d1, d2] => { results := [.lit (.bool true)], args := [d1, d2] }
  | _ => none }
def lineTurnedRow : OpenClaim := { program := "ythdbokigcfbgeaadoor", sum := "d38acbdddeca16d3d2ab43ae8a248aad68931ff60b9707d628f254938baf058e", func := "remontoir/remontoirlaw06.LineTurned", spec := "lineTurned", unfollowed := true, recurses := true, named := ["remontoir/line.ends"], plainKeys := false, apart := false, laid := [("remontoir/line.ends", laid_remontoir_line_ends)] }
def LineTurnedSaid : Prop := lineTurnedRow.holds Tryd.pinned (OpenSpec.ofChange lineTurnedSpec)

/-- ITS FALSE NEIGHBOUR: 'it returns false'. Refute it at one input. -/
def lineTurnedWrong : ChangeSpec := { name := "lineTurned", fn := fun _ => fun
  | [d1, d2] => { results := [.lit (.bool false)], args := [d1, d2] }
  | _ => none }
def LineTurnedWrongFalsely : Prop := lineTurnedRow.holds Tryd.pinned (OpenSpec.ofChange lineTurnedWrong)

/-- 'remontoirlaw06.LineKnown': WHATEVER THE INPUT: true; the input reads as it did. -/
def lineKnownSpec : ChangeSpec := { name := "lineKnown", fn := fun _ => fun
  | [] => { results := [.lit (.bool true)], args := [] }
  | _ => none }
def lineKnownRow : OpenClaim := { program := "ythdbokigcfbgeaadoor", sum := "d38acbdddeca16d3d2ab43ae8a248aad68931ff60b9707d628f254938baf058e", func := "remontoir/remontoirlaw06.LineKnown", spec := "lineKnown", unfollowed := true, recurses := true, named := ["remontoir/line.ends"], plainKeys := false, apart := false, laid := [("remontoir/line.ends", laid_remontoir_line_ends)] }
def LineKnownSaid : Prop := lineKnownRow.holds Tryd.pinned (OpenSpec.ofChange lineKnownSpec)

/-- ITS FALSE NEIGHBOUR: 'it returns false'. Refute it at one input. -/
def lineKnownWrong : ChangeSpec := { name := "lineKnown", fn := fun _ => fun
  | [] => { results := [.lit (.bool false)], args := [] }
  | _ => none }
def LineKnownWrongFalsely : Prop := lineKnownRow.holds Tryd.pinned (OpenSpec.ofChange lineKnownWrong)

/- THE SECOND FORM. 'bulk': how many values and letters a reading holds, each counted each time it is reached (what is shared counts as often as it is met; a slice's spare places count too). A statement '..UptoSaid' is the law's where the arguments, and the package variables that the reading takes, are together of bulk at most 1048576: NARROWER than '..Said'. Prove '..Said' where nothing that the law and all that it calls make is longer than what came in: it says more and counts as full. Else prove '..UptoSaid'. A law counts once. -/
mutual
def uptoBulk {H : Type} : DataW H → Nat
  | .lit (.string bytes) => bytes.length + 1
  | .lit _ => 1
  | .nil => 1
  | .ptr d => uptoBulk d + 1
  | .slice elems spare => uptoBulkAll elems + uptoBulkAll spare + 1
  | .agg parts => uptoBulkAll parts + 1
  | .iface _ d => uptoBulk d + 1
  | .map entries => uptoBulkEntries entries + 1
  | .held _ => 1
def uptoBulkAll {H : Type} : List (DataW H) → Nat
  | [] => 0
  | d :: r => uptoBulk d + uptoBulkAll r
def uptoBulkEntries {H : Type} : List (Lit × DataW H) → Nat
  | [] => 0
  | x :: r => uptoBulkEntry x + uptoBulkEntries r
def uptoBulkEntry {H : Type} : Lit × DataW H → Nat
  | (.string bytes, d) => bytes.length + uptoBulk d + 1
  | (_, d) => uptoBulk d + 1
 end
def uptoSmall : (H : Type) → List (DataW H) → Bool := fun _ ds => decide (uptoBulkAll ds ≤ 1048576)
def OpenSpec.upto (s : _root_.Go.ChangeSpec) : _root_.Go.OpenSpec := { _root_.Go.OpenSpec.ofChange s with cond := some uptoSmall }

/-- 'remontoirlaw06.LineRoutes', WHERE WHAT IT READS IS OF BULK AT MOST 1048576: true; the input reads as it did. -/
def lineRoutesUptoRow : OpenClaim := { program := "ythdbokigcfbgeaadoor", sum := "d38acbdddeca16d3d2ab43ae8a248aad68931ff60b9707d628f254938baf058e", func := "remontoir/remontoirlaw06.LineRoutes", spec := "lineRoutes", unfollowed := true, recurses := true, named := ["remontoir/line.ends"], plainKeys := false, apart := false, laid := [("remontoir/line.ends", laid_remontoir_line_ends)], narrowed := true }
def LineRoutesUptoSaid : Prop := lineRoutesUptoRow.holds Tryd.pinned (OpenSpec.upto lineRoutesSpec)

/-- 'remontoirlaw06.LineDelays', WHERE WHAT IT READS IS OF BULK AT MOST 1048576: true; the input reads as it did. -/
def lineDelaysUptoRow : OpenClaim := { program := "ythdbokigcfbgeaadoor", sum := "d38acbdddeca16d3d2ab43ae8a248aad68931ff60b9707d628f254938baf058e", func := "remontoir/remontoirlaw06.LineDelays", spec := "lineDelays", unfollowed := true, recurses := true, named := ["remontoir/line.ends"], plainKeys := false, apart := false, laid := [("remontoir/line.ends", laid_remontoir_line_ends)], narrowed := true }
def LineDelaysUptoSaid : Prop := lineDelaysUptoRow.holds Tryd.pinned (OpenSpec.upto lineDelaysSpec)

/-- 'remontoirlaw06.LineCuts', WHERE WHAT IT READS IS OF BULK AT MOST 1048576: true; the input reads as it did. -/
def lineCutsUptoRow : OpenClaim := { program := "ythdbokigcfbgeaadoor", sum := "d38acbdddeca16d3d2ab43ae8a248aad68931ff60b9707d628f254938baf058e", func := "remontoir/remontoirlaw06.LineCuts", spec := "lineCuts", unfollowed := true, recurses := true, named := ["remontoir/line.ends"], plainKeys := false, apart := false, laid := [("remontoir/line.ends", laid_remontoir_line_ends)], narrowed := true }
def LineCutsUptoSaid : Prop := lineCutsUptoRow.holds Tryd.pinned (OpenSpec.upto lineCutsSpec)

/-- 'remontoirlaw06.LineTrue', WHERE WHAT IT READS IS OF BULK AT MOST 1048576: true; the input reads as it did. -/
def lineTrueUptoRow : OpenClaim := { program := "ythdbokigcfbgeaadoor", sum := "d38acbdddeca16d3d2ab43ae8a248aad68931ff60b9707d628f254938baf058e", func := "remontoir/remontoirlaw06.LineTrue", spec := "lineTrue", unfollowed := true, recurses := true, named := ["remontoir/line.ends"], plainKeys := false, apart := false, laid := [("remontoir/line.ends", laid_remontoir_line_ends)], narrowed := true }
def LineTrueUptoSaid : Prop := lineTrueUptoRow.holds Tryd.pinned (OpenSpec.upto lineTrueSpec)

/-- 'remontoirlaw06.LineEnds', WHERE WHAT IT READS IS OF BULK AT MOST 1048576: true; the input reads as it did. -/
def lineEndsUptoRow : OpenClaim := { program := "ythdbokigcfbgeaadoor", sum := "d38acbdddeca16d3d2ab43ae8a248aad68931ff60b9707d628f254938baf058e", func := "remontoir/remontoirlaw06.LineEnds", spec := "lineEnds", unfollowed := true, recurses := true, named := ["remontoir/line.ends"], plainKeys := false, apart := false, laid := [("remontoir/line.ends", laid_remontoir_line_ends)], narrowed := true }
def LineEndsUptoSaid : Prop := lineEndsUptoRow.holds Tryd.pinned (OpenSpec.upto lineEndsSpec)

/-- 'remontoirlaw06.LineListed', WHERE WHAT IT READS IS OF BULK AT MOST 1048576: true; the input reads as it did. -/
def lineListedUptoRow : OpenClaim := { program := "ythdbokigcfbgeaadoor", sum := "d38acbdddeca16d3d2ab43ae8a248aad68931ff60b9707d628f254938baf058e", func := "remontoir/remontoirlaw06.LineListed", spec := "lineListed", unfollowed := true, recurses := true, named := ["remontoir/line.ends"], plainKeys := false, apart := false, laid := [("remontoir/line.ends", laid_remontoir_line_ends)], narrowed := true }
def LineListedUptoSaid : Prop := lineListedUptoRow.holds Tryd.pinned (OpenSpec.upto lineListedSpec)

/-- 'remontoirlaw06.LineMore', WHERE WHAT IT READS IS OF BULK AT MOST 1048576: true; the input reads as it did. -/
def lineMoreUptoRow : OpenClaim := { program := "ythdbokigcfbgeaadoor", sum := "d38acbdddeca16d3d2ab43ae8a248aad68931ff60b9707d628f254938baf058e", func := "remontoir/remontoirlaw06.LineMore", spec := "lineMore", unfollowed := true, recurses := true, named := ["remontoir/line.ends"], plainKeys := false, apart := false, laid := [("remontoir/line.ends", laid_remontoir_line_ends)], narrowed := true }
def LineMoreUptoSaid : Prop := lineMoreUptoRow.holds Tryd.pinned (OpenSpec.upto lineMoreSpec)

/-- 'remontoirlaw06.LineWider', WHERE WHAT IT READS IS OF BULK AT MOST 1048576: true; the input reads as it did. -/
def lineWiderUptoRow : OpenClaim := { program := "ythdbokigcfbgeaadoor", sum := "d38acbdddeca16d3d2ab43ae8a248aad68931ff60b9707d628f254938baf058e", func := "remontoir/remontoirlaw06.LineWider", spec := "lineWider", unfollowed := true, recurses := true, named := ["remontoir/line.ends"], plainKeys := false, apart := false, laid := [("remontoir/line.ends", laid_remontoir_line_ends)], narrowed := true }
def LineWiderUptoSaid : Prop := lineWiderUptoRow.holds Tryd.pinned (OpenSpec.upto lineWiderSpec)

/-- 'remontoirlaw06.LineCut', WHERE WHAT IT READS IS OF BULK AT MOST 1048576: true; the input reads as it did. -/
def lineCutUptoRow : OpenClaim := { program := "ythdbokigcfbgeaadoor", sum := "d38acbdddeca16d3d2ab43ae8a248aad68931ff60b9707d628f254938baf058e", func := "remontoir/remontoirlaw06.LineCut", spec := "lineCut", unfollowed := true, recurses := true, named := ["remontoir/line.ends"], plainKeys := false, apart := false, laid := [("remontoir/line.ends", laid_remontoir_line_ends)], narrowed := true }
def LineCutUptoSaid : Prop := lineCutUptoRow.holds Tryd.pinned (OpenSpec.upto lineCutSpec)

/-- 'remontoirlaw06.LineLeft', WHERE WHAT IT READS IS OF BULK AT MOST 1048576: true; the input reads as it did. -/
def lineLeftUptoRow : OpenClaim := { program := "ythdbokigcfbgeaadoor", sum := "d38acbdddeca16d3d2ab43ae8a248aad68931ff60b9707d628f254938baf058e", func := "remontoir/remontoirlaw06.LineLeft", spec := "lineLeft", unfollowed := true, recurses := true, named := ["remontoir/line.ends"], plainKeys := false, apart := false, laid := [("remontoir/line.ends", laid_remontoir_line_ends)], narrowed := true }
def LineLeftUptoSaid : Prop := lineLeftUptoRow.holds Tryd.pinned (OpenSpec.upto lineLeftSpec)

/-- 'remontoirlaw06.LineTurned', WHERE WHAT IT READS IS OF BULK AT MOST 1048576: true; the input reads as it did. -/
def lineTurnedUptoRow : OpenClaim := { program := "ythdbokigcfbgeaadoor", sum := "d38acbdddeca16d3d2ab43ae8a248aad68931ff60b9707d628f254938baf058e", func := "remontoir/remontoirlaw06.LineTurned", spec := "lineTurned", unfollowed := true, recurses := true, named := ["remontoir/line.ends"], plainKeys := false, apart := false, laid := [("remontoir/line.ends", laid_remontoir_line_ends)], narrowed := true }
def LineTurnedUptoSaid : Prop := lineTurnedUptoRow.holds Tryd.pinned (OpenSpec.upto lineTurnedSpec)

/-- 'remontoirlaw06.LineKnown', WHERE WHAT IT READS IS OF BULK AT MOST 1048576: true; the input reads as it did. -/
def lineKnownUptoRow : OpenClaim := { program := "ythdbokigcfbgeaadoor", sum := "d38acbdddeca16d3d2ab43ae8a248aad68931ff60b9707d628f254938baf058e", func := "remontoir/remontoirlaw06.LineKnown", spec := "lineKnown", unfollowed := true, recurses := true, named := ["remontoir/line.ends"], plainKeys := false, apart := false, laid := [("remontoir/line.ends", laid_remontoir_line_ends)], narrowed := true }
def LineKnownUptoSaid : Prop := lineKnownUptoRow.holds Tryd.pinned (OpenSpec.upto lineKnownSpec)

end Rows
end Go.Proofs.YthdbokigcfbgeaaDoor
