/-
  NARROWER THAN 'FOR EVERY INPUT', by the rows' own cells (each row's printed sentence says how): TopCompared: laid.
  DERIVED. THE GIVEN ROWS OF THIS SEAT. 1 by the template 'for every input the law returns true; each argument reads behind the call as it read before'; 0 by the template 'total and deterministic' (their statements: YtgdfljiliflhfaaGreatDoorTotals.lean).
  GIVEN WITH THE SEED: the statements are not yours to turn. If you find one false, say at which input.
  Laid BY PROGRAM, IN A SANDBOX (cutbox-rows.mjs): the forced cells as the released guide's own fill.sh prints them over the translation cf27e4bacc5d1e1c… (all of the seat's roots in one cut). By AI agents, Wed Nov 11 2026. No macro, syntax, notation, axiom, sorry.
-/
import Derived.Test.YtgdfljiliflhfaaGreatDoorChecked
import GoSem.Claim
import GoSem.ClaimJoined
import GoSem.ClaimMapViews
import Derived.JoinedTies
import Derived.KernelRfl
namespace Go.Proofs.YtgdfljiliflhfaaGreatDoor
/- THE CELL 'sum', in the pinned program and in every row, IS THE sha256 OF THE DUMP (.gsa) THAT YtgdfljiliflhfaaGreatDoorProg.lean LOADS. Nothing in Lean hashes anything: it is a label: what it is worth is what the hold of that sum in a sandbox is worth. -/
noncomputable def Tryz.pinned : Pinned := { name := "ytgdfljiliflhfaagreatdoor", sum := "cf27e4bacc5d1e1ca23b5a25d3d24c04402591207c092ad32d946b441f8c4db1", checked := Tryz.checked }
namespace Rows
def none {H : Type} : Left H := { results := [], args := [] }

/- WHAT THE LISTED PACKAGE-LEVEL VARIABLES READ AS WHEN THE CALL BEGINS. Each datum BY PROGRAM (the guide's laid-datum.mjs) off the statement by which the dump's own 'gosem.cut.vars' lays the variable. In a bare row this is a premise. The card (YtgdfljiliflhfaaGreatDoorCards.lean) ties it to the program's text. -/
def laid_remontoir_beat_kinds {H : Type} : DataW H := .iface "func table" (.agg [.iface "func" (.lit (.string [40, 114, 101, 109, 111, 110, 116, 111, 105, 114, 47, 98, 101, 97, 116, 46, 99, 101, 108, 108, 97, 114, 41, 46, 103, 114, 111, 119, 115])), .iface "func" (.lit (.string [40, 114, 101, 109, 111, 110, 116, 111, 105, 114, 47, 98, 101, 97, 116, 46, 99, 101, 108, 108, 97, 114, 41, 46, 114, 101, 97, 100, 115])), .iface "func" (.lit (.string [40, 114, 101, 109, 111, 110, 116, 111, 105, 114, 47, 98, 101, 97, 116, 46, 99, 101, 108, 108, 97, 114, 41, 46, 104, 111, 108, 100, 115]))])
def laid_remontoir_line_ends {H : Type} : DataW H := .iface "func table" (.agg [.iface "func" (.lit (.string [40, 114, 101, 109, 111, 110, 116, 111, 105, 114, 47, 108, 105, 110, 101, 46, 110, 101, 116, 41, 46, 98, 101, 103, 105, 110])), .iface "func" (.lit (.string [40, 114, 101, 109, 111, 110, 116, 111, 105, 114, 47, 108, 105, 110, 101, 46, 110, 101, 116, 41, 46, 101, 110, 100]))])

/-- 'remontoirtop.TopCompared': WHATEVER THE INPUT: true; the input reads as it did. -/
def topComparedSpec : ChangeSpec := { name := "topCompared", fn := fun _ => fun
  | [d1, d2, d3, d4] => { results := [.lit (.bool true)], args := [d1, d2, d3, d4] }
  | _ => none }
def topComparedRow : OpenClaim := { program := "ytgdfljiliflhfaagreatdoor", sum := "cf27e4bacc5d1e1ca23b5a25d3d24c04402591207c092ad32d946b441f8c4db1", func := "remontoir/remontoirtop.TopCompared", spec := "topCompared", unfollowed := true, recurses := true, named := ["remontoir/line.ends", "remontoir/beat.kinds"], plainKeys := false, apart := false, laid := [("remontoir/beat.kinds", laid_remontoir_beat_kinds), ("remontoir/line.ends", laid_remontoir_line_ends)] }
def TopComparedSaid : Prop := topComparedRow.holds Tryz.pinned (OpenSpec.ofChange topComparedSpec)

/-- ITS FALSE NEIGHBOUR: 'it returns false'. Refute it at one input. -/
def topComparedWrong : ChangeSpec := { name := "topCompared", fn := fun _ => fun
  | [d1, d2, d3, d4] => { results := [.lit (.bool false)], args := [d1, d2, d3, d4] }
  | _ => none }
def TopComparedWrongFalsely : Prop := topComparedRow.holds Tryz.pinned (OpenSpec.ofChange topComparedWrong)

/- THE SECOND FORM. 'bulk': how many values and letters a reading holds, each counted each time it is reached (what is shared counts as often as it is met; a slice's spare places count too). A statement '..UptoSaid' is the law's where the arguments, and the package variables that the reading takes, are together of bulk at most 1048576: NARROWER than '..Said'. Prove '..Said' where nothing that the law and all that it calls make is longer than what came in: it says more and counts as full. Else prove '..UptoSaid'. A law counts once. -/
mutual
def uptoBulk {H : Type} : DataW H → Nat
  | .lit (.string bytes) => bytes.length + 1
  | .lit _ => 1
  | .nil => 1
  | .ptr d => uptoBulk d + 1
  | .slice elems spare => uptoBulkAll elems + uptoBulkAll spare + 1
  | .agg parts => uptoBulkAll parts + 1
  | .iface _ d => uptoBulk d + 1
  | .map entries => uptoBulkEntries entries + 1
  | .held _ => 1
def uptoBulkAll {H : Type} : List (DataW H) → Nat
  | [] => 0
  | d :: r => uptoBulk d + uptoBulkAll r
def uptoBulkEntries {H : Type} : List (Lit × DataW H) → Nat
  | [] => 0
  | x :: r => uptoBulkEntry x + uptoBulkEntries r
def uptoBulkEntry {H : Type} : Lit × DataW H → Nat
  | (.string bytes, d) => bytes.length + uptoBulk d + 1
  | (_, d) => uptoBulk d + 1
 end
def uptoSmall : (H : Type) → List (DataW H) → Bool := fun _ ds => decide (uptoBulkAll ds ≤ 1048576)
def OpenSpec.upto (s : _root_.Go.ChangeSpec) : _root_.Go.OpenSpec := { _root_.Go.OpenSpec.ofChange s with cond := some uptoSmall }

/-- 'remontoirtop.TopCompared', WHERE WHAT IT READS IS OF BULK AT MOST 1048576: true; the input reads as it did. -/
def topComparedUptoRow : OpenClaim := { program := "ytgdfljiliflhfaagreatdoor", sum := "cf27e4bacc5d1e1ca23b5a25d3d24c04402591207c092ad32d946b441f8c4db1", func := "remontoir/remontoirtop.TopCompared", spec := "topCompared", unfollowed := true, recurses := true, named := ["remontoir/line.ends", "remontoir/beat.kinds"], plainKeys := false, apart := false, laid := [("remontoir/beat.kinds", laid_remontoir_beat_kinds), ("remontoir/line.ends", laid_remontoir_line_ends)], narrowed := true }
def TopComparedUptoSaid : Prop := topComparedUptoRow.holds Tryz.pinned (OpenSpec.upto topComparedSpec)

end Rows
end Go.Proofs.YtgdfljiliflhfaaGreatDoor
