/-
  NARROWER THAN 'FOR EVERY INPUT', by the rows' own cells (each row's printed sentence says how): SlaveCans: laid · SlaveStories: laid · SlaveWrongs: laid · SlaveSets: laid · SlaveShows: laid · SlaveEach: laid · SlaveNone: laid · SlaveTwo: laid · SlaveMore: laid · SlaveLeft: laid · SlaveRight: laid · SlaveHomed: laid · SlaveKnown: laid.
  DERIVED. THE GIVEN ROWS OF THIS SEAT. 13 by the template 'for every input the law returns true; each argument reads behind the call as it read before'; 0 by the template 'total and deterministic' (their statements: YtmbgmefmkjeahaaDoorTotals.lean).
  GIVEN WITH THE SEED: the statements are not yours to turn. If you find one false, say at which input.
  Laid BY PROGRAM, IN A SANDBOX (cutbox-rows.mjs): the forced cells as the released guide's own fill.sh prints them over the translation 09ab399b11458175… (all of the seat's roots in one cut). By AI agents, Wed Nov 11 2026. No macro, syntax, notation, axiom, sorry.
-/
import Derived.Test.YtmbgmefmkjeahaaDoorChecked
import GoSem.Claim
import GoSem.ClaimJoined
import GoSem.ClaimMapViews
import Derived.JoinedTies
import Derived.KernelRfl
namespace Go.Proofs.YtmbgmefmkjeahaaDoor
/- THE CELL 'sum', in the pinned program and in every row, IS THE sha256 OF THE DUMP (.gsa) THAT YtmbgmefmkjeahaaDoorProg.lean LOADS. Nothing in Lean hashes anything: it is a label: what it is worth is what the hold of that sum in a sandbox is worth. -/
noncomputable def Tryd.pinned : Pinned := { name := "ytmbgmefmkjeahaadoor", sum := "09ab399b1145817551a0f14f7d05c973ec24e35cb1c4b941aec2eb95ad5f1f2b", checked := Tryd.checked }
namespace Rows
def none {H : Type} : Left H := { results := [], args := [] }

/- WHAT THE LISTED PACKAGE-LEVEL VARIABLES READ AS WHEN THE CALL BEGINS. Each datum BY PROGRAM (the guide's laid-datum.mjs) off the statement by which the dump's own 'gosem.cut.vars' lays the variable. In a bare row this is a premise. The card (YtmbgmefmkjeahaaDoorCards.lean) ties it to the program's text. -/
def laid_remontoir_slave_signs {H : Type} : DataW H := .iface "func table" (.agg [.iface "func" (.lit (.string [40, 114, 101, 109, 111, 110, 116, 111, 105, 114, 47, 115, 108, 97, 118, 101, 46, 108, 105, 110, 101, 41, 46, 115, 101, 110, 116])), .iface "func" (.lit (.string [40, 114, 101, 109, 111, 110, 116, 111, 105, 114, 47, 115, 108, 97, 118, 101, 46, 108, 105, 110, 101, 41, 46, 104, 111, 109, 101, 115]))])

/-- 'remontoirlaw07.SlaveCans': WHATEVER THE INPUT: true; the input reads as it did. -/
def slaveCansSpec : ChangeSpec := { name := "slaveCans", fn := fun _ => fun
  | [d1, d2] => { results := [.lit (.bool true)], args := [d1, d2] }
  | _ => none }
def slaveCansRow : OpenClaim := { program := "ytmbgmefmkjeahaadoor", sum := "09ab399b1145817551a0f14f7d05c973ec24e35cb1c4b941aec2eb95ad5f1f2b", func := "remontoir/remontoirlaw07.SlaveCans", spec := "slaveCans", unfollowed := true, recurses := true, named := ["remontoir/slave.signs"], plainKeys := false, apart := false, laid := [("remontoir/slave.signs", laid_remontoir_slave_signs)] }
def SlaveCansSaid : Prop := slaveCansRow.holds Tryd.pinned (OpenSpec.ofChange slaveCansSpec)

/-- ITS FALSE NEIGHBOUR: 'it returns false'. Refute it at one input. -/
def slaveCansWrong : ChangeSpec := { name := "slaveCans", fn := fun _ => fun
  | [d1, d2] => { results := [.lit (.bool false)], args := [d1, d2] }
  | _ => none }
def SlaveCansWrongFalsely : Prop := slaveCansRow.holds Tryd.pinned (OpenSpec.ofChange slaveCansWrong)

/-- 'remontoirlaw07.SlaveStories': WHATEVER THE INPUT: true; the input reads as it did. -/
def slaveStoriesSpec : ChangeSpec := { name := "slaveStories", fn := fun _ => fun
  | [d1, d2, d3] => { results := [.lit (.bool true)], args := [d1, d2, d3] }
  | _ => none }
def slaveStoriesRow : OpenClaim := { program := "ytmbgmefmkjeahaadoor", sum := "09ab399b1145817551a0f14f7d05c973ec24e35cb1c4b941aec2eb95ad5f1f2b", func := "remontoir/remontoirlaw07.SlaveStories", spec := "slaveStories", unfollowed := true, recurses := true, named := ["remontoir/slave.signs"], plainKeys := false, apart := false, laid := [("remontoir/slave.signs", laid_remontoir_slave_signs)] }
def SlaveStoriesSaid : Prop := slaveStoriesRow.holds Tryd.pinned (OpenSpec.ofChange slaveStoriesSpec)

/-- ITS FALSE NEIGHBOUR: 'it returns false'. Refute it at one input. -/
def slaveStoriesWrong : ChangeSpec := { name := "slaveStories", fn := fun _ => fun
  | [d1, d2, d3] => { results := [.lit (.bool false)], args := [d1, d2, d3] }
  | _ => none }
def SlaveStoriesWrongFalsely : Prop := slaveStoriesRow.holds Tryd.pinned (OpenSpec.ofChange slaveStoriesWrong)

/-- 'remontoirlaw07.SlaveWrongs': WHATEVER THE INPUT: true; the input reads as it did. -/
def slaveWrongsSpec : ChangeSpec := { name := "slaveWrongs", fn := fun _ => fun
  | [d1, d2] => { results := [.lit (.bool true)], args := [d1, d2] }
  | _ => none }
def slaveWrongsRow : OpenClaim := { program := "ytmbgmefmkjeahaadoor", sum := "09ab399b1145817551a0f14f7d05c973ec24e35cb1c4b941aec2eb95ad5f1f2b", func := "remontoir/remontoirlaw07.SlaveWrongs", spec := "slaveWrongs", unfollowed := true, recurses := true, named := ["remontoir/slave.signs"], plainKeys := false, apart := false, laid := [("remontoir/slave.signs", laid_remontoir_slave_signs)] }
def SlaveWrongsSaid : Prop := slaveWrongsRow.holds Tryd.pinned (OpenSpec.ofChange slaveWrongsSpec)

/-- ITS FALSE NEIGHBOUR: 'it returns false'. Refute it at one input. -/
def slaveWrongsWrong : ChangeSpec := { name := "slaveWrongs", fn := fun _ => fun
  | [d1, d2] => { results := [.lit (.bool false)], args := [d1, d2] }
  | _ => none }
def SlaveWrongsWrongFalsely : Prop := slaveWrongsRow.holds Tryd.pinned (OpenSpec.ofChange slaveWrongsWrong)

/-- 'remontoirlaw07.SlaveSets': WHATEVER THE INPUT: true; the input reads as it did. -/
def slaveSetsSpec : ChangeSpec := { name := "slaveSets", fn := fun _ => fun
  | [d1, d2, d3] => { results := [.lit (.bool true)], args := [d1, d2, d3] }
  | _ => none }
def slaveSetsRow : OpenClaim := { program := "ytmbgmefmkjeahaadoor", sum := "09ab399b1145817551a0f14f7d05c973ec24e35cb1c4b941aec2eb95ad5f1f2b", func := "remontoir/remontoirlaw07.SlaveSets", spec := "slaveSets", unfollowed := true, recurses := true, named := ["remontoir/slave.signs"], plainKeys := false, apart := false, laid := [("remontoir/slave.signs", laid_remontoir_slave_signs)] }
def SlaveSetsSaid : Prop := slaveSetsRow.holds Tryd.pinned (OpenSpec.ofChange slaveSetsSpec)

/-- ITS FALSE NEIGHBOUR: 'it returns false'. Refute it at one input. -/
def slaveSetsWrong : ChangeSpec := { name := "slaveSets", fn := fun _ => fun
  | [d1, d2, d3] => { results := [.lit (.bool false)], args := [d1, d2, d3] }
  | _ => none }
def SlaveSetsWrongFalsely : Prop := slaveSetsRow.holds Tryd.pinned (OpenSpec.ofChange slaveSetsWrong)

/-- 'remontoirlaw07.SlaveShows': WHATEVER THE INPUT: true; the input reads as it did. -/
def slaveShowsSpec : ChangeSpec := { name := "slaveShows", fn := fun _ => fun
  | [d1, d2, d3] => { results := [.lit (.bool true)], args := [d1, d2, d3] }
  | _ => none }
def slaveShowsRow : OpenClaim := { program := "ytmbgmefmkjeahaadoor", sum := "09ab399b1145817551a0f14f7d05c973ec24e35cb1c4b941aec2eb95ad5f1f2b", func := "remontoir/remontoirlaw07.SlaveShows", spec := "slaveShows", unfollowed := true, recurses := true, named := ["remontoir/slave.signs"], plainKeys := false, apart := false, laid := [("remontoir/slave.signs", laid_remontoir_slave_signs)] }
def SlaveShowsSaid : Prop := slaveShowsRow.holds Tryd.pinned (OpenSpec.ofChange slaveShowsSpec)

/-- ITS FALSE NEIGHBOUR: 'it returns false'. Refute it at one input. -/
def slaveShowsWrong : ChangeSpec := { name := "slaveShows", fn := fun _ => fun
  | [d1, d2, d3] => { results := [.lit (.bool false)], args := [d1, d2, d3] }
  | _ => none }
def SlaveShowsWrongFalsely : Prop := slaveShowsRow.holds Tryd.pinned (OpenSpec.ofChange slaveShowsWrong)

/-- 'remontoirlaw07.SlaveEach': WHATEVER THE INPUT: true; the input reads as it did. -/
def slaveEachSpec : ChangeSpec := { name := "slaveEach", fn := fun _ => fun
  | [d1, d2] => { results := [.lit (.bool true)], args := [d1, d2] }
  | _ => none }
def slaveEachRow : OpenClaim := { program := "ytmbgmefmkjeahaadoor", sum := "09ab399b1145817551a0f14f7d05c973ec24e35cb1c4b941aec2eb95ad5f1f2b", func := "remontoir/remontoirlaw07.SlaveEach", spec := "slaveEach", unfollowed := true, recurses := true, named := ["remontoir/slave.signs"], plainKeys := false, apart := false, laid := [("remontoir/slave.signs", laid_remontoir_slave_signs)] }
def SlaveEachSaid : Prop := slaveEachRow.holds Tryd.pinned (OpenSpec.ofChange slaveEachSpec)

/-- ITS FALSE NEIGHBOUR: 'it returns false'. Refute it at one input. -/
def slaveEachWrong : ChangeSpec := { name := "slaveEach", fn := fun _ => fun
  | [d1, d2] => { results := [.lit (.bool false)], args := [d1, d2] }
  | _ => none }
def SlaveEachWrongFalsely : Prop := slaveEachRow.holds Tryd.pinned (OpenSpec.ofChange slaveEachWrong)

/-- 'remontoirlaw07.SlaveNone': WHATEVER THE INPUT: true; the input reads as it did. -/
def slaveNoneSpec : ChangeSpec := { name := "slaveNone", fn := fun _ => fun
  | [d1, d2, d3] => { results := [.lit (.bool true)], args := [d1, d2, d3] }
  | _ => none }
def slaveNoneRow : OpenClaim := { program := "ytmbgmefmkjeahaadoor", sum := "09ab399b1145817551a0f14f7d05c973ec24e35cb1c4b941aec2eb95ad5f1f2b", func := "remontoir/remontoirlaw07.SlaveNone", spec := "slaveNone", unfollowed := true, recurses := true, named := ["remontoir/slave.signs"], plainKeys := false, apart := false, laid := [("remontoir/slave.signs", laid_remontoir_slave_signs)] }
def SlaveNoneSaid : Prop := slaveNoneRow.holds Tryd.pinned (OpenSpec.ofChange slaveNoneSpec)

/-- ITS FALSE NEIGHBOUR: 'it returns false'. Refute it at one input. -/
def slaveNoneWrong : ChangeSpec := { name := "slaveNone", fn := fun _ => fun
  | [d1, d2, d3] => { results := [.lit (.bool false)], args := [d1, d2, d3] }
  | _ => none }
def SlaveNoneWrongFalsely : Prop := slaveNoneRow.holds Tryd.pinned (OpenSpec.ofChange slaveNoneWrong)

/-- 'remontoirlaw07.SlaveTwo': WHATEVER THE INPUT: true; the input reads as it did. -/
def slaveTwoSpec : ChangeSpec := { name := "slaveTwo", fn := fun _ => fun
  | [d1, d2, d3] => { results := [.lit (.bool true)], args := [d1, d2, d3] }
  | _ => none }
def slaveTwoRow : OpenClaim := { program := "ytmbgmefmkjeahaadoor", sum := "09ab399b1145817551a0f14f7d05c973ec24e35cb1c4b941aec2eb95ad5f1f2b", func := "remontoir/remontoirlaw07.SlaveTwo", spec := "slaveTwo", unfollowed := true, recurses := true, named := ["remontoir/slave.signs"], plainKeys := false, apart := false, laid := [("remontoir/slave.signs", laid_remontoir_slave_signs)] }
def SlaveTwoSaid : Prop := slaveTwoRow.holds Tryd.pinned (OpenSpec.ofChange slaveTwoSpec)

/-- ITS FALSE NEIGHBOUR: 'it returns false'. Refute it at one input. -/
def slaveTwoWrong : ChangeSpec := { name := "slaveTwo", fn := fun _ => fun
  | [d1, d2, d3] => { results := [.lit (.bool false)], args := [d1, d2, d3] }
  | _ => none }
def SlaveTwoWrongFalsely : Prop := slaveTwoRow.holds Tryd.pinned (OpenSpec.ofChange slaveTwoWrong)

/-- 'remontoirlaw07.SlaveMore': WHATEVER THE INPUT: true; the input reads as it did. -/
def slaveMoreSpec : ChangeSpec := { name := "slaveMore", fn := fun _ => fun
  | [d1, d2, d3] => { results := [.lit (.bool true)], args := [d1, d2, d3] }
  | _ => none }
def slaveMoreRow : OpenClaim := { program := "ytmbgmefmkjeahaadoor", sum := "09ab399b1145817551a0f14f7d05c973ec24e35cb1c4b941aec2eb95ad5f1f2b", func := "remontoir/remontoirlaw07.SlaveMore", spec := "slaveMore", unfollowed := true, recurses := true, named := ["remontoir/slave.signs"], plainKeys := false, apart := false, laid := [("remontoir/slave.signs", laid_remontoir_slave_signs)] }
def SlaveMoreSaid : Prop := slaveMoreRow.holds Tryd.pinned (OpenSpec.ofChange slaveMoreSpec)

/-- ITS FALSE NEIGHBOUR: 'it returns false'. Refute it at one input. -/
def slaveMoreWrong : ChangeSpec := { name := "slaveMore", fn := fun _ => fun
  | [d1, d2, d3] => { results := [.lit (.bool false)], args := [d1, d2, d3] }
  | _ => none }
def SlaveMoreWrongFalsely : Prop := slaveMoreRow.holds Tryd.pinned (OpenSpec.ofChange slaveMoreWrong)

/-- 'remontoirlaw07.SlaveLeft': WHATEVER THE INPUT: true; the input reads as it did. -/
def slaveLeftSpec : ChangeSpec := { name := "slaveLeft", fn := fun _ => fun
  | [d1, d2] => { results := [.lit (.bool true)], args := [d1, d2] }
  | _ => none }
def slaveLeftRow : OpenClaim := { program := "ytmbgmefmkjeahaadoor", sum := "09ab399b1145817551a0f14f7d05c973ec24e35cb1c4b941aec2eb95ad5f1f2b", func := "remontoir/remontoirlaw07.SlaveLeft", spec := "slaveLeft", unfollowed := true, recurses := true, named := ["remontoir/slave.signs"], plainKeys := false, apart := false, laid := [("remontoir/slave.signs", laid_remontoir_slave_signs)] }
def SlaveLeftSaid : Prop := slaveLeftRow.holds Tryd.pinned (OpenSpec.ofChange slaveLeftSpec)

/-- ITS FALSE NEIGHBOUR: 'it returns false'. Refute it at one input. -/
def slaveLeftWrong : ChangeSpec := { name := "slaveLeft", fn := fun _ => fun
  | [d1, d2] => { results := [.lit (.bool false)], args := [d1, d2] }
  | _ => none }
def SlaveLeftWrongFalsely : Prop := slaveLeftRow.holds Tryd.pinned (OpenSpec.ofChange slaveLeftWrong)

/-- 'remontoirlaw07.SlaveRight': WHATEVER THE INPUT: true; the input reads as it did. -/
def slaveRightSpec : ChangeSpec := { name := "slaveRight", fn := fun _ => fun
  | [d1, d2, d3] => { results := [.lit (.bool true)], args := [d1, d2, d3] }
  | _ => none }
def slaveRightRow : OpenClaim := { program := "ytmbgmefmkjeahaadoor", sum := "09ab399b1145817551a0f14f7d05c973ec24e35cb1c4b941aec2eb95ad5f1f2b", func := "remontoir/remontoirlaw07.SlaveRight", spec := "slaveRight", unfollowed := true, recurses := true, named := ["remontoir/slave.signs"], plainKeys := false, apart := false, laid := [("remontoir/slave.signs", laid_remontoir_slave_signs)] }
def SlaveRightSaid : Prop := slaveRightRow.holds Tryd.pinned (OpenSpec.ofChange slaveRightSpec)

/-- ITS FALSE NEIGHBOUR: 'it returns false'. Refute it at one input. -/
def slaveRightWrong : ChangeSpec := { name := "slaveRight", fn := fun _ => fun
  | [d1, d2, d3] => { results := [.lit (.bool false)], args := [d1, d2, d3] }
  | _ => none }
def SlaveRightWrongFalsely : Prop := slaveRightRow.holds Tryd.pinned (OpenSpec.ofChange slaveRightWrong)

/-- 'remontoirlaw07.SlaveHomed': WHATEVER THE INPUT: true; the input reads as it did. -/
def slaveHomedSpec : ChangeSpec := { name := "slaveHomed", fn := fun _ => fun
  | [d1, d2] => { results := [.lit (.bool true)], args := [d1, d2] }
  | _ => none }
def slaveHomedRow : OpenClaim := { program := "ytmbgmefmkjeahaadoor", sum := "09ab399b1145817551a0f14f7d05c973ec24e35cb1c4b941aec2eb95ad5f1f2b", func := "remontoir/remontoirlaw07.SlaveHomed", spec := "slaveHomed", unfollowed := true, recurses := true, named := ["remontoir/slave.signs"], plainKeys := false, apart := false, laid := [("remontoir/slave.signs", laid_remontoir_slave_signs)] }
def SlaveHomedSaid : Prop := slaveHomedRow.holds Tryd.pinned (OpenSpec.ofChange slaveHomedSpec)

/-- ITS FALSE NEIGHBOUR: 'it returns false'. Refute it at one input. -/
def slaveHomedWrong : ChangeSpec := { name := "slaveHomed", fn := fun _ => fun
  | [d1, d2] => { results := [.lit (.bool false)], args := [d1, d2] }
  | _ => none }
def SlaveHomedWrongFalsely : Prop := slaveHomedRow.holds Tryd.pinned (OpenSpec.ofChange slaveHomedWrong)

/-- 'remontoirlaw07.SlaveKnown': WHATEVER THE INPUT: true; the input reads as it did. -/
def slaveKnownSpec : ChangeSpec := { name := "slaveKnown", fn := fun _ => fun
  | [] => { results := [.lit (.bool true)], args := [] }
  | _ => none }
def slaveKnownRow : OpenClaim := { program := "ytmbgmefmkjeahaadoor", sum := "09ab399b1145817551a0f14f7d05c973ec24e35cb1c4b941aec2eb95ad5f1f2b", func := "remontoir/remontoirlaw07.SlaveKnown", spec := "slaveKnown", unfollowed := true, recurses := true, named := ["remontoir/slave.signs"], plainKeys := false, apart := false, laid := [("remontoir/slave.signs", laid_remontoir_slave_signs)] }
def SlaveKnownSaid : Prop := slaveKnownRow.holds Tryd.pinned (OpenSpec.ofChange slaveKnownSpec)

/-- ITS FALSE NEIGHBOUR: 'it returns false'. Refute it at one input. -/
def slaveKnownWrong : ChangeSpec := { name := "slaveKnown", fn := fun _ => fun
  | [] => { results := [.lit (.bool false)], args := [] }
  | _ => none }
def SlaveKnownWrongFalsely : Prop := slaveKnownRow.holds Tryd.pinned (OpenSpec.ofChange slaveKnownWrong)

/- THE SECOND FORM. 'bulk': how many values and letters a reading holds, each counted each time it is reached (what is shared counts as often as it is met; a slice's spare places count too). A statement '..UptoSaid' is the law's where the arguments, and the package variables that the reading takes, are together of bulk at most 1048576: NARROWER than '..Said'. Prove '..Said' where nothing that the law and all that it calls make is longer than what came in: it says more and counts as full. Else prove '..UptoSaid'. A law counts once. -/
mutual
def uptoBulk {H : Type} : DataW H → Nat
  | .lit (.string bytes) => bytes.length + 1
  | .lit _ => 1
  | .nil => 1
  | .ptr d => uptoBulk d + 1
  | .slice elems spare => uptoBulkAll elems + uptoBulkAll spare + 1
  | .agg parts => uptoBulkAll parts + 1
  | .iface _ d => uptoBulk d + 1
  | .map entries => uptoBulkEntries entries + 1
  | .held _ => 1
def uptoBulkAll {H : Type} : List (DataW H) → Nat
  | [] => 0
  | d :: r => uptoBulk d + uptoBulkAll r
def uptoBulkEntries {H : Type} : List (Lit × DataW H) → Nat
  | [] => 0
  | x :: r => uptoBulkEntry x + uptoBulkEntries r
def uptoBulkEntry {H : Type} : Lit × DataW H → Nat
  | (.string bytes, d) => bytes.length + uptoBulk d + 1
  | (_, d) => uptoBulk d + 1
 end
def uptoSmall : (H : Type) → List (DataW H) → Bool := fun _ ds => decide (uptoBulkAll ds ≤ 1048576)
def OpenSpec.upto (s : _root_.Go.ChangeSpec) : _root_.Go.OpenSpec := { _root_.Go.OpenSpec.ofChange s with cond := some uptoSmall }

/-- 'remontoirlaw07.SlaveCans', WHERE WHAT IT READS IS OF BULK AT MOST 1048576: true; the input reads as it did. -/
def slaveCansUptoRow : OpenClaim := { program := "ytmbgmefmkjeahaadoor", sum := "09ab399b1145817551a0f14f7d05c973ec24e35cb1c4b941aec2eb95ad5f1f2b", func := "remontoir/remontoirlaw07.SlaveCans", spec := "slaveCans", unfollowed := true, recurses := true, named := ["remontoir/slave.signs"], plainKeys := false, apart := false, laid := [("remontoir/slave.signs", laid_remontoir_slave_signs)], narrowed := true }
def SlaveCansUptoSaid : Prop := slaveCansUptoRow.holds Tryd.pinned (OpenSpec.upto slaveCansSpec)

/-- 'remontoirlaw07.SlaveStories', WHERE WHAT IT READS IS OF BULK AT MOST 1048576: true; the input reads as it did. -/
def slaveStoriesUptoRow : OpenClaim := { program := "ytmbgmefmkjeahaadoor", sum := "09ab399b1145817551a0f14f7d05c973ec24e35cb1c4b941aec2eb95ad5f1f2b", func := "remontoir/remontoirlaw07.SlaveStories", spec := "slaveStories", unfollowed := true, recurses := true, named := ["remontoir/slave.signs"], plainKeys := false, apart := false, laid := [("remontoir/slave.signs", laid_remontoir_slave_signs)], narrowed := true }
def SlaveStoriesUptoSaid : Prop := slaveStoriesUptoRow.holds Tryd.pinned (OpenSpec.upto slaveStoriesSpec)

/-- 'remontoirlaw07.SlaveWrongs', WHERE WHAT IT READS IS OF BULK AT MOST 1048576: true; the input reads as it did. -/
def slaveWrongsUptoRow : OpenClaim := { program := "ytmbgmefmkjeahaadoor", sum := "09ab399b1145817551a0f14f7d05c973ec24e35cb1c4b941aec2eb95ad5f1f2b", func := "remontoir/remontoirlaw07.SlaveWrongs", spec := "slaveWrongs", unfollowed := true, recurses := true, named := ["remontoir/slave.signs"], plainKeys := false, apart := false, laid := [("remontoir/slave.signs", laid_remontoir_slave_signs)], narrowed := true }
def SlaveWrongsUptoSaid : Prop := slaveWrongsUptoRow.holds Tryd.pinned (OpenSpec.upto slaveWrongsSpec)

/-- 'remontoirlaw07.SlaveSets', WHERE WHAT IT READS IS OF BULK AT MOST 1048576: true; the input reads as it did. -/
def slaveSetsUptoRow : OpenClaim := { program := "ytmbgmefmkjeahaadoor", sum := "09ab399b1145817551a0f14f7d05c973ec24e35cb1c4b941aec2eb95ad5f1f2b", func := "remontoir/remontoirlaw07.SlaveSets", spec := "slaveSets", unfollowed := true, recurses := true, named := ["remontoir/slave.signs"], plainKeys := false, apart := false, laid := [("remontoir/slave.signs", laid_remontoir_slave_signs)], narrowed := true }
def SlaveSetsUptoSaid : Prop := slaveSetsUptoRow.holds Tryd.pinned (OpenSpec.upto slaveSetsSpec)

/-- 'remontoirlaw07.SlaveShows', WHERE WHAT IT READS IS OF BULK AT MOST 1048576: true; the input reads as it did. -/
def slaveShowsUptoRow : OpenClaim := { program := "ytmbgmefmkjeahaadoor", sum := "09ab399b1145817551a0f14f7d05c973ec24e35cb1c4b941aec2eb95ad5f1f2b", func := "remontoir/remontoirlaw07.SlaveShows", spec := "slaveShows", unfollowed := true, recurses := true, named := ["remontoir/slave.signs"], plainKeys := false, apart := false, laid := [("remontoir/slave.signs", laid_remontoir_slave_signs)], narrowed := true }
def SlaveShowsUptoSaid : Prop := slaveShowsUptoRow.holds Tryd.pinned (OpenSpec.upto slaveShowsSpec)

/-- 'remontoirlaw07.SlaveEach', WHERE WHAT IT READS IS OF BULK AT MOST 1048576: true; the input reads as it did. -/
def slaveEachUptoRow : OpenClaim := { program := "ytmbgmefmkjeahaadoor", sum := "09ab399b1145817551a0f14f7d05c973ec24e35cb1c4b941aec2eb95ad5f1f2b", func := "remontoir/remontoirlaw07.SlaveEach", spec := "slaveEach", unfollowed := true, recurses := true, named := ["remontoir/slave.signs"], plainKeys := false, apart := false, laid := [("remontoir/slave.signs", laid_remontoir_slave_signs)], narrowed := true }
def SlaveEachUptoSaid : Prop := slaveEachUptoRow.holds Tryd.pinned (OpenSpec.upto slaveEachSpec)

/-- 'remontoirlaw07.SlaveNone', WHERE WHAT IT READS IS OF BULK AT MOST 1048576: true; the input reads as it did. -/
def slaveNoneUptoRow : OpenClaim := { program := "ytmbgmefmkjeahaadoor", sum := "09ab399b1145817551a0f14f7d05c973ec24e35cb1c4b941aec2eb95ad5f1f2b", func := "remontoir/remontoirlaw07.SlaveNone", spec := "slaveNone", unfollowed := true, recurses := true, named := ["remontoir/slave.signs"], plainKeys := false, apart := false, laid := [("remontoir/slave.signs", laid_remontoir_slave_signs)], narrowed := true }
def SlaveNoneUptoSaid : Prop := slaveNoneUptoRow.holds Tryd.pinned (OpenSpec.upto slaveNoneSpec)

/-- 'remontoirlaw07.SlaveTwo', WHERE WHAT IT READS IS OF BULK AT MOST 1048576: true; the input reads as it did. -/
def slaveTwoUptoRow : OpenClaim := { program := "ytmbgmefmkjeahaadoor", sum := "09ab399b1145817551a0f14f7d05c973ec24e35cb1c4b941aec2eb95ad5f1f2b", func := "remontoir/remontoirlaw07.SlaveTwo", spec := "slaveTwo", unfollowed := true, recurses := true, named := ["remontoir/slave.signs"], plainKeys := false, apart := false, laid := [("remontoir/slave.signs", laid_remontoir_slave_signs)], narrowed := true }
def SlaveTwoUptoSaid : Prop := slaveTwoUptoRow.holds Tryd.pinned (OpenSpec.upto slaveTwoSpec)

/-- 'remontoirlaw07.SlaveMore', WHERE WHAT IT READS IS OF BULK AT MOST 1048576: true; the input reads as it did. -/
def slaveMoreUptoRow : OpenClaim := { program := "ytmbgmefmkjeahaadoor", sum := "09ab399b1145817551a0f14f7d05c973ec24e35cb1c4b941aec2eb95ad5f1f2b", func := "remontoir/remontoirlaw07.SlaveMore", spec := "slaveMore", unfollowed := true, recurses := true, named := ["remontoir/slave.signs"], plainKeys := false, apart := false, laid := [("remontoir/slave.signs", laid_remontoir_slave_signs)], narrowed := true }
def SlaveMoreUptoSaid : Prop := slaveMoreUptoRow.holds Tryd.pinned (OpenSpec.upto slaveMoreSpec)

/-- 'remontoirlaw07.SlaveLeft', WHERE WHAT IT READS IS OF BULK AT MOST 1048576: true; the input reads as it did. -/
def slaveLeftUptoRow : OpenClaim := { program := "ytmbgmefmkjeahaadoor", sum := "09ab399b1145817551a0f14f7d05c973ec24e35cb1c4b941aec2eb95ad5f1f2b", func := "remontoir/remontoirlaw07.SlaveLeft", spec := "slaveLeft", unfollowed := true, recurses := true, named := ["remontoir/slave.signs"], plainKeys := false, apart := false, laid := [("remontoir/slave.signs", laid_remontoir_slave_signs)], narrowed := true }
def SlaveLeftUptoSaid : Prop := slaveLeftUptoRow.holds Tryd.pinned (OpenSpec.upto slaveLeftSpec)

/-- 'remontoirlaw07.SlaveRight', WHERE WHAT IT READS IS OF BULK AT MOST 1048576: true; the input reads as it did. -/
def slaveRightUptoRow : OpenClaim := { program := "ytmbgmefmkjeahaadoor", sum := "09ab399b1145817551a0f14f7d05c973ec24e35cb1c4b941aec2eb95ad5f1f2b", func := "remontoir/remontoirlaw07.SlaveRight", spec := "slaveRight", unfollowed := true, recurses := true, named := ["remontoir/slave.signs"], plainKeys := false, apart := false, laid := [("remontoir/slave.signs", laid_remontoir_slave_signs)], narrowed := true }
def SlaveRightUptoSaid : Prop := slaveRightUptoRow.holds Tryd.pinned (OpenSpec.upto slaveRightSpec)

/-- 'remontoirlaw07.SlaveHomed', WHERE WHAT IT READS IS OF BULK AT MOST 1048576: true; the input reads as it did. -/
def slaveHomedUptoRow : OpenClaim := { program := "ytmbgmefmkjeahaadoor", sum := "09ab399b1145817551a0f14f7d05c973ec24e35cb1c4b941aec2eb95ad5f1f2b", func := "remontoir/remontoirlaw07.SlaveHomed", spec := "slaveHomed", unfollowed := true, recurses := true, named := ["remontoir/slave.signs"], plainKeys := false, apart := false, laid := [("remontoir/slave.signs", laid_remontoir_slave_signs)], narrowed := true }
def SlaveHomedUptoSaid : Prop := slaveHomedUptoRow.holds Tryd.pinned (OpenSpec.upto slaveHomedSpec)

/-- 'remontoirlaw07.SlaveKnown', WHERE WHAT IT READS IS OF BULK AT MOST 1048576: true; the input reads as it did. -/
def slaveKnownUptoRow : OpenClaim := { program := "ytmbgmefmkjeahaadoor", sum := "09ab399b1145817551a0f14f7d05c973ec24e35cb1c4b941aec2eb95ad5f1f2b", func := "remontoir/remontoirlaw07.SlaveKnown", spec := "slaveKnown", unfollowed := true, recurses := true, named := ["remontoir/slave.signs"], plainKeys := false, apart := false, laid := [("remontoir/slave.signs", laid_remontoir_slave_signs)], narrowed := true }
def SlaveKnownUptoSaid : Prop := slaveKnownUptoRow.holds Tryd.pinned (OpenSpec.upto slaveKnownSpec)

end Rows
end Go.Proofs.YtmbgmefmkjeahaaDoor
