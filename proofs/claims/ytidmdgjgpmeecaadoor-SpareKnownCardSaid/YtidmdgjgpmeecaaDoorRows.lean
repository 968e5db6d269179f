/-
  NARROWER THAN 'FOR EVERY INPUT', by the rows' own cells (each row's printed sentence says how): SpareLasts: laid · SparePlans: laid · SpareReaches: laid · SpareSilent: laid · SpareTrue: laid · SpareFewest: laid · SpareTried: laid · SpareSingle: laid · SpareEasier: laid · SpareNeeds: laid · SpareHushed: laid · SpareKnown: laid.
  DERIVED. THE GIVEN ROWS OF THIS SEAT. 12 by the template 'for every input the law returns true; each argument reads behind the call as it read before'; 0 by the template 'total and deterministic' (their statements: YtidmdgjgpmeecaaDoorTotals.lean).
  GIVEN WITH THE SEED: the statements are not yours to turn. If you find one false, say at which input.
  Laid BY PROGRAM, IN A SANDBOX (cutbox-rows.mjs): the forced cells as the released guide's own fill.sh prints them over the translation 97ebd74417997b72… (all of the seat's roots in one cut). By AI agents, Wed Nov 11 2026. No macro, syntax, notation, axiom, sorry.
-/
import Derived.Test.YtidmdgjgpmeecaaDoorChecked
import GoSem.Claim
import GoSem.ClaimJoined
import GoSem.ClaimMapViews
import Derived.JoinedTies
import Derived.KernelRfl
namespace Go.Proofs.YtidmdgjgpmeecaaDoor
/- THE CELL 'sum', in the pinned program and in every row, IS THE sha256 OF THE DUMP (.gsa) THAT YtidmdgjgpmeecaaDoorProg.lean LOADS. Nothing in Lean hashes anything: it is a label: what it is worth is what the hold of that sum in a sandbox is worth. -/
noncomputable def Tryd.pinned : Pinned := { name := "ytidmdgjgpmeecaadoor", sum := "97ebd74417997b720e25694a241e1900bc11440fc7ea1361304b8ef38f5ead55", checked := Tryd.checked }
namespace Rows
def none {H : Type} : Left H := { results := [], args := [] }

/- WHAT THE LISTED PACKAGE-LEVEL VARIABLES READ AS WHEN THE CALL BEGINS. Each datum BY PROGRAM (the guide's laid-datum.mjs) off the statement by which the dump's own 'gosem.cut.vars' lays the variable. In a bare row this is a premise. The card (YtidmdgjgpmeecaaDoorCards.lean) ties it to the program's text. -/
def laid_remontoir_spare_lasts {H : Type} : DataW H := .iface "func table" (.agg [.iface "func" (.lit (.string [40, 114, 101, 109, 111, 110, 116, 111, 105, 114, 47, 115, 112, 97, 114, 101, 46, 109, 97, 99, 104, 105, 110, 101, 41, 46, 115, 116, 105, 110, 116])), .iface "func" (.lit (.string [40, 114, 101, 109, 111, 110, 116, 111, 105, 114, 47, 115, 112, 97, 114, 101, 46, 109, 97, 99, 104, 105, 110, 101, 41, 46, 108, 97, 115, 116]))])

/-- 'remontoirlaw08.SpareLasts': WHATEVER THE INPUT: true; the input reads as it did. -/
def spareLastsSpec : ChangeSpec := { name := "spareLasts", fn := fun _ => fun
  | [d1, d2, d3] => { results := [.lit (.bool true)], args := [d1, d2, d3] }
  | _ => none }
def spareLastsRow : OpenClaim := { program := "ytidmdgjgpmeecaadoor", sum := "97ebd74417997b720e25694a241e1900bc11440fc7ea1361304b8ef38f5ead55", func := "remontoir/remontoirlaw08.SpareLasts", spec := "spareLasts", unfollowed := true, recurses := true, named := ["remontoir/spare.lasts"], plainKeys := false, apart := false, laid := [("remontoir/spare.lasts", laid_remontoir_spare_lasts)] }
def SpareLastsSaid : Prop := spareLastsRow.holds Tryd.pinned (OpenSpec.ofChange spareLastsSpec)

/-- ITS FALSE NEIGHBOUR: 'it returns false'. Refute it at one input. -/
def spareLastsWrong : ChangeSpec := { name := "spareLasts", fn := fun _ => fun
  | [d1, d2, d3] => { results := [.lit (.bool false)], args := [d1, d2, d3] }
  | _ => none }
def SpareLastsWrongFalsely : Prop := spareLastsRow.holds Tryd.pinned (OpenSpec.ofChange spareLastsWrong)

/-- 'remontoirlaw08.SparePlans': WHATEVER THE INPUT: true; the input reads as it did. -/
def sparePlansSpec : ChangeSpec := { name := "sparePlans", fn := fun _ => fun
  | [d] => { results := [.lit (.bool true)], args := [d] }
  | _ => none }
def sparePlansRow : OpenClaim := { program := "ytidmdgjgpmeecaadoor", sum := "97ebd74417997b720e25694a241e1900bc11440fc7ea1361304b8ef38f5ead55", func := "remontoir/remontoirlaw08.SparePlans", spec := "sparePlans", unfollowed := true, recurses := true, named := ["remontoir/spare.lasts"], plainKeys := false, apart := false, laid := [("remontoir/spare.lasts", laid_remontoir_spare_lasts)] }
def SparePlansSaid : Prop := sparePlansRow.holds Tryd.pinned (OpenSpec.ofChange sparePlansSpec)

/-- ITS FALSE NEIGHBOUR: 'it returns false'. Refute it at one input. -/
def sparePlansWrong : ChangeSpec := { name := "sparePlans", fn := fun _ => fun
  | [d] => { results := [.lit (.bool false)], args := [d] }
  | _ => none }
def SparePlansWrongFalsely : Prop := sparePlansRow.holds Tryd.pinned (OpenSpec.ofChange sparePlansWrong)

/-- 'remontoirlaw08.SpareReaches': WHATEVER THE INPUT: true; the input reads as it did. -/
def spareReachesSpec : ChangeSpec := { name := "spareReaches", fn := fun _ => fun
  | [d] => { results := [.lit (.bool true)], args := [d] }
  | _ => none }
def spareReachesRow : OpenClaim := { program := "ytidmdgjgpmeecaadoor", sum := "97ebd74417997b720e25694a241e1900bc11440fc7ea1361304b8ef38f5ead55", func := "remontoir/remontoirlaw08.SpareReaches", spec := "spareReaches", unfollowed := true, recurses := true, named := ["remontoir/spare.lasts"], plainKeys := false, apart := false, laid := [("remontoir/spare.lasts", laid_remontoir_spare_lasts)] }
def SpareReachesSaid : Prop := spareReachesRow.holds Tryd.pinned (OpenSpec.ofChange spareReachesSpec)

/-- ITS FALSE NEIGHBOUR: 'it returns false'. Refute it at one input. -/
def spareReachesWrong : ChangeSpec := { name := "spareReaches", fn := fun _ => fun
  | [d] => { results := [.lit (.bool false)], args := [d] }
  | _ => none }
def SpareReachesWrongFalsely : Prop := spareReachesRow.holds Tryd.pinned (OpenSpec.ofChange spareReachesWrong)

/-- 'remontoirlaw08.SpareSilent': WHATEVER THE INPUT: true; the input reads as it did. -/
def spareSilentSpec : ChangeSpec := { name := "spareSilent", fn := fun _ => fun
  | [d1, d2, d3] => { results := [.lit (.bool true)], args := [d1, d2, d3] }
  | _ => none }
def spareSilentRow : OpenClaim := { program := "ytidmdgjgpmeecaadoor", sum := "97ebd74417997b720e25694a241e1900bc11440fc7ea1361304b8ef38f5ead55", func := "remontoir/remontoirlaw08.SpareSilent", spec := "spareSilent", unfollowed := true, recurses := true, named := ["remontoir/spare.lasts"], plainKeys := false, apart := false, laid := [("remontoir/spare.lasts", laid_remontoir_spare_lasts)] }
def SpareSilentSaid : Prop := spareSilentRow.holds Tryd.pinned (OpenSpec.ofChange spareSilentSpec)

/-- ITS FALSE NEIGHBOUR: 'it returns false'. Refute it at one input. -/
def spareSilentWrong : ChangeSpec := { name := "spareSilent", fn := fun _ => fun
  | [d1, d2, d3] => { results := [.lit (.bool false)], args := [d1, d2, d3] }
  | _ => none }
def SpareSilentWrongFalsely : Prop := spareSilentRow.holds Tryd.pinned (OpenSpec.ofChange spareSilentWrong)

/-- 'remontoirlaw08.SpareTrue': WHATEVER THE INPUT: true; the input reads as it did. -/
def spareTrueSpec : ChangeSpec := { name := "spareTrue", fn := fun _ => fun
  | [d1, d2] => { results := [.lit (.bool true)], args := [d1, d2] }
  | _ => none }
def spareTrueRow : OpenClaim := { program := "ytidmdgjgpmeecaadoor", sum := "97ebd74417997b720e25694a241e1900bc11440fc7ea1361304b8ef38f5ead55", func := "remontoir/remontoirlaw08.SpareTrue", spec := "spareTrue", unfollowed := true, recurses := true, named := ["remontoir/spare.lasts"], plainKeys := false, apart := false, laid := [("remontoir/spare.lasts", laid_remontoir_spare_lasts)] }
def SpareTrueSaid : Prop := spareTrueRow.holds Tryd.pinned (OpenSpec.ofChange spareTrueSpec)

/-- ITS FALSE NEIGHBOUR: 'it returns false'. Refute it at one input. -/
def spareTrueWrong : ChangeSpec := { name := "spareTrue", fn := fun _ => fun
  | [d1, d2] => { results := [.lit (.bool false)], args := [d1, d2] }
  | _ => none }
def SpareTrueWrongFalsely : Prop := spareTrueRow.holds Tryd.pinned (OpenSpec.ofChange spareTrueWrong)

/-- 'remontoirlaw08.SpareFewest': WHATEVER THE INPUT: true; the input reads as it did. -/
def spareFewestSpec : ChangeSpec := { name := "spareFewest", fn := fun _ => fun
  | [d1, d2] => { results := [.lit (.bool true)], args := [d1, d2] }
  | _ => none }
def spareFewestRow : OpenClaim := { program := "ytidmdgjgpmeecaadoor", sum := "97ebd74417997b720e25694a241e1900bc11440fc7ea1361304b8ef38f5ead55", func := "remontoir/remontoirlaw08.SpareFewest", spec := "spareFewest", unfollowed := true, recurses := true, named := ["remontoir/spare.lasts"], plainKeys := false, apart := false, laid := [("remontoir/spare.lasts", laid_remontoir_spare_lasts)] }
def SpareFewestSaid : Prop := spareFewestRow.holds Tryd.pinned (OpenSpec.ofChange spareFewestSpec)

/-- ITS FALSE NEIGHBOUR: 'it returns false'. Refute it at one input. -/
def spareFewestWrong : ChangeSpec := { name := "spareFewest", fn := fun _ => fun
  | [d1, d2] => { results := [.lit (.bool false)], args := [d1, d2] }
  | _ => none }
def SpareFewestWrongFalsely : Prop := spareFewestRow.holds Tryd.pinned (OpenSpec.ofChange spareFewestWrong)

/-- 'remontoirlaw08.SpareTried': WHATEVER THE INPUT: true; the input reads as it did. -/
def spareTriedSpec : ChangeSpec := { name := "spareTried", fn := fun _ => fun
  | [d1, d2] => { results := [.lit (.bool true)], args := [d1, d2] }
  | _ => none }
def spareTriedRow : OpenClaim := { program := "ytidmdgjgpmeecaadoor", sum := "97ebd74417997b720e25694a241e1900bc11440fc7ea1361304b8ef38f5ead55", func := "remontoir/remontoirlaw08.SpareTried", spec := "spareTried", unfollowed := true, recurses := true, named := ["remontoir/spare.lasts"], plainKeys := false, apart := false, laid := [("remontoir/spare.lasts", laid_remontoir_spare_lasts)] }
def SpareTriedSaid : Prop := spareTriedRow.holds Tryd.pinned (OpenSpec.ofChange spareTriedSpec)

/-- ITS FALSE NEIGHBOUR: 'it returns false'. Refute it at one input. -/
def spareTriedWrong : ChangeSpec := { name := "spareTried", fn := fun _ => fun
  | [d1, d2] => { results := [.lit (.bool false)], args := [d1, d2] }
  | _ => none }
def SpareTriedWrongFalsely : Prop := spareTriedRow.holds Tryd.pinned (OpenSpec.ofChange spareTriedWrong)

/-- 'remontoirlaw08.SpareSingle': WHATEVER THE INPUT: true; the input reads as it did. -/
def spareSingleSpec : ChangeSpec := { name := "spareSingle", fn := fun _ => fun
  | [d1, d2] => { results := [.lit (.bool true)], args := [d1, d2] }
  | _ => none }
def spareSingleRow : OpenClaim := { program := "ytidmdgjgpmeecaadoor", sum := "97ebd74417997b720e25694a241e1900bc11440fc7ea1361304b8ef38f5ead55", func := "remontoir/remontoirlaw08.SpareSingle", spec := "spareSingle", unfollowed := true, recurses := true, named := ["remontoir/spare.lasts"], plainKeys := false, apart := false, laid := [("remontoir/spare.lasts", laid_remontoir_spare_lasts)] }
def SpareSingleSaid : Prop := spareSingleRow.holds Tryd.pinned (OpenSpec.ofChange spareSingleSpec)

/-- ITS FALSE NEIGHBOUR: 'it returns false'. Refute it at one input. -/
def spareSingleWrong : ChangeSpec := { name := "spareSingle", fn := fun _ => fun
  | [d1, d2] => { results := [.lit (.bool false)], args := [d1, d2] }
  | _ => none }
def SpareSingleWrongFalsely : Prop := spareSingleRow.holds Tryd.pinned (OpenSpec.ofChange spareSingleWrong)

/-- 'remontoirlaw08.SpareEasier': WHATEVER THE INPUT: true; the input reads as it did. -/
def spareEasierSpec : ChangeSpec := { name := "spareEasier", fn := fun _ => fun
  | [d1, d2, d3] => { results := [.lit (.bool true)], args := [d1, d2, d3] }
  | _ => none }
def spareEasierRow : OpenClaim := { program := "ytidmdgjgpmeecaadoor", sum := "97ebd74417997b720e25694a241e1900bc11440fc7ea1361304b8ef38f5ead55", func := "remontoir/remontoirlaw08.SpareEasier", spec := "spareEasier", unfollowed := true, recurses := true, named := ["remontoir/spare.lasts"], plainKeys := false, apart := false, laid := [("remontoir/spare.lasts", laid_remontoir_spare_lasts)] }
def SpareEasierSaid : Prop := spareEasierRow.holds Tryd.pinned (OpenSpec.ofChange spareEasierSpec)

/-- ITS FALSE NEIGHBOUR: 'it returns false'. Refute it at one input. -/
def spareEasierWrong : ChangeSpec := { name := "spareEasier", fn := fun _ => fun
  | [d1, d2, d3] => { results := [.lit (.bool false)], args := [d1, d2, d3] }
  | _ => none }
def SpareEasierWrongFalsely : Prop := spareEasierRow.holds Tryd.pinned (OpenSpec.ofChange spareEasierWrong)

/-- 'remontoirlaw08.SpareNeeds': WHATEVER THE INPUT: true; the input reads as it did. -/
def spareNeedsSpec : ChangeSpec := { name := "spareNeeds", fn := fun _ => fun
  | [d1, d2] => { results := [.lit (.bool true)], args := [d1, d2] }
  | _ => none }
def spareNeedsRow : OpenClaim := { program := "ytidmdgjgpmeecaadoor", sum := "97ebd74417997b720e25694a241e1900bc11440fc7ea1361304b8ef38f5ead55", func := "remontoir/remontoirlaw08.SpareNeeds", spec := "spareNeeds", unfollowed := true, recurses := true, named := ["remontoir/spare.lasts"], plainKeys := false, apart := false, laid := [("remontoir/spare.lasts", laid_remontoir_spare_lasts)] }
def SpareNeedsSaid : Prop := spareNeedsRow.holds Tryd.pinned (OpenSpec.ofChange spareNeedsSpec)

/-- ITS FALSE NEIGHBOUR: 'it returns false'. Refute it at one input. -/
def spareNeedsWrong : ChangeSpec := { name := "spareNeeds", fn := fun _ => fun
  | [d1, d2] => { results := [.lit (.bool false)], args := [d1, d2] }
  | _ => none }
def SpareNeedsWrongFalsely : Prop := spareNeedsRow.holds Tryd.pinned (OpenSpec.ofChange spareNeedsWrong)

/-- 'remontoirlaw08.SpareHushed': WHATEVER THE INPUT: true; the input reads as it did. -/
def spareHushedSpec : ChangeSpec := { name := "spareHushed", fn := fun _ => fun
  | [d1, d2] => { results := [.lit (.bool true)], args := [d1, d2] }
  | _ => none }
def spareHushedRow : OpenClaim := { program := "ytidmdgjgpmeecaadoor", sum := "97ebd74417997b720e25694a241e1900bc11440fc7ea1361304b8ef38f5ead55", func := "remontoir/remontoirlaw08.SpareHushed", spec := "spareHushed", unfollowed := true, recurses := true, named := ["remontoir/spare.lasts"], plainKeys := false, apart := false, laid := [("remontoir/spare.lasts", laid_remontoir_spare_lasts)] }
def SpareHushedSaid : Prop := spareHushedRow.holds Tryd.pinned (OpenSpec.ofChange spareHushedSpec)

/-- ITS FALSE NEIGHBOUR: 'it returns false'. Refute it at one input. -/
def spareHushedWrong : ChangeSpec := { name := "spareHushed", fn := fun _ => fun
  | [d1, d2] => { results := [.lit (.bool false)], args := [d1, d2] }
  | _ => none }
def SpareHushedWrongFalsely : Prop := spareHushedRow.holds Tryd.pinned (OpenSpec.ofChange spareHushedWrong)

/-- 'remontoirlaw08.SpareKnown': WHATEVER THE INPUT: true; the input reads as it did. -/
def spareKnownSpec : ChangeSpec := { name := "spareKnown", fn := fun _ => fun
  | [] => { results := [.lit (.bool true)], args := [] }
  | _ => none }
def spareKnownRow : OpenClaim := { program := "ytidmdgjgpmeecaadoor", sum := "97ebd74417997b720e25694a241e1900bc11440fc7ea1361304b8ef38f5ead55", func := "remontoir/remontoirlaw08.SpareKnown", spec := "spareKnown", unfollowed := true, recurses := true, named := ["remontoir/spare.lasts"], plainKeys := false, apart := false, laid := [("remontoir/spare.lasts", laid_remontoir_spare_lasts)] }
def SpareKnownSaid : Prop := spareKnownRow.holds Tryd.pinned (OpenSpec.ofChange spareKnownSpec)

/-- ITS FALSE NEIGHBOUR: 'it returns false'. Refute it at one input. -/
def spareKnownWrong : ChangeSpec := { name := "spareKnown", fn := fun _ => fun
  | [] => { results := [.lit (.bool false)], args := [] }
  | _ => none }
def SpareKnownWrongFalsely : Prop := spareKnownRow.holds Tryd.pinned (OpenSpec.ofChange spareKnownWrong)

/- THE SECOND FORM. 'bulk': how many values and letters a reading holds, each counted each time it is reached (what is shared counts as often as it is met; a slice's spare places count too). A statement '..UptoSaid' is the law's where the arguments, and the package variables that the reading takes, are together of bulk at most 1048576: NARROWER than '..Said'. Prove '..Said' where nothing that the law and all that it calls make is longer than what came in: it says more and counts as full. Else prove '..UptoSaid'. A law counts once. -/
mutual
def uptoBulk {H : Type} : DataW H → Nat
  | .lit (.string bytes) => bytes.length + 1
  | .lit _ => 1
  | .nil => 1
  | .ptr d => uptoBulk d + 1
  | .slice elems spare => uptoBulkAll elems + uptoBulkAll spare + 1
  | .agg parts => uptoBulkAll parts + 1
  | .iface _ d => uptoBulk d + 1
  | .map entries => uptoBulkEntries entries + 1
  | .held _ => 1
def uptoBulkAll {H : Type} : List (DataW H) → Nat
  | [] => 0
  | d :: r => uptoBulk d + uptoBulkAll r
def uptoBulkEntries {H : Type} : List (Lit × DataW H) → Nat
  | [] => 0
  | x :: r => uptoBulkEntry x + uptoBulkEntries r
def uptoBulkEntry {H : Type} : Lit × DataW H → Nat
  | (.string bytes, d) => bytes.length + uptoBulk d + 1
  | (_, d) => uptoBulk d + 1
 end
def uptoSmall : (H : Type) → List (DataW H) → Bool := fun _ ds => decide (uptoBulkAll ds ≤ 1048576)
def OpenSpec.upto (s : _root_.Go.ChangeSpec) : _root_.Go.OpenSpec := { _root_.Go.OpenSpec.ofChange s with cond := some uptoSmall }

/-- 'remontoirlaw08.SpareLasts', WHERE WHAT IT READS IS OF BULK AT MOST 1048576: true; the input reads as it did. -/
def spareLastsUptoRow : OpenClaim := { program := "ytidmdgjgpmeecaadoor", sum := "97ebd74417997b720e25694a241e1900bc11440fc7ea1361304b8ef38f5ead55", func := "remontoir/remontoirlaw08.SpareLasts", spec := "spareLasts", unfollowed := true, recurses := true, named := ["remontoir/spare.lasts"], plainKeys := false, apart := false, laid := [("remontoir/spare.lasts", laid_remontoir_spare_lasts)], narrowed := true }
def SpareLastsUptoSaid : Prop := spareLastsUptoRow.holds Tryd.pinned (OpenSpec.upto spareLastsSpec)

/-- 'remontoirlaw08.SparePlans', WHERE WHAT IT READS IS OF BULK AT MOST 1048576: true; the input reads as it did. -/
def sparePlansUptoRow : OpenClaim := { program := "ytidmdgjgpmeecaadoor", sum := "97ebd74417997b720e25694a241e1900bc11440fc7ea1361304b8ef38f5ead55", func := "remontoir/remontoirlaw08.SparePlans", spec := "sparePlans", unfollowed := true, recurses := true, named := ["remontoir/spare.lasts"], plainKeys := false, apart := false, laid := [("remontoir/spare.lasts", laid_remontoir_spare_lasts)], narrowed := true }
def SparePlansUptoSaid : Prop := sparePlansUptoRow.holds Tryd.pinned (OpenSpec.upto sparePlansSpec)

/-- 'remontoirlaw08.SpareReaches', WHERE WHAT IT READS IS OF BULK AT MOST 1048576: true; the input reads as it did. -/
def spareReachesUptoRow : OpenClaim := { program := "ytidmdgjgpmeecaadoor", sum := "97ebd74417997b720e25694a241e1900bc11440fc7ea1361304b8ef38f5ead55", func := "remontoir/remontoirlaw08.SpareReaches", spec := "spareReaches", unfollowed := true, recurses := true, named := ["remontoir/spare.lasts"], plainKeys := false, apart := false, laid := [("remontoir/spare.lasts", laid_remontoir_spare_lasts)], narrowed := true }
def SpareReachesUptoSaid : Prop := spareReachesUptoRow.holds Tryd.pinned (OpenSpec.upto spareReachesSpec)

/-- 'remontoirlaw08.SpareSilent', WHERE WHAT IT READS IS OF BULK AT MOST 1048576: true; the input reads as it did. -/
def spareSilentUptoRow : OpenClaim := { program := "ytidmdgjgpmeecaadoor", sum := "97ebd74417997b720e25694a241e1900bc11440fc7ea1361304b8ef38f5ead55", func := "remontoir/remontoirlaw08.SpareSilent", spec := "spareSilent", unfollowed := true, recurses := true, named := ["remontoir/spare.lasts"], plainKeys := false, apart := false, laid := [("remontoir/spare.lasts", laid_remontoir_spare_lasts)], narrowed := true }
def SpareSilentUptoSaid : Prop := spareSilentUptoRow.holds Tryd.pinned (OpenSpec.upto spareSilentSpec)

/-- 'remontoirlaw08.SpareTrue', WHERE WHAT IT READS IS OF BULK AT MOST 1048576: true; the input reads as it did. -/
def spareTrueUptoRow : OpenClaim := { program := "ytidmdgjgpmeecaadoor", sum := "97ebd74417997b720e25694a241e1900bc11440fc7ea1361304b8ef38f5ead55", func := "remontoir/remontoirlaw08.SpareTrue", spec := "spareTrue", unfollowed := true, recurses := true, named := ["remontoir/spare.lasts"], plainKeys := false, apart := false, laid := [("remontoir/spare.lasts", laid_remontoir_spare_lasts)], narrowed := true }
def SpareTrueUptoSaid : Prop := spareTrueUptoRow.holds Tryd.pinned (OpenSpec.upto spareTrueSpec)

/-- 'remontoirlaw08.SpareFewest', WHERE WHAT IT READS IS OF BULK AT MOST 1048576: true; the input reads as it did. -/
def spareFewestUptoRow : OpenClaim := { program := "ytidmdgjgpmeecaadoor", sum := "97ebd74417997b720e25694a241e1900bc11440fc7ea1361304b8ef38f5ead55", func := "remontoir/remontoirlaw08.SpareFewest", spec := "spareFewest", unfollowed := true, recurses := true, named := ["remontoir/spare.lasts"], plainKeys := false, apart := false, laid := [("remontoir/spare.lasts", laid_remontoir_spare_lasts)], narrowed := true }
def SpareFewestUptoSaid : Prop := spareFewestUptoRow.holds Tryd.pinned (OpenSpec.upto spareFewestSpec)

/-- 'remontoirlaw08.SpareTried', WHERE WHAT IT READS IS OF BULK AT MOST 1048576: true; the input reads as it did. -/
def spareTriedUptoRow : OpenClaim := { program := "ytidmdgjgpmeecaadoor", sum := "97ebd74417997b720e25694a241e1900bc11440fc7ea1361304b8ef38f5ead55", func := "remontoir/remontoirlaw08.SpareTried", spec := "spareTried", unfollowed := true, recurses := true, named := ["remontoir/spare.lasts"], plainKeys := false, apart := false, laid := [("remontoir/spare.lasts", laid_remontoir_spare_lasts)], narrowed := true }
def SpareTriedUptoSaid : Prop := spareTriedUptoRow.holds Tryd.pinned (OpenSpec.upto spareTriedSpec)

/-- 'remontoirlaw08.SpareSingle', WHERE WHAT IT READS IS OF BULK AT MOST 1048576: true; the input reads as it did. -/
def spareSingleUptoRow : OpenClaim := { program := "ytidmdgjgpmeecaadoor", sum := "97ebd74417997b720e25694a241e1900bc11440fc7ea1361304b8ef38f5ead55", func := "remontoir/remontoirlaw08.SpareSingle", spec := "spareSingle", unfollowed := true, recurses := true, named := ["remontoir/spare.lasts"], plainKeys := false, apart := false, laid := [("remontoir/spare.lasts", laid_remontoir_spare_lasts)], narrowed := true }
def SpareSingleUptoSaid : Prop := spareSingleUptoRow.holds Tryd.pinned (OpenSpec.upto spareSingleSpec)

/-- 'remontoirlaw08.SpareEasier', WHERE WHAT IT READS IS OF BULK AT MOST 1048576: true; the input reads as it did. -/
def spareEasierUptoRow : OpenClaim := { program := "ytidmdgjgpmeecaadoor", sum := "97ebd74417997b720e25694a241e1900bc11440fc7ea1361304b8ef38f5ead55", func := "remontoir/remontoirlaw08.SpareEasier", spec := "spareEasier", unfollowed := true, recurses := true, named := ["remontoir/spare.lasts"], plainKeys := false, apart := false, laid := [("remontoir/spare.lasts", laid_remontoir_spare_lasts)], narrowed := true }
def SpareEasierUptoSaid : Prop := spareEasierUptoRow.holds Tryd.pinned (OpenSpec.upto spareEasierSpec)

/-- 'remontoirlaw08.SpareNeeds', WHERE WHAT IT READS IS OF BULK AT MOST 1048576: true; the input reads as it did. -/
def spareNeedsUptoRow : OpenClaim := { program := "ytidmdgjgpmeecaadoor", sum := "97ebd74417997b720e25694a241e1900bc11440fc7ea1361304b8ef38f5ead55", func := "remontoir/remontoirlaw08.SpareNeeds", spec := "spareNeeds", unfollowed := true, recurses := true, named := ["remontoir/spare.lasts"], plainKeys := false, apart := false, laid := [("remontoir/spare.lasts", laid_remontoir_spare_lasts)], narrowed := true }
def SpareNeedsUptoSaid : Prop := spareNeedsUptoRow.holds Tryd.pinned (OpenSpec.upto spareNeedsSpec)

/-- 'remontoirlaw08.SpareHushed', WHERE WHAT IT READS IS OF BULK AT MOST 1048576: true; the input reads as it did. -/
def spareHushedUptoRow : OpenClaim := { program := "ytidmdgjgpmeecaadoor", sum := "97ebd74417997b720e25694a241e1900bc11440fc7ea1361304b8ef38f5ead55", func := "remontoir/remontoirlaw08.SpareHushed", spec := "spareHushed", unfollowed := true, recurses := true, named := ["remontoir/spare.lasts"], plainKeys := false, apart := false, laid := [("remontoir/spare.lasts", laid_remontoir_spare_lasts)], narrowed := true }
def SpareHushedUptoSaid : Prop := spareHushedUptoRow.holds Tryd.pinned (OpenSpec.upto spareHushedSpec)

/-- 'remontoirlaw08.SpareKnown', WHERE WHAT IT READS IS OF BULK AT MOST 1048576: true; the input reads as it did. -/
def spareKnownUptoRow : OpenClaim := { program := "ytidmdgjgpmeecaadoor", sum := "97ebd74417997b720e25694a241e1900bc11440fc7ea1361304b8ef38f5ead55", func := "remontoir/remontoirlaw08.SpareKnown", spec := "spareKnown", unfollowed := true, recurses := true, named := ["remontoir/spare.lasts"], plainKeys := false, apart := false, laid := [("remontoir/spare.lasts", laid_remontoir_spare_lasts)], narrowed := true }
def SpareKnownUptoSaid : Prop := spareKnownUptoRow.holds Tryd.pinned (OpenSpec.upto spareKnownSpec)

end Rows
end Go.Proofs.YtidmdgjgpmeecaaDoor
