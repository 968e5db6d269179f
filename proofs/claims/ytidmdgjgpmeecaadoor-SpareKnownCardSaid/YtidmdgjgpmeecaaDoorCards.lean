/-
  DERIVED. GIVEN WITH THE SEED: THE CARDS: each row of YtidmdgjgpmeecaaDoorRows.lean that lists a variable, with what it lists TIED to the program's text (the seventh form; the later family's looks); each row that meets fmt, with fmt's text TOLD by the authors' own Lean function (tested against real Go, not proved from fmt's source: count such statements apart). THE CARD IS WHAT COUNTS. Prove the row's statement (the work); the ties are given (YtidmdgjgpmeecaaDoorTie.lean); close each card by the builder's one call (the guide's Derived/Test/ToyasCard.lean, 'card_holds'). Laid BY PROGRAM, IN A SANDBOX (cutbox-door.mjs). By AI agents, Wed Nov 11 2026. No macro, syntax, notation, axiom, sorry.
-/
import Derived.Test.YtidmdgjgpmeecaaDoorRows
import GoSem.ClaimSeven
namespace Go.Proofs.YtidmdgjgpmeecaaDoor
namespace Rows

/-- THE TIED CARD OF 'remontoirlaw08.SpareLasts'. -/
def spareLastsCard : Claim7 := { stood := { row := spareLastsRow, standIns := [], harness := (true, "0279d43abd22c3ad063ee4f45022fdbda860ebc236e8aba74b8ae6e72b29cdb3"), looks := false }, kinds := [], alts := [], laidByText := true, laidKinds := [.funcs], laidTests := true, laidLooks := .later }
def SpareLastsCardSaid : Prop := Claim7.holds Tryd.pinned (.plain (OpenSpec.ofChange spareLastsSpec)) spareLastsCard

/-- THE TIED CARD OF 'remontoirlaw08.SparePlans'. -/
def sparePlansCard : Claim7 := { stood := { row := sparePlansRow, standIns := [], harness := (true, "0279d43abd22c3ad063ee4f45022fdbda860ebc236e8aba74b8ae6e72b29cdb3"), looks := false }, kinds := [], alts := [], laidByText := true, laidKinds := [.funcs], laidTests := true, laidLooks := .later }
def SparePlansCardSaid : Prop := Claim7.holds Tryd.pinned (.plain (OpenSpec.ofChange sparePlansSpec)) sparePlansCard

/-- THE TIED CARD OF 'remontoirlaw08.SpareReaches'. -/
def spareReachesCard : Claim7 := { stood := { row := spareReachesRow, standIns := [], harness := (true, "0279d43abd22c3ad063ee4f45022fdbda860ebc236e8aba74b8ae6e72b29cdb3"), looks := false }, kinds := [], alts := [], laidByText := true, laidKinds := [.funcs], laidTests := true, laidLooks := .later }
def SpareReachesCardSaid : Prop := Claim7.holds Tryd.pinned (.plain (OpenSpec.ofChange spareReachesSpec)) spareReachesCard

/-- THE TIED CARD OF 'remontoirlaw08.SpareSilent'. -/
def spareSilentCard : Claim7 := { stood := { row := spareSilentRow, standIns := [], harness := (true, "0279d43abd22c3ad063ee4f45022fdbda860ebc236e8aba74b8ae6e72b29cdb3"), looks := false }, kinds := [], alts := [], laidByText := true, laidKinds := [.funcs], laidTests := true, laidLooks := .later }
def SpareSilentCardSaid : Prop := Claim7.holds Tryd.pinned (.plain (OpenSpec.ofChange spareSilentSpec)) spareSilentCard

/-- THE TIED CARD OF 'remontoirlaw08.SpareTrue'. -/
def spareTrueCard : Claim7 := { stood := { row := spareTrueRow, standIns := [], harness := (true, "0279d43abd22c3ad063ee4f45022fdbda860ebc236e8aba74b8ae6e72b29cdb3"), looks := false }, kinds := [], alts := [], laidByText := true, laidKinds := [.funcs], laidTests := true, laidLooks := .later }
def SpareTrueCardSaid : Prop := Claim7.holds Tryd.pinned (.plain (OpenSpec.ofChange spareTrueSpec)) spareTrueCard

/-- THE TIED CARD OF 'remontoirlaw08.SpareFewest'. -/
def spareFewestCard : Claim7 := { stood := { row := spareFewestRow, standIns := [], harness := (true, "0279d43abd22c3ad063ee4f45022fdbda860ebc236e8aba74b8ae6e72b29cdb3"), looks := false }, kinds := [], alts := [], laidByText := true, laidKinds := [.funcs], laidTests := true, laidLooks := .later }
def SpareFewestCardSaid : Prop := Claim7.holds Tryd.pinned (.plain (OpenSpec.ofChange spareFewestSpec)) spareFewestCard

/-- THE TIED CARD OF 'remontoirlaw08.SpareTried'. -/
def spareTriedCard : Claim7 := { stood := { row := spareTriedRow, standIns := [], harness := (true, "0279d43abd22c3ad063ee4f45022fdbda860ebc236e8aba74b8ae6e72b29cdb3"), looks := false }, kinds := [], alts := [], laidByText := true, laidKinds := [.funcs], laidTests := true, laidLooks := .later }
def SpareTriedCardSaid : Prop := Claim7.holds Tryd.pinned (.plain (OpenSpec.ofChange spareTriedSpec)) spareTriedCard

/-- THE TIED CARD OF 'remontoirlaw08.SpareSingle'. -/
def spareSingleCard : Claim7 := { stood := { row := spareSingleRow, standIns := [], harness := (true, "0279d43abd22c3ad063ee4f45022fdbda860ebc236e8aba74b8ae6e72b29cdb3"), looks := false }, kinds := [], alts := [], laidByText := true, laidKinds := [.funcs], laidTests := true, laidLooks := .later }
def SpareSingleCardSaid : Prop := Claim7.holds Tryd.pinned (.plain (OpenSpec.ofChange spareSingleSpec)) spareSingleCard

/-- THE TIED CARD OF 'remontoirlaw08.SpareEasier'. -/
def spareEasierCard : Claim7 := { stood := { row := spareEasierRow, standIns := [], harness := (true, "0279d43abd22c3ad063ee4f45022fdbda860ebc236e8aba74b8ae6e72b29cdb3"), looks := false }, kinds := [], alts := [], laidByText := true, laidKinds := [.funcs], laidTests := true, laidLooks := .later }
def SpareEasierCardSaid : Prop := Claim7.holds Tryd.pinned (.plain (OpenSpec.ofChange spareEasierSpec)) spareEasierCard

/-- THE TIED CARD OF 'remontoirlaw08.SpareNeeds'. -/
def spareNeedsCard : Claim7 := { stood := { row := spareNeedsRow, standIns := [], harness := (true, "0279d43abd22c3ad063ee4f45022fdbda860ebc236e8aba74b8ae6e72b29cdb3"), looks := false }, kinds := [], alts := [], laidByText := true, laidKinds := [.funcs], laidTests := true, laidLooks := .later }
def SpareNeedsCardSaid : Prop := Claim7.holds Tryd.pinned (.plain (OpenSpec.ofChange spareNeedsSpec)) spareNeedsCard

/-- THE TIED CARD OF 'remontoirlaw08.SpareHushed'. -/
def spareHushedCard : Claim7 := { stood := { row := spareHushedRow, standIns := [], harness := (true, "0279d43abd22c3ad063ee4f45022fdbda860ebc236e8aba74b8ae6e72b29cdb3"), looks := false }, kinds := [], alts := [], laidByText := true, laidKinds := [.funcs], laidTests := true, laidLooks := .later }
def SpareHushedCardSaid : Prop := Claim7.holds Tryd.pinned (.plain (OpenSpec.ofChange spareHushedSpec)) spareHushedCard

/-- THE TIED CARD OF 'remontoirlaw08.SpareKnown'. -/
def spareKnownCard : Claim7 := { stood := { row := spareKnownRow, standIns := [], harness := (true, "0279d43abd22c3ad063ee4f45022fdbda860ebc236e8aba74b8ae6e72b29cdb3"), looks := false }, kinds := [], alts := [], laidByText := true, laidKinds := [.funcs], laidTests := true, laidLooks := .later }
def SpareKnownCardSaid : Prop := Claim7.holds Tryd.pinned (.plain (OpenSpec.ofChange spareKnownSpec)) spareKnownCard

/-- THE SECOND FORM's CARD OF 'remontoirlaw08.SpareLasts'. -/
def spareLastsUptoCard : Claim7 := { stood := { row := spareLastsUptoRow, standIns := [], harness := (true, "0279d43abd22c3ad063ee4f45022fdbda860ebc236e8aba74b8ae6e72b29cdb3"), looks := false }, kinds := [], alts := [], laidByText := true, laidKinds := [.funcs], laidTests := true, laidLooks := .later }
def SpareLastsUptoCardSaid : Prop := Claim7.holds Tryd.pinned (.plain (OpenSpec.upto spareLastsSpec)) spareLastsUptoCard

/-- THE SECOND FORM's CARD OF 'remontoirlaw08.SparePlans'. -/
def sparePlansUptoCard : Claim7 := { stood := { row := sparePlansUptoRow, standIns := [], harness := (true, "0279d43abd22c3ad063ee4f45022fdbda860ebc236e8aba74b8ae6e72b29cdb3"), looks := false }, kinds := [], alts := [], laidByText := true, laidKinds := [.funcs], laidTests := true, laidLooks := .later }
def SparePlansUptoCardSaid : Prop := Claim7.holds Tryd.pinned (.plain (OpenSpec.upto sparePlansSpec)) sparePlansUptoCard

/-- THE SECOND FORM's CARD OF 'remontoirlaw08.SpareReaches'. -/
def spareReachesUptoCard : Claim7 := { stood := { row := spareReachesUptoRow, standIns := [], harness := (true, "0279d43abd22c3ad063ee4f45022fdbda860ebc236e8aba74b8ae6e72b29cdb3"), looks := false }, kinds := [], alts := [], laidByText := true, laidKinds := [.funcs], laidTests := true, laidLooks := .later }
def SpareReachesUptoCardSaid : Prop := Claim7.holds Tryd.pinned (.plain (OpenSpec.upto spareReachesSpec)) spareReachesUptoCard

/-- THE SECOND FORM's CARD OF 'remontoirlaw08.SpareSilent'. -/
def spareSilentUptoCard : Claim7 := { stood := { row := spareSilentUptoRow, standIns := [], harness := (true, "0279d43abd22c3ad063ee4f45022fdbda860ebc236e8aba74b8ae6e72b29cdb3"), looks := false }, kinds := [], alts := [], laidByText := true, laidKinds := [.funcs], laidTests := true, laidLooks := .later }
def SpareSilentUptoCardSaid : Prop := Claim7.holds Tryd.pinned (.plain (OpenSpec.upto spareSilentSpec)) spareSilentUptoCard

/-- THE SECOND FORM's CARD OF 'remontoirlaw08.SpareTrue'. -/
def spareTrueUptoCard : Claim7 := { stood := { row := spareTrueUptoRow, standIns := [], harness := (true, "0279d43abd22c3ad063ee4f45022fdbda860ebc236e8aba74b8ae6e72b29cdb3"), looks := false }, kinds := [], alts := [], laidByText := true, laidKinds := [.funcs], laidTests := true, laidLooks := .later }
def SpareTrueUptoCardSaid : Prop := Claim7.holds Tryd.pinned (.plain (OpenSpec.upto spareTrueSpec)) spareTrueUptoCard

/-- THE SECOND FORM's CARD OF 'remontoirlaw08.SpareFewest'. -/
def spareFewestUptoCard : Claim7 := { stood := { row := spareFewestUptoRow, standIns := [], harness := (true, "0279d43abd22c3ad063ee4f45022fdbda860ebc236e8aba74b8ae6e72b29cdb3"), looks := false }, kinds := [], alts := [], laidByText := true, laidKinds := [.funcs], laidTests := true, laidLooks := .later }
def SpareFewestUptoCardSaid : Prop := Claim7.holds Tryd.pinned (.plain (OpenSpec.upto spareFewestSpec)) spareFewestUptoCard

/-- THE SECOND FORM's CARD OF 'remontoirlaw08.SpareTried'. -/
def spareTriedUptoCard : Claim7 := { stood := { row := spareTriedUptoRow, standIns := [], harness := (true, "0279d43abd22c3ad063ee4f45022fdbda860ebc236e8aba74b8ae6e72b29cdb3"), looks := false }, kinds := [], alts := [], laidByText := true, laidKinds := [.funcs], laidTests := true, laidLooks := .later }
def SpareTriedUptoCardSaid : Prop := Claim7.holds Tryd.pinned (.plain (OpenSpec.upto spareTriedSpec)) spareTriedUptoCard

/-- THE SECOND FORM's CARD OF 'remontoirlaw08.SpareSingle'. -/
def spareSingleUptoCard : Claim7 := { stood := { row := spareSingleUptoRow, standIns := [], harness := (true, "0279d43abd22c3ad063ee4f45022fdbda860ebc236e8aba74b8ae6e72b29cdb3"), looks := false }, kinds := [], alts := [], laidByText := true, laidKinds := [.funcs], laidTests := true, laidLooks := .later }
def SpareSingleUptoCardSaid : Prop := Claim7.holds Tryd.pinned (.plain (OpenSpec.upto spareSingleSpec)) spareSingleUptoCard

/-- THE SECOND FORM's CARD OF 'remontoirlaw08.SpareEasier'. -/
def spareEasierUptoCard : Claim7 := { stood := { row := spareEasierUptoRow, standIns := [], harness := (true, "0279d43abd22c3ad063ee4f45022fdbda860ebc236e8aba74b8ae6e72b29cdb3"), looks := false }, kinds := [], alts := [], laidByText := true, laidKinds := [.funcs], laidTests := true, laidLooks := .later }
def SpareEasierUptoCardSaid : Prop := Claim7.holds Tryd.pinned (.plain (OpenSpec.upto spareEasierSpec)) spareEasierUptoCard

/-- THE SECOND FORM's CARD OF 'remontoirlaw08.SpareNeeds'. -/
def spareNeedsUptoCard : Claim7 := { stood := { row := spareNeedsUptoRow, standIns := [], harness := (true, "0279d43abd22c3ad063ee4f45022fdbda860ebc236e8aba74b8ae6e72b29cdb3"), looks := false }, kinds := [], alts := [], laidByText := true, laidKinds := [.funcs], laidTests := true, laidLooks := .later }
def SpareNeedsUptoCardSaid : Prop := Claim7.holds Tryd.pinned (.plain (OpenSpec.upto spareNeedsSpec)) spareNeedsUptoCard

/-- THE SECOND FORM's CARD OF 'remontoirlaw08.SpareHushed'. -/
def spareHushedUptoCard : Claim7 := { stood := { row := spareHushedUptoRow, standIns := [], harness := (true, "0279d43abd22c3ad063ee4f45022fdbda860ebc236e8aba74b8ae6e72b29cdb3"), looks := false }, kinds := [], alts := [], laidByText := true, laidKinds := [.funcs], laidTests := true, laidLooks := .later }
def SpareHushedUptoCardSaid : Prop := Claim7.holds Tryd.pinned (.plain (OpenSpec.upto spareHushedSpec)) spareHushedUptoCard

/-- THE SECOND FORM's CARD OF 'remontoirlaw08.SpareKnown'. -/
def spareKnownUptoCard : Claim7 := { stood := { row := spareKnownUptoRow, standIns := [], harness := (true, "0279d43abd22c3ad063ee4f45022fdbda860ebc236e8aba74b8ae6e72b29cdb3"), looks := false }, kinds := [], alts := [], laidByText := true, laidKinds := [.funcs], laidTests := true, laidLooks := .later }
def SpareKnownUptoCardSaid : Prop := Claim7.holds Tryd.pinned (.plain (OpenSpec.upto spareKnownSpec)) spareKnownUptoCard
end Rows
end Go.Proofs.YtidmdgjgpmeecaaDoor
