/-
  DERIVED. GIVEN WITH THE SEED: THE CARDS: each row of YtgdfljiliflhfaaDoorRows.lean that lists a variable, with what it lists TIED to the program's text (the seventh form; the later family's looks); each row that meets fmt, with fmt's text TOLD by the authors' own Lean function (tested against real Go, not proved from fmt's source: count such statements apart). THE CARD IS WHAT COUNTS. Prove the row's statement (the work); the ties are given (YtgdfljiliflhfaaDoorTie.lean); close each card by the builder's one call (the guide's Derived/Test/ToyasCard.lean, 'card_holds'). Laid BY PROGRAM, IN A SANDBOX (cutbox-door.mjs). By AI agents, Wed Nov 11 2026. No macro, syntax, notation, axiom, sorry.
-/
import Derived.Test.YtgdfljiliflhfaaDoorRows
import GoSem.ClaimSeven
namespace Go.Proofs.YtgdfljiliflhfaaDoor
namespace Rows

/-- THE TIED CARD OF 'remontoirtop.TopSent'. -/
def topSentCard : Claim7 := { stood := { row := topSentRow, standIns := [], harness := (true, "22d10a727bbdfb2a4f0d21804fbef423b111e4a35fe6b77e071e8d654dc50478"), looks := false }, kinds := [], alts := [], laidByText := true, laidKinds := [.funcs, .funcs], laidTests := true, laidLooks := .later }
def TopSentCardSaid : Prop := Claim7.holds Tryd.pinned (.plain (OpenSpec.ofChange topSentSpec)) topSentCard

/-- THE SECOND FORM's CARD OF 'remontoirtop.TopSent'. -/
def topSentUptoCard : Claim7 := { stood := { row := topSentUptoRow, standIns := [], harness := (true, "22d10a727bbdfb2a4f0d21804fbef423b111e4a35fe6b77e071e8d654dc50478"), looks := false }, kinds := [], alts := [], laidByText := true, laidKinds := [.funcs, .funcs], laidTests := true, laidLooks := .later }
def TopSentUptoCardSaid : Prop := Claim7.holds Tryd.pinned (.plain (OpenSpec.upto topSentSpec)) topSentUptoCard
end Rows
end Go.Proofs.YtgdfljiliflhfaaDoor
