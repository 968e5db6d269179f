/-
  DERIVED. GIVEN WITH THE SEED: THE CARDS: each row of YtgdfljiliflhfaaGreatDoorRows.lean that lists a variable, with what it lists TIED to the program's text (the seventh form; the later family's looks); each row that meets fmt, with fmt's text TOLD by the authors' own Lean function (tested against real Go, not proved from fmt's source: count such statements apart). THE CARD IS WHAT COUNTS. Prove the row's statement (the work); the ties are given (YtgdfljiliflhfaaGreatDoorTie.lean); close each card by the builder's one call (the guide's Derived/Test/ToyasCard.lean, 'card_holds'). Laid BY PROGRAM, IN A SANDBOX (cutbox-door.mjs). By AI agents, Wed Nov 11 2026. No macro, syntax, notation, axiom, sorry.
-/
import Derived.Test.YtgdfljiliflhfaaGreatDoorRows
import GoSem.ClaimSeven
namespace Go.Proofs.YtgdfljiliflhfaaGreatDoor
namespace Rows

/-- THE TIED CARD OF 'remontoirtop.TopCompared'. -/
def topComparedCard : Claim7 := { stood := { row := topComparedRow, standIns := [], harness := (true, "64f10ee71e061f0415a20da07ffc8e26a97104522b44362b38cbba392ac747a8"), looks := false }, kinds := [], alts := [], laidByText := true, laidKinds := [.funcs, .funcs], laidTests := true, laidLooks := .later }
def TopComparedCardSaid : Prop := Claim7.holds Tryz.pinned (.plain (OpenSpec.ofChange topComparedSpec)) topComparedCard

/-- THE SECOND FORM's CARD OF 'remontoirtop.TopCompared'. -/
def topComparedUptoCard : Claim7 := { stood := { row := topComparedUptoRow, standIns := [], harness := (true, "64f10ee71e061f0415a20da07ffc8e26a97104522b44362b38cbba392ac747a8"), looks := false }, kinds := [], alts := [], laidByText := true, laidKinds := [.funcs, .funcs], laidTests := true, laidLooks := .later }
def TopComparedUptoCardSaid : Prop := Claim7.holds Tryz.pinned (.plain (OpenSpec.upto topComparedSpec)) topComparedUptoCard
end Rows
end Go.Proofs.YtgdfljiliflhfaaGreatDoor
