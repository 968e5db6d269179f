/-
  DERIVED. GIVEN WITH THE SEED: THE CARDS: each row of YthdbokigcfbgeaaDoorRows.lean that lists a variable, with what it lists TIED to the program's text (the seventh form; the later family's looks); each row that meets fmt, with fmt's text TOLD by the authors' own Lean function (tested against real Go, not proved from fmt's source: count such statements apart). THE CARD IS WHAT COUNTS. Prove the row's statement (the work); the ties are given (YthdbokigcfbgeaaDoorTie.lean); close each card by the builder's one call (the guide's Derived/Test/ToyasCard.lean, 'card_holds'). Laid BY PROGRAM, IN A SANDBOX (cutbox-door.mjs). By AI agents, Wed Nov 11 2026. No macro, syntax, notation, axiom, sorry.
-/
import Derived.Test.YthdbokigcfbgeaaDoorRows
import GoSem.ClaimSeven
namespace Go.Proofs.YthdbokigcfbgeaaDoor
namespace Rows

/-- THE TIED CARD OF 'remontoirlaw06.LineRoutes'. -/
def lineRoutesCard : Claim7 := { stood := { row := lineRoutesRow, standIns := [], harness := (true, "f9e4f0e642e4d78ef8575cebcebec94ad3dd65c7614e670ceae93357b0d1602f"), looks := false }, kinds := [], alts := [], laidByText := true, laidKinds := [.funcs], laidTests := true, laidLooks := .later }
def LineRoutesCardSaid : Prop := Claim7.holds Tryd.pinned (.plain (OpenSpec.ofChange lineRoutesSpec)) lineRoutesCard

/-- THE TIED CARD OF 'remontoirlaw06.LineDelays'. -/
def lineDelaysCard : Claim7 := { stood := { row := lineDelaysRow, standIns := [], harness := (true, "f9e4f0e642e4d78ef8575cebcebec94ad3dd65c7614e670ceae93357b0d1602f"), looks := false }, kinds := [], alts := [], laidByText := true, laidKinds := [.funcs], laidTests := true, laidLooks := .later }
def LineDelaysCardSaid : Prop := Claim7.holds Tryd.pinned (.plain (OpenSpec.ofChange lineDelaysSpec)) lineDelaysCard

/-- THE TIED CARD OF 'remontoirlaw06.LineCuts'. -/
def lineCutsCard : Claim7 := { stood := { row := lineCutsRow, standIns := [], harness := (true, "f9e4f0e642e4d78ef8575cebcebec94ad3dd65c7614e670ceae93357b0d1602f"), looks := false }, kinds := [], alts := [], laidByText := true, laidKinds := [.funcs], laidTests := true, laidLooks := .later }
def LineCutsCardSaid : Prop := Claim7.holds Tryd.pinned (.plain (OpenSpec.ofChange lineCutsSpec)) lineCutsCard

/-- THE TIED CARD OF 'remontoirlaw06.LineTrue'. -/
def lineTrueCard : Claim7 := { stood := { row := lineTrueRow, standIns := [], harness := (true, "f9e4f0e642e4d78ef8575cebcebec94ad3dd65c7614e670ceae93357b0d1602f"), looks := false }, kinds := [], alts := [], laidByText := true, laidKinds := [.funcs], laidTests := true, laidLooks := .later }
def LineTrueCardSaid : Prop := Claim7.holds Tryd.pinned (.plain (OpenSpec.ofChange lineTrueSpec)) lineTrueCard

/-- THE TIED CARD OF 'remontoirlaw06.LineEnds'. -/
def lineEndsCard : Claim7 := { stood := { row := lineEndsRow, standIns := [], harness := (true, "f9e4f0e642e4d78ef8575cebcebec94ad3dd65c7614e670ceae93357b0d1602f"), looks := false }, kinds := [], alts := [], laidByText := true, laidKinds := [.funcs], laidTests := true, laidLooks := .later }
def LineEndsCardSaid : Prop := Claim7.holds Tryd.pinned (.plain (OpenSpec.ofChange lineEndsSpec)) lineEndsCard

/-- THE TIED CARD OF 'remontoirlaw06.LineListed'. -/
def lineListedCard : Claim7 := { stood := { row := lineListedRow, standIns := [], harness := (true, "f9e4f0e642e4d78ef8575cebcebec94ad3dd65c7614e670ceae93357b0d1602f"), looks := false }, kinds := [], alts := [], laidByText := true, laidKinds := [.funcs], laidTests := true, laidLooks := .later }
def LineListedCardSaid : Prop := Claim7.holds Tryd.pinned (.plain (OpenSpec.ofChange lineListedSpec)) lineListedCard

/-- THE TIED CARD OF 'remontoirlaw06.LineMore'. -/
def lineMoreCard : Claim7 := { stood := { row := lineMoreRow, standIns := [], harness := (true, "f9e4f0e642e4d78ef8575cebcebec94ad3dd65c7614e670ceae93357b0d1602f"), looks := false }, kinds := [], alts := [], laidByText := true, laidKinds := [.funcs], laidTests := true, laidLooks := .later }
def LineMoreCardSaid : Prop := Claim7.holds Tryd.pinned (.plain (OpenSpec.ofChange lineMoreSpec)) lineMoreCard

/-- THE TIED CARD OF 'remontoirlaw06.LineWider'. -/
def lineWiderCard : Claim7 := { stood := { row := lineWiderRow, standIns := [], harness := (true, "f9e4f0e642e4d78ef8575cebcebec94ad3dd65c7614e670ceae93357b0d1602f"), looks := false }, kinds := [], alts := [], laidByText := true, laidKinds := [.funcs], laidTests := true, laidLooks := .later }
def LineWiderCardSaid : Prop := Claim7.holds Tryd.pinned (.plain (OpenSpec.ofChange lineWiderSpec)) lineWiderCard

/-- THE TIED CARD OF 'remontoirlaw06.LineCut'. -/
def lineCutCard : Claim7 := { stood := { row := lineCutRow, standIns := [], harness := (true, "f9e4f0e642e4d78ef8575cebcebec94ad3dd65c7614e670ceae93357b0d1602f"), looks := false }, kinds := [], alts := [], laidByText := true, laidKinds := [.funcs], laidTests := true, laidLooks := .later }
def LineCutCardSaid : Prop := Claim7.holds Tryd.pinned (.plain (OpenSpec.ofChange lineCutSpec)) lineCutCard

/-- THE TIED CARD OF 'remontoirlaw06.LineLeft'. -/
def lineLeftCard : Claim7 := { stood := { row := lineLeftRow, standIns := [], harness := (true, "f9e4f0e642e4d78ef8575cebcebec94ad3dd65c7614e670ceae93357b0d1602f"), looks := false }, kinds := [], alts := [], laidByText := true, laidKinds := [.funcs], laidTests := true, laidLooks := .later }
def LineLeftCardSaid : Prop := Claim7.holds Tryd.pinned (.plain (OpenSpec.ofChange lineLeftSpec)) lineLeftCard

/-- THE TIED CARD OF 'remontoirlaw06.LineTurned'. -/
def lineTurnedCard : Claim7 := { stood := { row := lineTurnedRow, standIns := [], harness := (true, "f9e4f0e642e4d78ef8575cebcebec94ad3dd65c7614e670ceae93357b0d1602f"), looks := false }, kinds := [], alts := [], laidByText := true, laidKinds := [.funcs], laidTests := true, laidLooks := .later }
def LineTurnedCardSaid : Prop := Claim7.holds Tryd.pinned (.plain (OpenSpec.ofChange lineTurnedSpec)) lineTurnedCard

/-- THE TIED CARD OF 'remontoirlaw06.LineKnown'. -/
def lineKnownCard : Claim7 := { stood := { row := lineKnownRow, standIns := [], harness := (true, "f9e4f0e642e4d78ef8575cebcebec94ad3dd65c7614e670ceae93357b0d1602f"), looks := false }, kinds := [], alts := [], laidByText := true, laidKinds := [.funcs], laidTests := true, laidLooks := .later }
def LineKnownCardSaid : Prop := Claim7.holds Tryd.pinned (.plain (OpenSpec.ofChange lineKnownSpec)) lineKnownCard

/-- THE SECOND FORM's CARD OF 'remontoirlaw06.LineRoutes'. -/
def lineRoutesUptoCard : Claim7 := { stood := { row := lineRoutesUptoRow, standIns := [], harness := (true, "f9e4f0e642e4d78ef8575cebcebec94ad3dd65c7614e670ceae93357b0d1602f"), looks := false }, kinds := [], alts := [], laidByText := true, laidKinds := [.funcs], laidTests := true, laidLooks := .later }
def LineRoutesUptoCardSaid : Prop := Claim7.holds Tryd.pinned (.plain (OpenSpec.upto lineRoutesSpec)) lineRoutesUptoCard

/-- THE SECOND FORM's CARD OF 'remontoirlaw06.LineDelays'. -/
def lineDelaysUptoCard : Claim7 := { stood := { row := lineDelaysUptoRow, standIns := [], harness := (true, "f9e4f0e642e4d78ef8575cebcebec94ad3dd65c7614e670ceae93357b0d1602f"), looks := false }, kinds := [], alts := [], laidByText := true, laidKinds := [.funcs], laidTests := true, laidLooks := .later }
def LineDelaysUptoCardSaid : Prop := Claim7.holds Tryd.pinned (.plain (OpenSpec.upto lineDelaysSpec)) lineDelaysUptoCard

/-- THE SECOND FORM's CARD OF 'remontoirlaw06.LineCuts'. -/
def lineCutsUptoCard : Claim7 := { stood := { row := lineCutsUptoRow, standIns := [], harness := (true, "f9e4f0e642e4d78ef8575cebcebec94ad3dd65c7614e670ceae93357b0d1602f"), looks := false }, kinds := [], alts := [], laidByText := true, laidKinds := [.funcs], laidTests := true, laidLooks := .later }
def LineCutsUptoCardSaid : Prop := Claim7.holds Tryd.pinned (.plain (OpenSpec.upto lineCutsSpec)) lineCutsUptoCard

/-- THE SECOND FORM's CARD OF 'remontoirlaw06.LineTrue'. -/
def lineTrueUptoCard : Claim7 := { stood := { row := lineTrueUptoRow, standIns := [], harness := (true, "f9e4f0e642e4d78ef8575cebcebec94ad3dd65c7614e670ceae93357b0d1602f"), looks := false }, kinds := [], alts := [], laidByText := true, laidKinds := [.funcs], laidTests := true, laidLooks := .later }
def LineTrueUptoCardSaid : Prop := Claim7.holds Tryd.pinned (.plain (OpenSpec.upto lineTrueSpec)) lineTrueUptoCard

/-- THE SECOND FORM's CARD OF 'remontoirlaw06.LineEnds'. -/
def lineEndsUptoCard : Claim7 := { stood := { row := lineEndsUptoRow, standIns := [], harness := (true, "f9e4f0e642e4d78ef8575cebcebec94ad3dd65c7614e670ceae93357b0d1602f"), looks := false }, kinds := [], alts := [], laidByText := true, laidKinds := [.funcs], laidTests := true, laidLooks := .later }
def LineEndsUptoCardSaid : Prop := Claim7.holds Tryd.pinned (.plain (OpenSpec.upto lineEndsSpec)) lineEndsUptoCard

/-- THE SECOND FORM's CARD OF 'remontoirlaw06.LineListed'. -/
def lineListedUptoCard : Claim7 := { stood := { row := lineListedUptoRow, standIns := [], harness := (true, "f9e4f0e642e4d78ef8575cebcebec94ad3dd65c7614e670ceae93357b0d1602f"), looks := false }, kinds := [], alts := [], laidByText := true, laidKinds := [.funcs], laidTests := true, laidLooks := .later }
def LineListedUptoCardSaid : Prop := Claim7.holds Tryd.pinned (.plain (OpenSpec.upto lineListedSpec)) lineListedUptoCard

/-- THE SECOND FORM's CARD OF 'remontoirlaw06.LineMore'. -/
def lineMoreUptoCard : Claim7 := { stood := { row := lineMoreUptoRow, standIns := [], harness := (true, "f9e4f0e642e4d78ef8575cebcebec94ad3dd65c7614e670ceae93357b0d1602f"), looks := false }, kinds := [], alts := [], laidByText := true, laidKinds := [.funcs], laidTests := true, laidLooks := .later }
def LineMoreUptoCardSaid : Prop := Claim7.holds Tryd.pinned (.plain (OpenSpec.upto lineMoreSpec)) lineMoreUptoCard

/-- THE SECOND FORM's CARD OF 'remontoirlaw06.LineWider'. -/
def lineWiderUptoCard : Claim7 := { stood := { row := lineWiderUptoRow, standIns := [], harness := (true, "f9e4f0e642e4d78ef8575cebcebec94ad3dd65c7614e670ceae93357b0d1602f"), looks := false }, kinds := [], alts := [], laidByText := true, laidKinds := [.funcs], laidTests := true, laidLooks := .later }
def LineWiderUptoCardSaid : Prop := Claim7.holds Tryd.pinned (.plain (OpenSpec.upto lineWiderSpec)) lineWiderUptoCard

/-- THE SECOND FORM's CARD OF 'remontoirlaw06.LineCut'. -/
def lineCutUptoCard : Claim7 := { stood := { row := lineCutUptoRow, standIns := [], harness := (true, "f9e4f0e642e4d78ef8575cebcebec94ad3dd65c7614e670ceae93357b0d1602f"), looks := false }, kinds := [], alts := [], laidByText := true, laidKinds := [.funcs], laidTests := true, laidLooks := .later }
def LineCutUptoCardSaid : Prop := Claim7.holds Tryd.pinned (.plain (OpenSpec.upto lineCutSpec)) lineCutUptoCard

/-- THE SECOND FORM's CARD OF 'remontoirlaw06.LineLeft'. -/
def lineLeftUptoCard : Claim7 := { stood := { row := lineLeftUptoRow, standIns := [], harness := (true, "f9e4f0e642e4d78ef8575cebcebec94ad3dd65c7614e670ceae93357b0d1602f"), looks := false }, kinds := [], alts := [], laidByText := true, laidKinds := [.funcs], laidTests := true, laidLooks := .later }
def LineLeftUptoCardSaid : Prop := Claim7.holds Tryd.pinned (.plain (OpenSpec.upto lineLeftSpec)) lineLeftUptoCard

/-- THE SECOND FORM's CARD OF 'remontoirlaw06.LineTurned'. -/
def lineTurnedUptoCard : Claim7 := { stood := { row := lineTurnedUptoRow, standIns := [], harness := (true, "f9e4f0e642e4d78ef8575cebcebec94ad3dd65c7614e670ceae93357b0d1602f"), looks := false }, kinds := [], alts := [], laidByText := true, laidKinds := [.funcs], laidTests := true, laidLooks := .later }
def LineTurnedUptoCardSaid : Prop := Claim7.holds Tryd.pinned (.plain (OpenSpec.upto lineTurnedSpec)) lineTurnedUptoCard

/-- THE SECOND FORM's CARD OF 'remontoirlaw06.LineKnown'. -/
def lineKnownUptoCard : Claim7 := { stood := { row := lineKnownUptoRow, standIns := [], harness := (true, "f9e4f0e642e4d78ef8575cebcebec94ad3dd65c7614e670ceae93357b0d1602f"), looks := false }, kinds := [], alts := [], laidByText := true, laidKinds := [.funcs], laidTests := true, laidLooks := .later }
def LineKnownUptoCardSaid : Prop := Claim7.holds Tryd.pinned (.plain (OpenSpec.upto lineKnownSpec)) lineKnownUptoCard
end Rows
end Go.Proofs.YthdbokigcfbgeaaDoor
