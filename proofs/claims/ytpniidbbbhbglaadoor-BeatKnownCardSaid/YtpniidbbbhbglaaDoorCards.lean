/-
  DERIVED. GIVEN WITH THE SEED: THE CARDS: each row of YtpniidbbbhbglaaDoorRows.lean that lists a variable, with what it lists TIED to the program's text (the seventh form; the later family's looks); each row that meets fmt, with fmt's text TOLD by the authors' own Lean function (tested against real Go, not proved from fmt's source: count such statements apart). THE CARD IS WHAT COUNTS. Prove the row's statement (the work); the ties are given (YtpniidbbbhbglaaDoorTie.lean); close each card by the builder's one call (the guide's Derived/Test/ToyasCard.lean, 'card_holds'). Laid BY PROGRAM, IN A SANDBOX (cutbox-door.mjs). By AI agents, Wed Nov 11 2026. No macro, syntax, notation, axiom, sorry.
-/
import Derived.Test.YtpniidbbbhbglaaDoorRows
import GoSem.ClaimSeven
namespace Go.Proofs.YtpniidbbbhbglaaDoor
namespace Rows

/-- THE TIED CARD OF 'remontoirlaw02.BeatTruths'. -/
def beatTruthsCard : Claim7 := { stood := { row := beatTruthsRow, standIns := [], harness := (true, "30c8db4c5315b03aba8a334a528b67cd1c8a91070f31aa0e02402084a420e322"), looks := false }, kinds := [], alts := [], laidByText := true, laidKinds := [.funcs], laidTests := true, laidLooks := .later }
def BeatTruthsCardSaid : Prop := Claim7.holds Tryd.pinned (.plain (OpenSpec.ofChange beatTruthsSpec)) beatTruthsCard

/-- THE TIED CARD OF 'remontoirlaw02.BeatApart'. -/
def beatApartCard : Claim7 := { stood := { row := beatApartRow, standIns := [], harness := (true, "30c8db4c5315b03aba8a334a528b67cd1c8a91070f31aa0e02402084a420e322"), looks := false }, kinds := [], alts := [], laidByText := true, laidKinds := [.funcs], laidTests := true, laidLooks := .later }
def BeatApartCardSaid : Prop := Claim7.holds Tryd.pinned (.plain (OpenSpec.ofChange beatApartSpec)) beatApartCard

/-- THE TIED CARD OF 'remontoirlaw02.BeatCases'. -/
def beatCasesCard : Claim7 := { stood := { row := beatCasesRow, standIns := [], harness := (true, "30c8db4c5315b03aba8a334a528b67cd1c8a91070f31aa0e02402084a420e322"), looks := false }, kinds := [], alts := [], laidByText := true, laidKinds := [.funcs], laidTests := true, laidLooks := .later }
def BeatCasesCardSaid : Prop := Claim7.holds Tryd.pinned (.plain (OpenSpec.ofChange beatCasesSpec)) beatCasesCard

/-- THE TIED CARD OF 'remontoirlaw02.BeatWrongs'. -/
def beatWrongsCard : Claim7 := { stood := { row := beatWrongsRow, standIns := [], harness := (true, "30c8db4c5315b03aba8a334a528b67cd1c8a91070f31aa0e02402084a420e322"), looks := false }, kinds := [], alts := [], laidByText := true, laidKinds := [.funcs], laidTests := true, laidLooks := .later }
def BeatWrongsCardSaid : Prop := Claim7.holds Tryd.pinned (.plain (OpenSpec.ofChange beatWrongsSpec)) beatWrongsCard

/-- THE TIED CARD OF 'remontoirlaw02.BeatTrue'. -/
def beatTrueCard : Claim7 := { stood := { row := beatTrueRow, standIns := [], harness := (true, "30c8db4c5315b03aba8a334a528b67cd1c8a91070f31aa0e02402084a420e322"), looks := false }, kinds := [], alts := [], laidByText := true, laidKinds := [.funcs], laidTests := true, laidLooks := .later }
def BeatTrueCardSaid : Prop := Claim7.holds Tryd.pinned (.plain (OpenSpec.ofChange beatTrueSpec)) beatTrueCard

/-- THE TIED CARD OF 'remontoirlaw02.BeatEnds'. -/
def beatEndsCard : Claim7 := { stood := { row := beatEndsRow, standIns := [], harness := (true, "30c8db4c5315b03aba8a334a528b67cd1c8a91070f31aa0e02402084a420e322"), looks := false }, kinds := [], alts := [], laidByText := true, laidKinds := [.funcs], laidTests := true, laidLooks := .later }
def BeatEndsCardSaid : Prop := Claim7.holds Tryd.pinned (.plain (OpenSpec.ofChange beatEndsSpec)) beatEndsCard

/-- THE TIED CARD OF 'remontoirlaw02.BeatMore'. -/
def beatMoreCard : Claim7 := { stood := { row := beatMoreRow, standIns := [], harness := (true, "30c8db4c5315b03aba8a334a528b67cd1c8a91070f31aa0e02402084a420e322"), looks := false }, kinds := [], alts := [], laidByText := true, laidKinds := [.funcs], laidTests := true, laidLooks := .later }
def BeatMoreCardSaid : Prop := Claim7.holds Tryd.pinned (.plain (OpenSpec.ofChange beatMoreSpec)) beatMoreCard

/-- THE TIED CARD OF 'remontoirlaw02.BeatWider'. -/
def beatWiderCard : Claim7 := { stood := { row := beatWiderRow, standIns := [], harness := (true, "30c8db4c5315b03aba8a334a528b67cd1c8a91070f31aa0e02402084a420e322"), looks := false }, kinds := [], alts := [], laidByText := true, laidKinds := [.funcs], laidTests := true, laidLooks := .later }
def BeatWiderCardSaid : Prop := Claim7.holds Tryd.pinned (.plain (OpenSpec.ofChange beatWiderSpec)) beatWiderCard

/-- THE TIED CARD OF 'remontoirlaw02.BeatTurned'. -/
def beatTurnedCard : Claim7 := { stood := { row := beatTurnedRow, standIns := [], harness := (true, "30c8db4c5315b03aba8a334a528b67cd1c8a91070f31aa0e02402084a420e322"), looks := false }, kinds := [], alts := [], laidByText := true, laidKinds := [.funcs], laidTests := true, laidLooks := .later }
def BeatTurnedCardSaid : Prop := Claim7.holds Tryd.pinned (.plain (OpenSpec.ofChange beatTurnedSpec)) beatTurnedCard

/-- THE TIED CARD OF 'remontoirlaw02.BeatLeft'. -/
def beatLeftCard : Claim7 := { stood := { row := beatLeftRow, standIns := [], harness := (true, "30c8db4c5315b03aba8a334a528b67cd1c8a91070f31aa0e02402084a420e322"), looks := false }, kinds := [], alts := [], laidByText := true, laidKinds := [.funcs], laidTests := true, laidLooks := .later }
def BeatLeftCardSaid : Prop := Claim7.holds Tryd.pinned (.plain (OpenSpec.ofChange beatLeftSpec)) beatLeftCard

/-- THE TIED CARD OF 'remontoirlaw02.BeatRates'. -/
def beatRatesCard : Claim7 := { stood := { row := beatRatesRow, standIns := [], harness := (true, "30c8db4c5315b03aba8a334a528b67cd1c8a91070f31aa0e02402084a420e322"), looks := false }, kinds := [], alts := [], laidByText := true, laidKinds := [.funcs], laidTests := true, laidLooks := .later }
def BeatRatesCardSaid : Prop := Claim7.holds Tryd.pinned (.plain (OpenSpec.ofChange beatRatesSpec)) beatRatesCard

/-- THE TIED CARD OF 'remontoirlaw02.BeatKnown'. -/
def beatKnownCard : Claim7 := { stood := { row := beatKnownRow, standIns := [], harness := (true, "30c8db4c5315b03aba8a334a528b67cd1c8a91070f31aa0e02402084a420e322"), looks := false }, kinds := [], alts := [], laidByText := true, laidKinds := [.funcs], laidTests := true, laidLooks := .later }
def BeatKnownCardSaid : Prop := Claim7.holds Tryd.pinned (.plain (OpenSpec.ofChange beatKnownSpec)) beatKnownCard

/-- THE SECOND FORM's CARD OF 'remontoirlaw02.BeatTruths'. -/
def beatTruthsUptoCard : Claim7 := { stood := { row := beatTruthsUptoRow, standIns := [], harness := (true, "30c8db4c5315b03aba8a334a528b67cd1c8a91070f31aa0e02402084a420e322"), looks := false }, kinds := [], alts := [], laidByText := true, laidKinds := [.funcs], laidTests := true, laidLooks := .later }
def BeatTruthsUptoCardSaid : Prop := Claim7.holds Tryd.pinned (.plain (OpenSpec.upto beatTruthsSpec)) beatTruthsUptoCard

/-- THE SECOND FORM's CARD OF 'remontoirlaw02.BeatApart'. -/
def beatApartUptoCard : Claim7 := { stood := { row := beatApartUptoRow, standIns := [], harness := (true, "30c8db4c5315b03aba8a334a528b67cd1c8a91070f31aa0e02402084a420e322"), looks := false }, kinds := [], alts := [], laidByText := true, laidKinds := [.funcs], laidTests := true, laidLooks := .later }
def BeatApartUptoCardSaid : Prop := Claim7.holds Tryd.pinned (.plain (OpenSpec.upto beatApartSpec)) beatApartUptoCard

/-- THE SECOND FORM's CARD OF 'remontoirlaw02.BeatCases'. -/
def beatCasesUptoCard : Claim7 := { stood := { row := beatCasesUptoRow, standIns := [], harness := (true, "30c8db4c5315b03aba8a334a528b67cd1c8a91070f31aa0e02402084a420e322"), looks := false }, kinds := [], alts := [], laidByText := true, laidKinds := [.funcs], laidTests := true, laidLooks := .later }
def BeatCasesUptoCardSaid : Prop := Claim7.holds Tryd.pinned (.plain (OpenSpec.upto beatCasesSpec)) beatCasesUptoCard

/-- THE SECOND FORM's CARD OF 'remontoirlaw02.BeatWrongs'. -/
def beatWrongsUptoCard : Claim7 := { stood := { row := beatWrongsUptoRow, standIns := [], harness := (true, "30c8db4c5315b03aba8a334a528b67cd1c8a91070f31aa0e02402084a420e322"), looks := false }, kinds := [], alts := [], laidByText := true, laidKinds := [.funcs], laidTests := true, laidLooks := .later }
def BeatWrongsUptoCardSaid : Prop := Claim7.holds Tryd.pinned (.plain (OpenSpec.upto beatWrongsSpec)) beatWrongsUptoCard

/-- THE SECOND FORM's CARD OF 'remontoirlaw02.BeatTrue'. -/
def beatTrueUptoCard : Claim7 := { stood := { row := beatTrueUptoRow, standIns := [], harness := (true, "30c8db4c5315b03aba8a334a528b67cd1c8a91070f31aa0e02402084a420e322"), looks := false }, kinds := [], alts := [], laidByText := true, laidKinds := [.funcs], laidTests := true, laidLooks := .later }
def BeatTrueUptoCardSaid : Prop := Claim7.holds Tryd.pinned (.plain (OpenSpec.upto beatTrueSpec)) beatTrueUptoCard

/-- THE SECOND FORM's CARD OF 'remontoirlaw02.BeatEnds'. -/
def beatEndsUptoCard : Claim7 := { stood := { row := beatEndsUptoRow, standIns := [], harness := (true, "30c8db4c5315b03aba8a334a528b67cd1c8a91070f31aa0e02402084a420e322"), looks := false }, kinds := [], alts := [], laidByText := true, laidKinds := [.funcs], laidTests := true, laidLooks := .later }
def BeatEndsUptoCardSaid : Prop := Claim7.holds Tryd.pinned (.plain (OpenSpec.upto beatEndsSpec)) beatEndsUptoCard

/-- THE SECOND FORM's CARD OF 'remontoirlaw02.BeatMore'. -/
def beatMoreUptoCard : Claim7 := { stood := { row := beatMoreUptoRow, standIns := [], harness := (true, "30c8db4c5315b03aba8a334a528b67cd1c8a91070f31aa0e02402084a420e322"), looks := false }, kinds := [], alts := [], laidByText := true, laidKinds := [.funcs], laidTests := true, laidLooks := .later }
def BeatMoreUptoCardSaid : Prop := Claim7.holds Tryd.pinned (.plain (OpenSpec.upto beatMoreSpec)) beatMoreUptoCard

/-- THE SECOND FORM's CARD OF 'remontoirlaw02.BeatWider'. -/
def beatWiderUptoCard : Claim7 := { stood := { row := beatWiderUptoRow, standIns := [], harness := (true, "30c8db4c5315b03aba8a334a528b67cd1c8a91070f31aa0e02402084a420e322"), looks := false }, kinds := [], alts := [], laidByText := true, laidKinds := [.funcs], laidTests := true, laidLooks := .later }
def BeatWiderUptoCardSaid : Prop := Claim7.holds Tryd.pinned (.plain (OpenSpec.upto beatWiderSpec)) beatWiderUptoCard

/-- THE SECOND FORM's CARD OF 'remontoirlaw02.BeatTurned'. -/
def beatTurnedUptoCard : Claim7 := { stood := { row := beatTurnedUptoRow, standIns := [], harness := (true, "30c8db4c5315b03aba8a334a528b67cd1c8a91070f31aa0e02402084a420e322"), looks := false }, kinds := [], alts := [], laidByText := true, laidKinds := [.funcs], laidTests := true, laidLooks := .later }
def BeatTurnedUptoCardSaid : Prop := Claim7.holds Tryd.pinned (.plain (OpenSpec.upto beatTurnedSpec)) beatTurnedUptoCard

/-- THE SECOND FORM's CARD OF 'remontoirlaw02.BeatLeft'. -/
def beatLeftUptoCard : Claim7 := { stood := { row := beatLeftUptoRow, standIns := [], harness := (true, "30c8db4c5315b03aba8a334a528b67cd1c8a91070f31aa0e02402084a420e322"), looks := false }, kinds := [], alts := [], laidByText := true, laidKinds := [.funcs], laidTests := true, laidLooks := .later }
def BeatLeftUptoCardSaid : Prop := Claim7.holds Tryd.pinned (.plain (OpenSpec.upto beatLeftSpec)) beatLeftUptoCard

/-- THE SECOND FORM's CARD OF 'remontoirlaw02.BeatRates'. -/
def beatRatesUptoCard : Claim7 := { stood := { row := beatRatesUptoRow, standIns := [], harness := (true, "30c8db4c5315b03aba8a334a528b67cd1c8a91070f31aa0e02402084a420e322"), looks := false }, kinds := [], alts := [], laidByText := true, laidKinds := [.funcs], laidTests := true, laidLooks := .later }
def BeatRatesUptoCardSaid : Prop := Claim7.holds Tryd.pinned (.plain (OpenSpec.upto beatRatesSpec)) beatRatesUptoCard

/-- THE SECOND FORM's CARD OF 'remontoirlaw02.BeatKnown'. -/
def beatKnownUptoCard : Claim7 := { stood := { row := beatKnownUptoRow, standIns := [], harness := (true, "30c8db4c5315b03aba8a334a528b67cd1c8a91070f31aa0e02402084a420e322"), looks := false }, kinds := [], alts := [], laidByText := true, laidKinds := [.funcs], laidTests := true, laidLooks := .later }
def BeatKnownUptoCardSaid : Prop := Claim7.holds Tryd.pinned (.plain (OpenSpec.upto beatKnownSpec)) beatKnownUptoCard
end Rows
end Go.Proofs.YtpniidbbbhbglaaDoor
