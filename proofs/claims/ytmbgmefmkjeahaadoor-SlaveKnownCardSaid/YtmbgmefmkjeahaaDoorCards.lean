/-
  DERIVED. GIVEN WITH THE SEED: THE CARDS: each row of YtmbgmefmkjeahaaDoorRows.lean that lists a variable, with what it lists TIED to the program's text (the seventh form; the later family's looks); each row that meets fmt, with fmt's text TOLD by the authors' own Lean function (tested against real Go, not proved from fmt's source: count such statements apart). THE CARD IS WHAT COUNTS. Prove the row's statement (the work); the ties are given (YtmbgmefmkjeahaaDoorTie.lean); close each card by the builder's one call (the guide's Derived/Test/ToyasCard.lean, 'card_holds'). Laid BY PROGRAM, IN A SANDBOX (cutbox-door.mjs). By AI agents, Wed Nov 11 2026. No macro, syntax, notation, axiom, sorry.
-/
import Derived.Test.YtmbgmefmkjeahaaDoorRows
import GoSem.ClaimSeven
namespace Go.Proofs.YtmbgmefmkjeahaaDoor
namespace Rows

/-- THE TIED CARD OF 'remontoirlaw07.SlaveCans'. -/
def slaveCansCard : Claim7 := { stood := { row := slaveCansRow, standIns := [], harness := (true, "e06393ed3d77621488112657950c824008a793377a79448800f7b9b20ab4cc3a"), looks := false }, kinds := [], alts := [], laidByText := true, laidKinds := [.funcs], laidTests := true, laidLooks := .later }
def SlaveCansCardSaid : Prop := Claim7.holds Tryd.pinned (.plain (OpenSpec.ofChange slaveCansSpec)) slaveCansCard

/-- THE TIED CARD OF 'remontoirlaw07.SlaveStories'. -/
def slaveStoriesCard : Claim7 := { stood := { row := slaveStoriesRow, standIns := [], harness := (true, "e06393ed3d77621488112657950c824008a793377a79448800f7b9b20ab4cc3a"), looks := false }, kinds := [], alts := [], laidByText := true, laidKinds := [.funcs], laidTests := true, laidLooks := .later }
def SlaveStoriesCardSaid : Prop := Claim7.holds Tryd.pinned (.plain (OpenSpec.ofChange slaveStoriesSpec)) slaveStoriesCard

/-- THE TIED CARD OF 'remontoirlaw07.SlaveWrongs'. -/
def slaveWrongsCard : Claim7 := { stood := { row := slaveWrongsRow, standIns := [], harness := (true, "e06393ed3d77621488112657950c824008a793377a79448800f7b9b20ab4cc3a"), looks := false }, kinds := [], alts := [], laidByText := true, laidKinds := [.funcs], laidTests := true, laidLooks := .later }
def SlaveWrongsCardSaid : Prop := Claim7.holds Tryd.pinned (.plain (OpenSpec.ofChange slaveWrongsSpec)) slaveWrongsCard

/-- THE TIED CARD OF 'remontoirlaw07.SlaveSets'. -/
def slaveSetsCard : Claim7 := { stood := { row := slaveSetsRow, standIns := [], harness := (true, "e06393ed3d77621488112657950c824008a793377a79448800f7b9b20ab4cc3a"), looks := false }, kinds := [], alts := [], laidByText := true, laidKinds := [.funcs], laidTests := true, laidLooks := .later }
def SlaveSetsCardSaid : Prop := Claim7.holds Tryd.pinned (.plain (OpenSpec.ofChange slaveSetsSpec)) slaveSetsCard

/-- THE TIED CARD OF 'remontoirlaw07.SlaveShows'. -/
def slaveShowsCard : Claim7 := { stood := { row := slaveShowsRow, standIns := [], harness := (true, "e06393ed3d77621488112657950c824008a793377a79448800f7b9b20ab4cc3a"), looks := false }, kinds := [], alts := [], laidByText := true, laidKinds := [.funcs], laidTests := true, laidLooks := .later }
def SlaveShowsCardSaid : Prop := Claim7.holds Tryd.pinned (.plain (OpenSpec.ofChange slaveShowsSpec)) slaveShowsCard

/-- THE TIED CARD OF 'remontoirlaw07.SlaveEach'. -/
def slaveEachCard : Claim7 := { stood := { row := slaveEachRow, standIns := [], harness := (true, "e06393ed3d77621488112657950c824008a793377a79448800f7b9b20ab4cc3a"), looks := false }, kinds := [], alts := [], laidByText := true, laidKinds := [.funcs], laidTests := true, laidLooks := .later }
def SlaveEachCardSaid : Prop := Claim7.holds Tryd.pinned (.plain (OpenSpec.ofChange slaveEachSpec)) slaveEachCard

/-- THE TIED CARD OF 'remontoirlaw07.SlaveNone'. -/
def slaveNoneCard : Claim7 := { stood := { row := slaveNoneRow, standIns := [], harness := (true, "e06393ed3d77621488112657950c824008a793377a79448800f7b9b20ab4cc3a"), looks := false }, kinds := [], alts := [], laidByText := true, laidKinds := [.funcs], laidTests := true, laidLooks := .later }
def SlaveNoneCardSaid : Prop := Claim7.holds Tryd.pinned (.plain (OpenSpec.ofChange slaveNoneSpec)) slaveNoneCard

/-- THE TIED CARD OF 'remontoirlaw07.SlaveTwo'. -/
def slaveTwoCard : Claim7 := { stood := { row := slaveTwoRow, standIns := [], harness := (true, "e06393ed3d77621488112657950c824008a793377a79448800f7b9b20ab4cc3a"), looks := false }, kinds := [], alts := [], laidByText := true, laidKinds := [.funcs], laidTests := true, laidLooks := .later }
def SlaveTwoCardSaid : Prop := Claim7.holds Tryd.pinned (.plain (OpenSpec.ofChange slaveTwoSpec)) slaveTwoCard

/-- THE TIED CARD OF 'remontoirlaw07.SlaveMore'. -/
def slaveMoreCard : Claim7 := { stood := { row := slaveMoreRow, standIns := [], harness := (true, "e06393ed3d77621488112657950c824008a793377a79448800f7b9b20ab4cc3a"), looks := false }, kinds := [], alts := [], laidByText := true, laidKinds := [.funcs], laidTests := true, laidLooks := .later }
def SlaveMoreCardSaid : Prop := Claim7.holds Tryd.pinned (.plain (OpenSpec.ofChange slaveMoreSpec)) slaveMoreCard

/-- THE TIED CARD OF 'remontoirlaw07.SlaveLeft'. -/
def slaveLeftCard : Claim7 := { stood := { row := slaveLeftRow, standIns := [], harness := (true, "e06393ed3d77621488112657950c824008a793377a79448800f7b9b20ab4cc3a"), looks := false }, kinds := [], alts := [], laidByText := true, laidKinds := [.funcs], laidTests := true, laidLooks := .later }
def SlaveLeftCardSaid : Prop := Claim7.holds Tryd.pinned (.plain (OpenSpec.ofChange slaveLeftSpec)) slaveLeftCard

/-- THE TIED CARD OF 'remontoirlaw07.SlaveRight'. -/
def slaveRightCard : Claim7 := { stood := { row := slaveRightRow, standIns := [], harness := (true, "e06393ed3d77621488112657950c824008a793377a79448800f7b9b20ab4cc3a"), looks := false }, kinds := [], alts := [], laidByText := true, laidKinds := [.funcs], laidTests := true, laidLooks := .later }
def SlaveRightCardSaid : Prop := Claim7.holds Tryd.pinned (.plain (OpenSpec.ofChange slaveRightSpec)) slaveRightCard

/-- THE TIED CARD OF 'remontoirlaw07.SlaveHomed'. -/
def slaveHomedCard : Claim7 := { stood := { row := slaveHomedRow, standIns := [], harness := (true, "e06393ed3d77621488112657950c824008a793377a79448800f7b9b20ab4cc3a"), looks := false }, kinds := [], alts := [], laidByText := true, laidKinds := [.funcs], laidTests := true, laidLooks := .later }
def SlaveHomedCardSaid : Prop := Claim7.holds Tryd.pinned (.plain (OpenSpec.ofChange slaveHomedSpec)) slaveHomedCard

/-- THE TIED CARD OF 'remontoirlaw07.SlaveKnown'. -/
def slaveKnownCard : Claim7 := { stood := { row := slaveKnownRow, standIns := [], harness := (true, "e06393ed3d77621488112657950c824008a793377a79448800f7b9b20ab4cc3a"), looks := false }, kinds := [], alts := [], laidByText := true, laidKinds := [.funcs], laidTests := true, laidLooks := .later }
def SlaveKnownCardSaid : Prop := Claim7.holds Tryd.pinned (.plain (OpenSpec.ofChange slaveKnownSpec)) slaveKnownCard

/-- THE SECOND FORM's CARD OF 'remontoirlaw07.SlaveCans'. -/
def slaveCansUptoCard : Claim7 := { stood := { row := slaveCansUptoRow, standIns := [], harness := (true, "e06393ed3d77621488112657950c824008a793377a79448800f7b9b20ab4cc3a"), looks := false }, kinds := [], alts := [], laidByText := true, laidKinds := [.funcs], laidTests := true, laidLooks := .later }
def SlaveCansUptoCardSaid : Prop := Claim7.holds Tryd.pinned (.plain (OpenSpec.upto slaveCansSpec)) slaveCansUptoCard

/-- THE SECOND FORM's CARD OF 'remontoirlaw07.SlaveStories'. -/
def slaveStoriesUptoCard : Claim7 := { stood := { row := slaveStoriesUptoRow, standIns := [], harness := (true, "e06393ed3d77621488112657950c824008a793377a79448800f7b9b20ab4cc3a"), looks := false }, kinds := [], alts := [], laidByText := true, laidKinds := [.funcs], laidTests := true, laidLooks := .later }
def SlaveStoriesUptoCardSaid : Prop := Claim7.holds Tryd.pinned (.plain (OpenSpec.upto slaveStoriesSpec)) slaveStoriesUptoCard

/-- THE SECOND FORM's CARD OF 'remontoirlaw07.SlaveWrongs'. -/
def slaveWrongsUptoCard : Claim7 := { stood := { row := slaveWrongsUptoRow, standIns := [], harness := (true, "e06393ed3d77621488112657950c824008a793377a79448800f7b9b20ab4cc3a"), looks := false }, kinds := [], alts := [], laidByText := true, laidKinds := [.funcs], laidTests := true, laidLooks := .later }
def SlaveWrongsUptoCardSaid : Prop := Claim7.holds Tryd.pinned (.plain (OpenSpec.upto slaveWrongsSpec)) slaveWrongsUptoCard

/-- THE SECOND FORM's CARD OF 'remontoirlaw07.SlaveSets'. -/
def slaveSetsUptoCard : Claim7 := { stood := { row := slaveSetsUptoRow, standIns := [], harness := (true, "e06393ed3d77621488112657950c824008a793377a79448800f7b9b20ab4cc3a"), looks := false }, kinds := [], alts := [], laidByText := true, laidKinds := [.funcs], laidTests := true, laidLooks := .later }
def SlaveSetsUptoCardSaid : Prop := Claim7.holds Tryd.pinned (.plain (OpenSpec.upto slaveSetsSpec)) slaveSetsUptoCard

/-- THE SECOND FORM's CARD OF 'remontoirlaw07.SlaveShows'. -/
def slaveShowsUptoCard : Claim7 := { stood := { row := slaveShowsUptoRow, standIns := [], harness := (true, "e06393ed3d77621488112657950c824008a793377a79448800f7b9b20ab4cc3a"), looks := false }, kinds := [], alts := [], laidByText := true, laidKinds := [.funcs], laidTests := true, laidLooks := .later }
def SlaveShowsUptoCardSaid : Prop := Claim7.holds Tryd.pinned (.plain (OpenSpec.upto slaveShowsSpec)) slaveShowsUptoCard

/-- THE SECOND FORM's CARD OF 'remontoirlaw07.SlaveEach'. -/
def slaveEachUptoCard : Claim7 := { stood := { row := slaveEachUptoRow, standIns := [], harness := (true, "e06393ed3d77621488112657950c824008a793377a79448800f7b9b20ab4cc3a"), looks := false }, kinds := [], alts := [], laidByText := true, laidKinds := [.funcs], laidTests := true, laidLooks := .later }
def SlaveEachUptoCardSaid : Prop := Claim7.holds Tryd.pinned (.plain (OpenSpec.upto slaveEachSpec)) slaveEachUptoCard

/-- THE SECOND FORM's CARD OF 'remontoirlaw07.SlaveNone'. -/
def slaveNoneUptoCard : Claim7 := { stood := { row := slaveNoneUptoRow, standIns := [], harness := (true, "e06393ed3d77621488112657950c824008a793377a79448800f7b9b20ab4cc3a"), looks := false }, kinds := [], alts := [], laidByText := true, laidKinds := [.funcs], laidTests := true, laidLooks := .later }
def SlaveNoneUptoCardSaid : Prop := Claim7.holds Tryd.pinned (.plain (OpenSpec.upto slaveNoneSpec)) slaveNoneUptoCard

/-- THE SECOND FORM's CARD OF 'remontoirlaw07.SlaveTwo'. -/
def slaveTwoUptoCard : Claim7 := { stood := { row := slaveTwoUptoRow, standIns := [], harness := (true, "e06393ed3d77621488112657950c824008a793377a79448800f7b9b20ab4cc3a"), looks := false }, kinds := [], alts := [], laidByText := true, laidKinds := [.funcs], laidTests := true, laidLooks := .later }
def SlaveTwoUptoCardSaid : Prop := Claim7.holds Tryd.pinned (.plain (OpenSpec.upto slaveTwoSpec)) slaveTwoUptoCard

/-- THE SECOND FORM's CARD OF 'remontoirlaw07.SlaveMore'. -/
def slaveMoreUptoCard : Claim7 := { stood := { row := slaveMoreUptoRow, standIns := [], harness := (true, "e06393ed3d77621488112657950c824008a793377a79448800f7b9b20ab4cc3a"), looks := false }, kinds := [], alts := [], laidByText := true, laidKinds := [.funcs], laidTests := true, laidLooks := .later }
def SlaveMoreUptoCardSaid : Prop := Claim7.holds Tryd.pinned (.plain (OpenSpec.upto slaveMoreSpec)) slaveMoreUptoCard

/-- THE SECOND FORM's CARD OF 'remontoirlaw07.SlaveLeft'. -/
def slaveLeftUptoCard : Claim7 := { stood := { row := slaveLeftUptoRow, standIns := [], harness := (true, "e06393ed3d77621488112657950c824008a793377a79448800f7b9b20ab4cc3a"), looks := false }, kinds := [], alts := [], laidByText := true, laidKinds := [.funcs], laidTests := true, laidLooks := .later }
def SlaveLeftUptoCardSaid : Prop := Claim7.holds Tryd.pinned (.plain (OpenSpec.upto slaveLeftSpec)) slaveLeftUptoCard

/-- THE SECOND FORM's CARD OF 'remontoirlaw07.SlaveRight'. -/
def slaveRightUptoCard : Claim7 := { stood := { row := slaveRightUptoRow, standIns := [], harness := (true, "e06393ed3d77621488112657950c824008a793377a79448800f7b9b20ab4cc3a"), looks := false }, kinds := [], alts := [], laidByText := true, laidKinds := [.funcs], laidTests := true, laidLooks := .later }
def SlaveRightUptoCardSaid : Prop := Claim7.holds Tryd.pinned (.plain (OpenSpec.upto slaveRightSpec)) slaveRightUptoCard

/-- THE SECOND FORM's CARD OF 'remontoirlaw07.SlaveHomed'. -/
def slaveHomedUptoCard : Claim7 := { stood := { row := slaveHomedUptoRow, standIns := [], harness := (true, "e06393ed3d77621488112657950c824008a793377a79448800f7b9b20ab4cc3a"), looks := false }, kinds := [], alts := [], laidByText := true, laidKinds := [.funcs], laidTests := true, laidLooks := .later }
def SlaveHomedUptoCardSaid : Prop := Claim7.holds Tryd.pinned (.plain (OpenSpec.upto slaveHomedSpec)) slaveHomedUptoCard

/-- THE SECOND FORM's CARD OF 'remontoirlaw07.SlaveKnown'. -/
def slaveKnownUptoCard : Claim7 := { stood := { row := slaveKnownUptoRow, standIns := [], harness := (true, "e06393ed3d77621488112657950c824008a793377a79448800f7b9b20ab4cc3a"), looks := false }, kinds := [], alts := [], laidByText := true, laidKinds := [.funcs], laidTests := true, laidLooks := .later }
def SlaveKnownUptoCardSaid : Prop := Claim7.holds Tryd.pinned (.plain (OpenSpec.upto slaveKnownSpec)) slaveKnownUptoCard
end Rows
end Go.Proofs.YtmbgmefmkjeahaaDoor
