/-
  DERIVED. GIVEN WITH THE SEED: THE CARDS: each row of YtfaibifilpfikaaGreatDoorRows.lean that lists a variable, with what it lists TIED to the program's text (the seventh form; the later family's looks); each row that meets fmt, with fmt's text TOLD by the authors' own Lean function (tested against real Go, not proved from fmt's source: count such statements apart). THE CARD IS WHAT COUNTS. Prove the row's statement (the work); the ties are given (YtfaibifilpfikaaGreatDoorTie.lean); close each card by the builder's one call (the guide's Derived/Test/ToyasCard.lean, 'card_holds'). Laid BY PROGRAM, IN A SANDBOX (cutbox-door.mjs). By AI agents, Wed Nov 11 2026. No macro, syntax, notation, axiom, sorry.
-/
import Derived.Test.YtfaibifilpfikaaGreatDoorRows
import GoSem.ClaimSeven
namespace Go.Proofs.YtfaibifilpfikaaGreatDoor
namespace Rows

/-- THE TIED CARD OF 'customhouselaw05.RatioFloors'. -/
def ratioFloorsCard : Claim7 := { stood := { row := ratioFloorsRow, standIns := [], harness := (true, "8ae96ca645b4a9962091bd2ee32477459f4927461a37d6eb9de8ebb1a35a7c89"), looks := true }, kinds := [], alts := [], laidByText := true, laidKinds := [.data, .data, .data, .data, .sentinel, .sentinel, .pinned], laidTests := true, laidLooks := .later }
def RatioFloorsCardSaid : Prop := Claim7.holds Tryz.pinned (.plain (OpenSpec.ofChange ratioFloorsSpec)) ratioFloorsCard

/-- THE TIED CARD OF 'customhouselaw05.RatioMatchesReference'. -/
def ratioMatchesReferenceCard : Claim7 := { stood := { row := ratioMatchesReferenceRow, standIns := [], harness := (true, "8ae96ca645b4a9962091bd2ee32477459f4927461a37d6eb9de8ebb1a35a7c89"), looks := true }, kinds := [], alts := [], laidByText := true, laidKinds := [.data, .data, .data, .data, .sentinel, .sentinel, .pinned], laidTests := true, laidLooks := .later }
def RatioMatchesReferenceCardSaid : Prop := Claim7.holds Tryz.pinned (.plain (OpenSpec.ofChange ratioMatchesReferenceSpec)) ratioMatchesReferenceCard

/-- THE TIED CARD OF 'customhouselaw05.RatioField'. -/
def ratioFieldCard : Claim7 := { stood := { row := ratioFieldRow, standIns := [], harness := (true, "8ae96ca645b4a9962091bd2ee32477459f4927461a37d6eb9de8ebb1a35a7c89"), looks := true }, kinds := [], alts := [], laidByText := true, laidKinds := [.data, .data, .data, .data, .sentinel, .sentinel, .pinned], laidTests := true, laidLooks := .later }
def RatioFieldCardSaid : Prop := Claim7.holds Tryz.pinned (.plain (OpenSpec.ofChange ratioFieldSpec)) ratioFieldCard

/-- THE TIED CARD OF 'customhouselaw05.RatioOrder'. -/
def ratioOrderCard : Claim7 := { stood := { row := ratioOrderRow, standIns := [], harness := (true, "8ae96ca645b4a9962091bd2ee32477459f4927461a37d6eb9de8ebb1a35a7c89"), looks := true }, kinds := [], alts := [], laidByText := true, laidKinds := [.data, .data, .data, .data, .sentinel, .sentinel, .pinned], laidTests := true, laidLooks := .later }
def RatioOrderCardSaid : Prop := Claim7.holds Tryz.pinned (.plain (OpenSpec.ofChange ratioOrderSpec)) ratioOrderCard

/-- THE TIED CARD OF 'customhouselaw05.RatioValid'. -/
def ratioValidCard : Claim7 := { stood := { row := ratioValidRow, standIns := [], harness := (true, "8ae96ca645b4a9962091bd2ee32477459f4927461a37d6eb9de8ebb1a35a7c89"), looks := true }, kinds := [], alts := [], laidByText := true, laidKinds := [.data, .data, .data, .data, .sentinel, .sentinel, .pinned], laidTests := true, laidLooks := .later }
def RatioValidCardSaid : Prop := Claim7.holds Tryz.pinned (.plain (OpenSpec.ofChange ratioValidSpec)) ratioValidCard

/-- THE TIED CARD OF 'customhouselaw05.RatioTexts'. -/
def ratioTextsCard : Claim7 := { stood := { row := ratioTextsRow, standIns := [], harness := (true, "8ae96ca645b4a9962091bd2ee32477459f4927461a37d6eb9de8ebb1a35a7c89"), looks := true }, kinds := [], alts := [], laidByText := true, laidKinds := [.data, .data, .data, .data, .sentinel, .sentinel, .pinned], laidTests := true, laidLooks := .later }
def RatioTextsCardSaid : Prop := Claim7.holds Tryz.pinned (.plain (OpenSpec.ofChange ratioTextsSpec)) ratioTextsCard

/-- THE TIED CARD OF 'customhouselaw05.RatioTextsMatch'. -/
def ratioTextsMatchCard : Claim7 := { stood := { row := ratioTextsMatchRow, standIns := [], harness := (true, "8ae96ca645b4a9962091bd2ee32477459f4927461a37d6eb9de8ebb1a35a7c89"), looks := true }, kinds := [], alts := [], laidByText := true, laidKinds := [.data, .data, .data, .data, .sentinel, .sentinel, .pinned], laidTests := true, laidLooks := .later }
def RatioTextsMatchCardSaid : Prop := Claim7.holds Tryz.pinned (.plain (OpenSpec.ofChange ratioTextsMatchSpec)) ratioTextsMatchCard

/-- THE TIED CARD OF 'customhouselaw08.MoneySplitsMatch'. -/
def moneySplitsMatchCard : Claim7 := { stood := { row := moneySplitsMatchRow, standIns := [], harness := (true, "8ae96ca645b4a9962091bd2ee32477459f4927461a37d6eb9de8ebb1a35a7c89"), looks := true }, kinds := [], alts := [], laidByText := true, laidKinds := [.data, .data, .data, .data, .sentinel, .sentinel, .pinned], laidTests := true, laidLooks := .later }
def MoneySplitsMatchCardSaid : Prop := Claim7.holds Tryz.pinned (.plain (OpenSpec.ofChange moneySplitsMatchSpec)) moneySplitsMatchCard

/-- THE TIED CARD OF 'customhouselaw08.MoneyConverts'. -/
def moneyConvertsCard : Claim7 := { stood := { row := moneyConvertsRow, standIns := [], harness := (true, "8ae96ca645b4a9962091bd2ee32477459f4927461a37d6eb9de8ebb1a35a7c89"), looks := true }, kinds := [], alts := [], laidByText := true, laidKinds := [.data, .data, .data, .data, .sentinel, .sentinel, .pinned], laidTests := true, laidLooks := .later }
def MoneyConvertsCardSaid : Prop := Claim7.holds Tryz.pinned (.plain (OpenSpec.ofChange moneyConvertsSpec)) moneyConvertsCard

/-- THE TIED CARD OF 'customhouselaw08.MoneyRates'. -/
def moneyRatesCard : Claim7 := { stood := { row := moneyRatesRow, standIns := [], harness := (true, "8ae96ca645b4a9962091bd2ee32477459f4927461a37d6eb9de8ebb1a35a7c89"), looks := true }, kinds := [], alts := [], laidByText := true, laidKinds := [.data, .data, .data, .data, .sentinel, .sentinel, .pinned], laidTests := true, laidLooks := .later }
def MoneyRatesCardSaid : Prop := Claim7.holds Tryz.pinned (.plain (OpenSpec.ofChange moneyRatesSpec)) moneyRatesCard

/-- THE TIED CARD OF 'customhouselaw08.MoneyRounds'. -/
def moneyRoundsCard : Claim7 := { stood := { row := moneyRoundsRow, standIns := [], harness := (true, "8ae96ca645b4a9962091bd2ee32477459f4927461a37d6eb9de8ebb1a35a7c89"), looks := true }, kinds := [], alts := [], laidByText := true, laidKinds := [.data, .data, .data, .data, .sentinel, .sentinel, .pinned], laidTests := true, laidLooks := .later }
def MoneyRoundsCardSaid : Prop := Claim7.holds Tryz.pinned (.plain (OpenSpec.ofChange moneyRoundsSpec)) moneyRoundsCard

/-- THE TIED CARD OF 'customhouselaw08.MoneySplits'. -/
def moneySplitsCard : Claim7 := { stood := { row := moneySplitsRow, standIns := [], harness := (true, "8ae96ca645b4a9962091bd2ee32477459f4927461a37d6eb9de8ebb1a35a7c89"), looks := true }, kinds := [], alts := [], laidByText := true, laidKinds := [.data, .data, .data, .data, .sentinel, .sentinel, .pinned], laidTests := true, laidLooks := .later }
def MoneySplitsCardSaid : Prop := Claim7.holds Tryz.pinned (.plain (OpenSpec.ofChange moneySplitsSpec)) moneySplitsCard

/-- THE TIED CARD OF 'customhouselaw08.MoneyMatchesReference'. -/
def moneyMatchesReferenceCard : Claim7 := { stood := { row := moneyMatchesReferenceRow, standIns := [], harness := (true, "8ae96ca645b4a9962091bd2ee32477459f4927461a37d6eb9de8ebb1a35a7c89"), looks := true }, kinds := [], alts := [], laidByText := true, laidKinds := [.data, .data, .data, .data, .sentinel, .sentinel, .pinned], laidTests := true, laidLooks := .later }
def MoneyMatchesReferenceCardSaid : Prop := Claim7.holds Tryz.pinned (.plain (OpenSpec.ofChange moneyMatchesReferenceSpec)) moneyMatchesReferenceCard

/-- THE TIED CARD OF 'customhouselaw08.MoneyTexts'. -/
def moneyTextsCard : Claim7 := { stood := { row := moneyTextsRow, standIns := [], harness := (true, "8ae96ca645b4a9962091bd2ee32477459f4927461a37d6eb9de8ebb1a35a7c89"), looks := true }, kinds := [], alts := [], laidByText := true, laidKinds := [.data, .data, .data, .data, .sentinel, .sentinel, .pinned], laidTests := true, laidLooks := .later }
def MoneyTextsCardSaid : Prop := Claim7.holds Tryz.pinned (.plain (OpenSpec.ofChange moneyTextsSpec)) moneyTextsCard

/-- THE SECOND FORM's CARD OF 'customhouselaw05.RatioFloors'. -/
def ratioFloorsUptoCard : Claim7 := { stood := { row := ratioFloorsUptoRow, standIns := [], harness := (true, "8ae96ca645b4a9962091bd2ee32477459f4927461a37d6eb9de8ebb1a35a7c89"), looks := true }, kinds := [], alts := [], laidByText := true, laidKinds := [.data, .data, .data, .data, .sentinel, .sentinel, .pinned], laidTests := true, laidLooks := .later }
def RatioFloorsUptoCardSaid : Prop := Claim7.holds Tryz.pinned (.plain (OpenSpec.upto ratioFloorsSpec)) ratioFloorsUptoCard

/-- THE SECOND FORM's CARD OF 'customhouselaw05.RatioMatchesReference'. -/
def ratioMatchesReferenceUptoCard : Claim7 := { stood := { row := ratioMatchesReferenceUptoRow, standIns := [], harness := (true, "8ae96ca645b4a9962091bd2ee32477459f4927461a37d6eb9de8ebb1a35a7c89"), looks := true }, kinds := [], alts := [], laidByText := true, laidKinds := [.data, .data, .data, .data, .sentinel, .sentinel, .pinned], laidTests := true, laidLooks := .later }
def RatioMatchesReferenceUptoCardSaid : Prop := Claim7.holds Tryz.pinned (.plain (OpenSpec.upto ratioMatchesReferenceSpec)) ratioMatchesReferenceUptoCard

/-- THE SECOND FORM's CARD OF 'customhouselaw05.RatioField'. -/
def ratioFieldUptoCard : Claim7 := { stood := { row := ratioFieldUptoRow, standIns := [], harness := (true, "8ae96ca645b4a9962091bd2ee32477459f4927461a37d6eb9de8ebb1a35a7c89"), looks := true }, kinds := [], alts := [], laidByText := true, laidKinds := [.data, .data, .data, .data, .sentinel, .sentinel, .pinned], laidTests := true, laidLooks := .later }
def RatioFieldUptoCardSaid : Prop := Claim7.holds Tryz.pinned (.plain (OpenSpec.upto ratioFieldSpec)) ratioFieldUptoCard

/-- THE SECOND FORM's CARD OF 'customhouselaw05.RatioOrder'. -/
def ratioOrderUptoCard : Claim7 := { stood := { row := ratioOrderUptoRow, standIns := [], harness := (true, "8ae96ca645b4a9962091bd2ee32477459f4927461a37d6eb9de8ebb1a35a7c89"), looks := true }, kinds := [], alts := [], laidByText := true, laidKinds := [.data, .data, .data, .data, .sentinel, .sentinel, .pinned], laidTests := true, laidLooks := .later }
def RatioOrderUptoCardSaid : Prop := Claim7.holds Tryz.pinned (.plain (OpenSpec.upto ratioOrderSpec)) ratioOrderUptoCard

/-- THE SECOND FORM's CARD OF 'customhouselaw05.RatioValid'. -/
def ratioValidUptoCard : Claim7 := { stood := { row := ratioValidUptoRow, standIns := [], harness := (true, "8ae96ca645b4a9962091bd2ee32477459f4927461a37d6eb9de8ebb1a35a7c89"), looks := true }, kinds := [], alts := [], laidByText := true, laidKinds := [.data, .data, .data, .data, .sentinel, .sentinel, .pinned], laidTests := true, laidLooks := .later }
def RatioValidUptoCardSaid : Prop := Claim7.holds Tryz.pinned (.plain (OpenSpec.upto ratioValidSpec)) ratioValidUptoCard

/-- THE SECOND FORM's CARD OF 'customhouselaw05.RatioTexts'. -/
def ratioTextsUptoCard : Claim7 := { stood := { row := ratioTextsUptoRow, standIns := [], harness := (true, "8ae96ca645b4a9962091bd2ee32477459f4927461a37d6eb9de8ebb1a35a7c89"), looks := true }, kinds := [], alts := [], laidByText := true, laidKinds := [.data, .data, .data, .data, .sentinel, .sentinel, .pinned], laidTests := true, laidLooks := .later }
def RatioTextsUptoCardSaid : Prop := Claim7.holds Tryz.pinned (.plain (OpenSpec.upto ratioTextsSpec)) ratioTextsUptoCard

/-- THE SECOND FORM's CARD OF 'customhouselaw05.RatioTextsMatch'. -/
def ratioTextsMatchUptoCard : Claim7 := { stood := { row := ratioTextsMatchUptoRow, standIns := [], harness := (true, "8ae96ca645b4a9962091bd2ee32477459f4927461a37d6eb9de8ebb1a35a7c89"), looks := true }, kinds := [], alts := [], laidByText := true, laidKinds := [.data, .data, .data, .data, .sentinel, .sentinel, .pinned], laidTests := true, laidLooks := .later }
def RatioTextsMatchUptoCardSaid : Prop := Claim7.holds Tryz.pinned (.plain (OpenSpec.upto ratioTextsMatchSpec)) ratioTextsMatchUptoCard

/-- THE SECOND FORM's CARD OF 'customhouselaw08.MoneySplitsMatch'. -/
def moneySplitsMatchUptoCard : Claim7 := { stood := { row := moneySplitsMatchUptoRow, standIns := [], harness := (true, "8ae96ca645b4a9962091bd2ee32477459f4927461a37d6eb9de8ebb1a35a7c89"), looks := true }, kinds := [], alts := [], laidByText := true, laidKinds := [.data, .data, .data, .data, .sentinel, .sentinel, .pinned], laidTests := true, laidLooks := .later }
def MoneySplitsMatchUptoCardSaid : Prop := Claim7.holds Tryz.pinned (.plain (OpenSpec.upto moneySplitsMatchSpec)) moneySplitsMatchUptoCard

/-- THE SECOND FORM's CARD OF 'customhouselaw08.MoneyConverts'. -/
def moneyConvertsUptoCard : Claim7 := { stood := { row := moneyConvertsUptoRow, standIns := [], harness := (true, "8ae96ca645b4a9962091bd2ee32477459f4927461a37d6eb9de8ebb1a35a7c89"), looks := true }, kinds := [], alts := [], laidByText := true, laidKinds := [.data, .data, .data, .data, .sentinel, .sentinel, .pinned], laidTests := true, laidLooks := .later }
def MoneyConvertsUptoCardSaid : Prop := Claim7.holds Tryz.pinned (.plain (OpenSpec.upto moneyConvertsSpec)) moneyConvertsUptoCard

/-- THE SECOND FORM's CARD OF 'customhouselaw08.MoneyRates'. -/
def moneyRatesUptoCard : Claim7 := { stood := { row := moneyRatesUptoRow, standIns := [], harness := (true, "8ae96ca645b4a9962091bd2ee32477459f4927461a37d6eb9de8ebb1a35a7c89"), looks := true }, kinds := [], alts := [], laidByText := true, laidKinds := [.data, .data, .data, .data, .sentinel, .sentinel, .pinned], laidTests := true, laidLooks := .later }
def MoneyRatesUptoCardSaid : Prop := Claim7.holds Tryz.pinned (.plain (OpenSpec.upto moneyRatesSpec)) moneyRatesUptoCard

/-- THE SECOND FORM's CARD OF 'customhouselaw08.MoneyRounds'. -/
def moneyRoundsUptoCard : Claim7 := { stood := { row := moneyRoundsUptoRow, standIns := [], harness := (true, "8ae96ca645b4a9962091bd2ee32477459f4927461a37d6eb9de8ebb1a35a7c89"), looks := true }, kinds := [], alts := [], laidByText := true, laidKinds := [.data, .data, .data, .data, .sentinel, .sentinel, .pinned], laidTests := true, laidLooks := .later }
def MoneyRoundsUptoCardSaid : Prop := Claim7.holds Tryz.pinned (.plain (OpenSpec.upto moneyRoundsSpec)) moneyRoundsUptoCard

/-- THE SECOND FORM's CARD OF 'customhouselaw08.MoneySplits'. -/
def moneySplitsUptoCard : Claim7 := { stood := { row := moneySplitsUptoRow, standIns := [], harness := (true, "8ae96ca645b4a9962091bd2ee32477459f4927461a37d6eb9de8ebb1a35a7c89"), looks := true }, kinds := [], alts := [], laidByText := true, laidKinds := [.data, .data, .data, .data, .sentinel, .sentinel, .pinned], laidTests := true, laidLooks := .later }
def MoneySplitsUptoCardSaid : Prop := Claim7.holds Tryz.pinned (.plain (OpenSpec.upto moneySplitsSpec)) moneySplitsUptoCard

/-- THE SECOND FORM's CARD OF 'customhouselaw08.MoneyMatchesReference'. -/
def moneyMatchesReferenceUptoCard : Claim7 := { stood := { row := moneyMatchesReferenceUptoRow, standIns := [], harness := (true, "8ae96ca645b4a9962091bd2ee32477459f4927461a37d6eb9de8ebb1a35a7c89"), looks := true }, kinds := [], alts := [], laidByText := true, laidKinds := [.data, .data, .data, .data, .sentinel, .sentinel, .pinned], laidTests := true, laidLooks := .later }
def MoneyMatchesReferenceUptoCardSaid : Prop := Claim7.holds Tryz.pinned (.plain (OpenSpec.upto moneyMatchesReferenceSpec)) moneyMatchesReferenceUptoCard

/-- THE SECOND FORM's CARD OF 'customhouselaw08.MoneyTexts'. -/
def moneyTextsUptoCard : Claim7 := { stood := { row := moneyTextsUptoRow, standIns := [], harness := (true, "8ae96ca645b4a9962091bd2ee32477459f4927461a37d6eb9de8ebb1a35a7c89"), looks := true }, kinds := [], alts := [], laidByText := true, laidKinds := [.data, .data, .data, .data, .sentinel, .sentinel, .pinned], laidTests := true, laidLooks := .later }
def MoneyTextsUptoCardSaid : Prop := Claim7.holds Tryz.pinned (.plain (OpenSpec.upto moneyTextsSpec)) moneyTextsUptoCard
end Rows
end Go.Proofs.YtfaibifilpfikaaGreatDoor
