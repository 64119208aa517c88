/-
  DERIVED. GIVEN WITH THE SEED: THE CARDS: each row of YtfommmijojfdbaaGreatDoorRows.lean that lists a variable, with what it lists TIED to the program's text (the seventh form; the later family's looks); each row that meets fmt, with fmt's text TOLD by the authors' own Lean function (tested against real Go, not proved from fmt's source: count such statements apart). THE CARD IS WHAT COUNTS. Prove the row's statement (the work); the ties are given (YtfommmijojfdbaaGreatDoorTie.lean); close each card by the builder's one call (the guide's Derived/Test/ToyasCard.lean, 'card_holds'). Laid BY PROGRAM, IN A SANDBOX (cutbox-door.mjs). By AI agents, Wed Nov 11 2026. No macro, syntax, notation, axiom, sorry.
-/
import Derived.Test.YtfommmijojfdbaaGreatDoorRows
import GoSem.ClaimSeven
namespace Go.Proofs.YtfommmijojfdbaaGreatDoor
namespace Rows

/-- THE TIED CARD OF 'spoondriftlaw19.RulesApplies'. -/
def rulesAppliesCard : Claim7 := { stood := { row := rulesAppliesRow, standIns := [], harness := (true, "67e902701552530a16a6cbc8e64c29336a8ca23389839b399c9317c77b44cfa6"), looks := false }, kinds := [], alts := [], laidByText := true, laidKinds := [.listed, .data, .data], laidTests := true, laidLooks := .later }
def RulesAppliesCardSaid : Prop := Claim7.holds Tryz.pinned (.plain (OpenSpec.ofChange rulesAppliesSpec)) rulesAppliesCard

/-- THE TIED CARD OF 'spoondriftlaw19.RulesSteps'. -/
def rulesStepsCard : Claim7 := { stood := { row := rulesStepsRow, standIns := [], harness := (true, "67e902701552530a16a6cbc8e64c29336a8ca23389839b399c9317c77b44cfa6"), looks := false }, kinds := [], alts := [], laidByText := true, laidKinds := [.listed, .data, .data], laidTests := true, laidLooks := .later }
def RulesStepsCardSaid : Prop := Claim7.holds Tryz.pinned (.plain (OpenSpec.ofChange rulesStepsSpec)) rulesStepsCard

/-- THE TIED CARD OF 'spoondriftlaw19.RulesChains'. -/
def rulesChainsCard : Claim7 := { stood := { row := rulesChainsRow, standIns := [], harness := (true, "67e902701552530a16a6cbc8e64c29336a8ca23389839b399c9317c77b44cfa6"), looks := false }, kinds := [], alts := [], laidByText := true, laidKinds := [.listed, .data, .data], laidTests := true, laidLooks := .later }
def RulesChainsCardSaid : Prop := Claim7.holds Tryz.pinned (.plain (OpenSpec.ofChange rulesChainsSpec)) rulesChainsCard

/-- THE TIED CARD OF 'spoondriftlaw19.RulesShortens'. -/
def rulesShortensCard : Claim7 := { stood := { row := rulesShortensRow, standIns := [], harness := (true, "67e902701552530a16a6cbc8e64c29336a8ca23389839b399c9317c77b44cfa6"), looks := false }, kinds := [], alts := [], laidByText := true, laidKinds := [.listed, .data, .data], laidTests := true, laidLooks := .later }
def RulesShortensCardSaid : Prop := Claim7.holds Tryz.pinned (.plain (OpenSpec.ofChange rulesShortensSpec)) rulesShortensCard

/-- THE TIED CARD OF 'spoondriftlaw19.RulesSearches'. -/
def rulesSearchesCard : Claim7 := { stood := { row := rulesSearchesRow, standIns := [], harness := (true, "67e902701552530a16a6cbc8e64c29336a8ca23389839b399c9317c77b44cfa6"), looks := false }, kinds := [], alts := [], laidByText := true, laidKinds := [.listed, .data, .data], laidTests := true, laidLooks := .later }
def RulesSearchesCardSaid : Prop := Claim7.holds Tryz.pinned (.plain (OpenSpec.ofChange rulesSearchesSpec)) rulesSearchesCard

/-- THE TIED CARD OF 'spoondriftlaw19.RulesSmall'. -/
def rulesSmallCard : Claim7 := { stood := { row := rulesSmallRow, standIns := [], harness := (true, "67e902701552530a16a6cbc8e64c29336a8ca23389839b399c9317c77b44cfa6"), looks := false }, kinds := [], alts := [], laidByText := true, laidKinds := [.listed, .data, .data], laidTests := true, laidLooks := .later }
def RulesSmallCardSaid : Prop := Claim7.holds Tryz.pinned (.plain (OpenSpec.ofChange rulesSmallSpec)) rulesSmallCard

/-- THE TIED CARD OF 'spoondriftlaw19.RulesGiven'. -/
def rulesGivenCard : Claim7 := { stood := { row := rulesGivenRow, standIns := [], harness := (true, "67e902701552530a16a6cbc8e64c29336a8ca23389839b399c9317c77b44cfa6"), looks := false }, kinds := [], alts := [], laidByText := true, laidKinds := [.listed, .data, .data], laidTests := true, laidLooks := .later }
def RulesGivenCardSaid : Prop := Claim7.holds Tryz.pinned (.plain (OpenSpec.ofChange rulesGivenSpec)) rulesGivenCard

/-- THE TIED CARD OF 'spoondriftlaw19.RulesBack'. -/
def rulesBackCard : Claim7 := { stood := { row := rulesBackRow, standIns := [], harness := (true, "67e902701552530a16a6cbc8e64c29336a8ca23389839b399c9317c77b44cfa6"), looks := false }, kinds := [], alts := [], laidByText := true, laidKinds := [.listed, .data, .data, .widerDeep], laidTests := true, laidLooks := .later }
def RulesBackCardSaid : Prop := Claim7.holds Tryz.pinned (.plain (OpenSpec.ofChange rulesBackSpec)) rulesBackCard

/-- THE TIED CARD OF 'spoondriftlaw19.RulesFound'. -/
def rulesFoundCard : Claim7 := { stood := { row := rulesFoundRow, standIns := [], harness := (true, "67e902701552530a16a6cbc8e64c29336a8ca23389839b399c9317c77b44cfa6"), looks := false }, kinds := [], alts := [], laidByText := true, laidKinds := [.listed, .data, .data, .widerDeep], laidTests := true, laidLooks := .later }
def RulesFoundCardSaid : Prop := Claim7.holds Tryz.pinned (.plain (OpenSpec.ofChange rulesFoundSpec)) rulesFoundCard

/-- THE TIED CARD OF 'spoondriftlaw19.RulesAll'. -/
def rulesAllCard : Claim7 := { stood := { row := rulesAllRow, standIns := [], harness := (true, "67e902701552530a16a6cbc8e64c29336a8ca23389839b399c9317c77b44cfa6"), looks := false }, kinds := [], alts := [], laidByText := true, laidKinds := [.listed, .data, .data, .widerDeep], laidTests := true, laidLooks := .later }
def RulesAllCardSaid : Prop := Claim7.holds Tryz.pinned (.plain (OpenSpec.ofChange rulesAllSpec)) rulesAllCard

/-- THE SECOND FORM's CARD OF 'spoondriftlaw19.RulesApplies'. -/
def rulesAppliesUptoCard : Claim7 := { stood := { row := rulesAppliesUptoRow, standIns := [], harness := (true, "67e902701552530a16a6cbc8e64c29336a8ca23389839b399c9317c77b44cfa6"), looks := false }, kinds := [], alts := [], laidByText := true, laidKinds := [.listed, .data, .data], laidTests := true, laidLooks := .later }
def RulesAppliesUptoCardSaid : Prop := Claim7.holds Tryz.pinned (.plain (OpenSpec.upto rulesAppliesSpec)) rulesAppliesUptoCard

/-- THE SECOND FORM's CARD OF 'spoondriftlaw19.RulesSteps'. -/
def rulesStepsUptoCard : Claim7 := { stood := { row := rulesStepsUptoRow, standIns := [], harness := (true, "67e902701552530a16a6cbc8e64c29336a8ca23389839b399c9317c77b44cfa6"), looks := false }, kinds := [], alts := [], laidByText := true, laidKinds := [.listed, .data, .data], laidTests := true, laidLooks := .later }
def RulesStepsUptoCardSaid : Prop := Claim7.holds Tryz.pinned (.plain (OpenSpec.upto rulesStepsSpec)) rulesStepsUptoCard

/-- THE SECOND FORM's CARD OF 'spoondriftlaw19.RulesChains'. -/
def rulesChainsUptoCard : Claim7 := { stood := { row := rulesChainsUptoRow, standIns := [], harness := (true, "67e902701552530a16a6cbc8e64c29336a8ca23389839b399c9317c77b44cfa6"), looks := false }, kinds := [], alts := [], laidByText := true, laidKinds := [.listed, .data, .data], laidTests := true, laidLooks := .later }
def RulesChainsUptoCardSaid : Prop := Claim7.holds Tryz.pinned (.plain (OpenSpec.upto rulesChainsSpec)) rulesChainsUptoCard

/-- THE SECOND FORM's CARD OF 'spoondriftlaw19.RulesShortens'. -/
def rulesShortensUptoCard : Claim7 := { stood := { row := rulesShortensUptoRow, standIns := [], harness := (true, "67e902701552530a16a6cbc8e64c29336a8ca23389839b399c9317c77b44cfa6"), looks := false }, kinds := [], alts := [], laidByText := true, laidKinds := [.listed, .data, .data], laidTests := true, laidLooks := .later }
def RulesShortensUptoCardSaid : Prop := Claim7.holds Tryz.pinned (.plain (OpenSpec.upto rulesShortensSpec)) rulesShortensUptoCard

/-- THE SECOND FORM's CARD OF 'spoondriftlaw19.RulesSearches'. -/
def rulesSearchesUptoCard : Claim7 := { stood := { row := rulesSearchesUptoRow, standIns := [], harness := (true, "67e902701552530a16a6cbc8e64c29336a8ca23389839b399c9317c77b44cfa6"), looks := false }, kinds := [], alts := [], laidByText := true, laidKinds := [.listed, .data, .data], laidTests := true, laidLooks := .later }
def RulesSearchesUptoCardSaid : Prop := Claim7.holds Tryz.pinned (.plain (OpenSpec.upto rulesSearchesSpec)) rulesSearchesUptoCard

/-- THE SECOND FORM's CARD OF 'spoondriftlaw19.RulesSmall'. -/
def rulesSmallUptoCard : Claim7 := { stood := { row := rulesSmallUptoRow, standIns := [], harness := (true, "67e902701552530a16a6cbc8e64c29336a8ca23389839b399c9317c77b44cfa6"), looks := false }, kinds := [], alts := [], laidByText := true, laidKinds := [.listed, .data, .data], laidTests := true, laidLooks := .later }
def RulesSmallUptoCardSaid : Prop := Claim7.holds Tryz.pinned (.plain (OpenSpec.upto rulesSmallSpec)) rulesSmallUptoCard

/-- THE SECOND FORM's CARD OF 'spoondriftlaw19.RulesGiven'. -/
def rulesGivenUptoCard : Claim7 := { stood := { row := rulesGivenUptoRow, standIns := [], harness := (true, "67e902701552530a16a6cbc8e64c29336a8ca23389839b399c9317c77b44cfa6"), looks := false }, kinds := [], alts := [], laidByText := true, laidKinds := [.listed, .data, .data], laidTests := true, laidLooks := .later }
def RulesGivenUptoCardSaid : Prop := Claim7.holds Tryz.pinned (.plain (OpenSpec.upto rulesGivenSpec)) rulesGivenUptoCard

/-- THE SECOND FORM's CARD OF 'spoondriftlaw19.RulesBack'. -/
def rulesBackUptoCard : Claim7 := { stood := { row := rulesBackUptoRow, standIns := [], harness := (true, "67e902701552530a16a6cbc8e64c29336a8ca23389839b399c9317c77b44cfa6"), looks := false }, kinds := [], alts := [], laidByText := true, laidKinds := [.listed, .data, .data, .widerDeep], laidTests := true, laidLooks := .later }
def RulesBackUptoCardSaid : Prop := Claim7.holds Tryz.pinned (.plain (OpenSpec.upto rulesBackSpec)) rulesBackUptoCard

/-- THE SECOND FORM's CARD OF 'spoondriftlaw19.RulesFound'. -/
def rulesFoundUptoCard : Claim7 := { stood := { row := rulesFoundUptoRow, standIns := [], harness := (true, "67e902701552530a16a6cbc8e64c29336a8ca23389839b399c9317c77b44cfa6"), looks := false }, kinds := [], alts := [], laidByText := true, laidKinds := [.listed, .data, .data, .widerDeep], laidTests := true, laidLooks := .later }
def RulesFoundUptoCardSaid : Prop := Claim7.holds Tryz.pinned (.plain (OpenSpec.upto rulesFoundSpec)) rulesFoundUptoCard

/-- THE SECOND FORM's CARD OF 'spoondriftlaw19.RulesAll'. -/
def rulesAllUptoCard : Claim7 := { stood := { row := rulesAllUptoRow, standIns := [], harness := (true, "67e902701552530a16a6cbc8e64c29336a8ca23389839b399c9317c77b44cfa6"), looks := false }, kinds := [], alts := [], laidByText := true, laidKinds := [.listed, .data, .data, .widerDeep], laidTests := true, laidLooks := .later }
def RulesAllUptoCardSaid : Prop := Claim7.holds Tryz.pinned (.plain (OpenSpec.upto rulesAllSpec)) rulesAllUptoCard
end Rows
end Go.Proofs.YtfommmijojfdbaaGreatDoor
