/-
  DERIVED. GIVEN WITH THE SEED: THE CARDS: each row of YtiihfodcocihjaaDoorRows.lean that lists a variable, with what it lists TIED to the program's text (the seventh form; the later family's looks); each row that meets fmt, with fmt's text TOLD by the authors' own Lean function (tested against real Go, not proved from fmt's source: count such statements apart). THE CARD IS WHAT COUNTS. Prove the row's statement (the work); the ties are given (YtiihfodcocihjaaDoorTie.lean); close each card by the builder's one call (the guide's Derived/Test/ToyasCard.lean, 'card_holds'). Laid BY PROGRAM, IN A SANDBOX (cutbox-door.mjs). By AI agents, Wed Nov 11 2026. No macro, syntax, notation, axiom, sorry.
-/
import Derived.Test.YtiihfodcocihjaaDoorRows
import GoSem.ClaimSeven
namespace Go.Proofs.YtiihfodcocihjaaDoor
namespace Rows

/-- THE TIED CARD OF 'laws.FnExactPatternText'. -/
def fnExactPatternTextCard : Claim7 := { stood := { row := fnExactPatternTextRow, standIns := [], harness := (true, "09ed5302a242716d0511367d56f1482c960218b0e2aa0e3ceb22bc01365ddb37"), looks := true }, kinds := [], alts := [], laidByText := true, laidKinds := [.data, .data, .data], laidTests := true, laidLooks := .later }
def FnExactPatternTextCardSaid : Prop := Claim7.holds Tryd.pinned (.plain (OpenSpec.ofChange fnExactPatternTextSpec)) fnExactPatternTextCard

/-- THE TIED CARD OF 'laws.FnExactGeneratorsOf'. -/
def fnExactGeneratorsOfCard : Claim7 := { stood := { row := fnExactGeneratorsOfRow, standIns := [], harness := (true, "09ed5302a242716d0511367d56f1482c960218b0e2aa0e3ceb22bc01365ddb37"), looks := true }, kinds := [], alts := [], laidByText := true, laidKinds := [.data, .data], laidTests := true, laidLooks := .later }
def FnExactGeneratorsOfCardSaid : Prop := Claim7.holds Tryd.pinned (.plain (OpenSpec.ofChange fnExactGeneratorsOfSpec)) fnExactGeneratorsOfCard

/-- THE TIED CARD OF 'laws.FnExactNewIntents'. -/
def fnExactNewIntentsCard : Claim7 := { stood := { row := fnExactNewIntentsRow, standIns := [], harness := (true, "09ed5302a242716d0511367d56f1482c960218b0e2aa0e3ceb22bc01365ddb37"), looks := true }, kinds := [], alts := [], laidByText := true, laidKinds := [.data, .data], laidTests := true, laidLooks := .later }
def FnExactNewIntentsCardSaid : Prop := Claim7.holds Tryd.pinned (.plain (OpenSpec.ofChange fnExactNewIntentsSpec)) fnExactNewIntentsCard

/-- THE TIED CARD OF 'laws.FnExactSeparationOf'. -/
def fnExactSeparationOfCard : Claim7 := { stood := { row := fnExactSeparationOfRow, standIns := [], harness := (true, "09ed5302a242716d0511367d56f1482c960218b0e2aa0e3ceb22bc01365ddb37"), looks := true }, kinds := [], alts := [], laidByText := true, laidKinds := [.data, .data], laidTests := true, laidLooks := .later }
def FnExactSeparationOfCardSaid : Prop := Claim7.holds Tryd.pinned (.plain (OpenSpec.ofChange fnExactSeparationOfSpec)) fnExactSeparationOfCard

/-- THE TIED CARD OF 'laws.FnExactStabilityOf'. -/
def fnExactStabilityOfCard : Claim7 := { stood := { row := fnExactStabilityOfRow, standIns := [], harness := (true, "09ed5302a242716d0511367d56f1482c960218b0e2aa0e3ceb22bc01365ddb37"), looks := true }, kinds := [], alts := [], laidByText := true, laidKinds := [.data, .data], laidTests := true, laidLooks := .later }
def FnExactStabilityOfCardSaid : Prop := Claim7.holds Tryd.pinned (.plain (OpenSpec.ofChange fnExactStabilityOfSpec)) fnExactStabilityOfCard

/-- THE TIED CARD OF 'laws.FnExactCompletionSize'. -/
def fnExactCompletionSizeCard : Claim7 := { stood := { row := fnExactCompletionSizeRow, standIns := [], harness := (true, "09ed5302a242716d0511367d56f1482c960218b0e2aa0e3ceb22bc01365ddb37"), looks := true }, kinds := [], alts := [], laidByText := true, laidKinds := [.data, .data], laidTests := true, laidLooks := .later }
def FnExactCompletionSizeCardSaid : Prop := Claim7.holds Tryd.pinned (.plain (OpenSpec.ofChange fnExactCompletionSizeSpec)) fnExactCompletionSizeCard

/-- THE TIED CARD OF 'laws.FnExactPlaceOf'. -/
def fnExactPlaceOfCard : Claim7 := { stood := { row := fnExactPlaceOfRow, standIns := [], harness := (true, "09ed5302a242716d0511367d56f1482c960218b0e2aa0e3ceb22bc01365ddb37"), looks := true }, kinds := [], alts := [], laidByText := true, laidKinds := [.data, .data], laidTests := true, laidLooks := .later }
def FnExactPlaceOfCardSaid : Prop := Claim7.holds Tryd.pinned (.plain (OpenSpec.ofChange fnExactPlaceOfSpec)) fnExactPlaceOfCard

/-- THE TIED CARD OF 'laws.FnExactMostStable'. -/
def fnExactMostStableCard : Claim7 := { stood := { row := fnExactMostStableRow, standIns := [], harness := (true, "09ed5302a242716d0511367d56f1482c960218b0e2aa0e3ceb22bc01365ddb37"), looks := true }, kinds := [], alts := [], laidByText := true, laidKinds := [.data, .data], laidTests := true, laidLooks := .later }
def FnExactMostStableCardSaid : Prop := Claim7.holds Tryd.pinned (.plain (OpenSpec.ofChange fnExactMostStableSpec)) fnExactMostStableCard

/-- THE TIED CARD OF 'laws.FnExactSpotOf'. -/
def fnExactSpotOfCard : Claim7 := { stood := { row := fnExactSpotOfRow, standIns := [], harness := (true, "09ed5302a242716d0511367d56f1482c960218b0e2aa0e3ceb22bc01365ddb37"), looks := true }, kinds := [], alts := [], laidByText := true, laidKinds := [.data, .data], laidTests := true, laidLooks := .later }
def FnExactSpotOfCardSaid : Prop := Claim7.holds Tryd.pinned (.plain (OpenSpec.ofChange fnExactSpotOfSpec)) fnExactSpotOfCard

/-- THE TIED CARD OF 'laws.FnExactLostIntents'. -/
def fnExactLostIntentsCard : Claim7 := { stood := { row := fnExactLostIntentsRow, standIns := [], harness := (true, "09ed5302a242716d0511367d56f1482c960218b0e2aa0e3ceb22bc01365ddb37"), looks := true }, kinds := [], alts := [], laidByText := true, laidKinds := [.data, .data], laidTests := true, laidLooks := .later }
def FnExactLostIntentsCardSaid : Prop := Claim7.holds Tryd.pinned (.plain (OpenSpec.ofChange fnExactLostIntentsSpec)) fnExactLostIntentsCard

/-- THE TIED CARD OF 'laws.FnExactHasCrowd'. -/
def fnExactHasCrowdCard : Claim7 := { stood := { row := fnExactHasCrowdRow, standIns := [], harness := (true, "09ed5302a242716d0511367d56f1482c960218b0e2aa0e3ceb22bc01365ddb37"), looks := true }, kinds := [], alts := [], laidByText := true, laidKinds := [.data, .data], laidTests := true, laidLooks := .later }
def FnExactHasCrowdCardSaid : Prop := Claim7.holds Tryd.pinned (.plain (OpenSpec.ofChange fnExactHasCrowdSpec)) fnExactHasCrowdCard

/-- THE TIED CARD OF 'laws.FnExactUpdateBase'. -/
def fnExactUpdateBaseCard : Claim7 := { stood := { row := fnExactUpdateBaseRow, standIns := [], harness := (true, "09ed5302a242716d0511367d56f1482c960218b0e2aa0e3ceb22bc01365ddb37"), looks := true }, kinds := [], alts := [], laidByText := true, laidKinds := [.data, .data], laidTests := true, laidLooks := .later }
def FnExactUpdateBaseCardSaid : Prop := Claim7.holds Tryd.pinned (.plain (OpenSpec.ofChange fnExactUpdateBaseSpec)) fnExactUpdateBaseCard

/-- THE TIED CARD OF 'laws.FnExactObjectBase'. -/
def fnExactObjectBaseCard : Claim7 := { stood := { row := fnExactObjectBaseRow, standIns := [], harness := (true, "09ed5302a242716d0511367d56f1482c960218b0e2aa0e3ceb22bc01365ddb37"), looks := true }, kinds := [], alts := [], laidByText := true, laidKinds := [.data, .data], laidTests := true, laidLooks := .later }
def FnExactObjectBaseCardSaid : Prop := Claim7.holds Tryd.pinned (.plain (OpenSpec.ofChange fnExactObjectBaseSpec)) fnExactObjectBaseCard

/-- THE TIED CARD OF 'laws.FnExactProfileOf'. -/
def fnExactProfileOfCard : Claim7 := { stood := { row := fnExactProfileOfRow, standIns := [], harness := (true, "09ed5302a242716d0511367d56f1482c960218b0e2aa0e3ceb22bc01365ddb37"), looks := true }, kinds := [], alts := [], laidByText := true, laidKinds := [.data, .data], laidTests := true, laidLooks := .later }
def FnExactProfileOfCardSaid : Prop := Claim7.holds Tryd.pinned (.plain (OpenSpec.ofChange fnExactProfileOfSpec)) fnExactProfileOfCard

/-- THE TIED CARD OF 'laws.FnExactNewSession'. -/
def fnExactNewSessionCard : Claim7 := { stood := { row := fnExactNewSessionRow, standIns := [], harness := (true, "09ed5302a242716d0511367d56f1482c960218b0e2aa0e3ceb22bc01365ddb37"), looks := true }, kinds := [], alts := [], laidByText := true, laidKinds := [.data, .data, .data, .data, .sentinel, .sentinel, .pinned], laidTests := true, laidLooks := .later }
def FnExactNewSessionCardSaid : Prop := Claim7.holds Tryd.pinned (.plain (OpenSpec.ofChange fnExactNewSessionSpec)) fnExactNewSessionCard

/-- THE SECOND FORM's CARD OF 'laws.FnExactPatternText'. -/
def fnExactPatternTextUptoCard : Claim7 := { stood := { row := fnExactPatternTextUptoRow, standIns := [], harness := (true, "09ed5302a242716d0511367d56f1482c960218b0e2aa0e3ceb22bc01365ddb37"), looks := true }, kinds := [], alts := [], laidByText := true, laidKinds := [.data, .data, .data], laidTests := true, laidLooks := .later }
def FnExactPatternTextUptoCardSaid : Prop := Claim7.holds Tryd.pinned (.plain (OpenSpec.upto fnExactPatternTextSpec)) fnExactPatternTextUptoCard

/-- THE SECOND FORM's CARD OF 'laws.FnExactGeneratorsOf'. -/
def fnExactGeneratorsOfUptoCard : Claim7 := { stood := { row := fnExactGeneratorsOfUptoRow, standIns := [], harness := (true, "09ed5302a242716d0511367d56f1482c960218b0e2aa0e3ceb22bc01365ddb37"), looks := true }, kinds := [], alts := [], laidByText := true, laidKinds := [.data, .data], laidTests := true, laidLooks := .later }
def FnExactGeneratorsOfUptoCardSaid : Prop := Claim7.holds Tryd.pinned (.plain (OpenSpec.upto fnExactGeneratorsOfSpec)) fnExactGeneratorsOfUptoCard

/-- THE SECOND FORM's CARD OF 'laws.FnExactNewIntents'. -/
def fnExactNewIntentsUptoCard : Claim7 := { stood := { row := fnExactNewIntentsUptoRow, standIns := [], harness := (true, "09ed5302a242716d0511367d56f1482c960218b0e2aa0e3ceb22bc01365ddb37"), looks := true }, kinds := [], alts := [], laidByText := true, laidKinds := [.data, .data], laidTests := true, laidLooks := .later }
def FnExactNewIntentsUptoCardSaid : Prop := Claim7.holds Tryd.pinned (.plain (OpenSpec.upto fnExactNewIntentsSpec)) fnExactNewIntentsUptoCard

/-- THE SECOND FORM's CARD OF 'laws.FnExactSeparationOf'. -/
def fnExactSeparationOfUptoCard : Claim7 := { stood := { row := fnExactSeparationOfUptoRow, standIns := [], harness := (true, "09ed5302a242716d0511367d56f1482c960218b0e2aa0e3ceb22bc01365ddb37"), looks := true }, kinds := [], alts := [], laidByText := true, laidKinds := [.data, .data], laidTests := true, laidLooks := .later }
def FnExactSeparationOfUptoCardSaid : Prop := Claim7.holds Tryd.pinned (.plain (OpenSpec.upto fnExactSeparationOfSpec)) fnExactSeparationOfUptoCard

/-- THE SECOND FORM's CARD OF 'laws.FnExactStabilityOf'. -/
def fnExactStabilityOfUptoCard : Claim7 := { stood := { row := fnExactStabilityOfUptoRow, standIns := [], harness := (true, "09ed5302a242716d0511367d56f1482c960218b0e2aa0e3ceb22bc01365ddb37"), looks := true }, kinds := [], alts := [], laidByText := true, laidKinds := [.data, .data], laidTests := true, laidLooks := .later }
def FnExactStabilityOfUptoCardSaid : Prop := Claim7.holds Tryd.pinned (.plain (OpenSpec.upto fnExactStabilityOfSpec)) fnExactStabilityOfUptoCard

/-- THE SECOND FORM's CARD OF 'laws.FnExactCompletionSize'. -/
def fnExactCompletionSizeUptoCard : Claim7 := { stood := { row := fnExactCompletionSizeUptoRow, standIns := [], harness := (true, "09ed5302a242716d0511367d56f1482c960218b0e2aa0e3ceb22bc01365ddb37"), looks := true }, kinds := [], alts := [], laidByText := true, laidKinds := [.data, .data], laidTests := true, laidLooks := .later }
def FnExactCompletionSizeUptoCardSaid : Prop := Claim7.holds Tryd.pinned (.plain (OpenSpec.upto fnExactCompletionSizeSpec)) fnExactCompletionSizeUptoCard

/-- THE SECOND FORM's CARD OF 'laws.FnExactPlaceOf'. -/
def fnExactPlaceOfUptoCard : Claim7 := { stood := { row := fnExactPlaceOfUptoRow, standIns := [], harness := (true, "09ed5302a242716d0511367d56f1482c960218b0e2aa0e3ceb22bc01365ddb37"), looks := true }, kinds := [], alts := [], laidByText := true, laidKinds := [.data, .data], laidTests := true, laidLooks := .later }
def FnExactPlaceOfUptoCardSaid : Prop := Claim7.holds Tryd.pinned (.plain (OpenSpec.upto fnExactPlaceOfSpec)) fnExactPlaceOfUptoCard

/-- THE SECOND FORM's CARD OF 'laws.FnExactMostStable'. -/
def fnExactMostStableUptoCard : Claim7 := { stood := { row := fnExactMostStableUptoRow, standIns := [], harness := (true, "09ed5302a242716d0511367d56f1482c960218b0e2aa0e3ceb22bc01365ddb37"), looks := true }, kinds := [], alts := [], laidByText := true, laidKinds := [.data, .data], laidTests := true, laidLooks := .later }
def FnExactMostStableUptoCardSaid : Prop := Claim7.holds Tryd.pinned (.plain (OpenSpec.upto fnExactMostStableSpec)) fnExactMostStableUptoCard

/-- THE SECOND FORM's CARD OF 'laws.FnExactSpotOf'. -/
def fnExactSpotOfUptoCard : Claim7 := { stood := { row := fnExactSpotOfUptoRow, standIns := [], harness := (true, "09ed5302a242716d0511367d56f1482c960218b0e2aa0e3ceb22bc01365ddb37"), looks := true }, kinds := [], alts := [], laidByText := true, laidKinds := [.data, .data], laidTests := true, laidLooks := .later }
def FnExactSpotOfUptoCardSaid : Prop := Claim7.holds Tryd.pinned (.plain (OpenSpec.upto fnExactSpotOfSpec)) fnExactSpotOfUptoCard

/-- THE SECOND FORM's CARD OF 'laws.FnExactLostIntents'. -/
def fnExactLostIntentsUptoCard : Claim7 := { stood := { row := fnExactLostIntentsUptoRow, standIns := [], harness := (true, "09ed5302a242716d0511367d56f1482c960218b0e2aa0e3ceb22bc01365ddb37"), looks := true }, kinds := [], alts := [], laidByText := true, laidKinds := [.data, .data], laidTests := true, laidLooks := .later }
def FnExactLostIntentsUptoCardSaid : Prop := Claim7.holds Tryd.pinned (.plain (OpenSpec.upto fnExactLostIntentsSpec)) fnExactLostIntentsUptoCard

/-- THE SECOND FORM's CARD OF 'laws.FnExactHasCrowd'. -/
def fnExactHasCrowdUptoCard : Claim7 := { stood := { row := fnExactHasCrowdUptoRow, standIns := [], harness := (true, "09ed5302a242716d0511367d56f1482c960218b0e2aa0e3ceb22bc01365ddb37"), looks := true }, kinds := [], alts := [], laidByText := true, laidKinds := [.data, .data], laidTests := true, laidLooks := .later }
def FnExactHasCrowdUptoCardSaid : Prop := Claim7.holds Tryd.pinned (.plain (OpenSpec.upto fnExactHasCrowdSpec)) fnExactHasCrowdUptoCard

/-- THE SECOND FORM's CARD OF 'laws.FnExactUpdateBase'. -/
def fnExactUpdateBaseUptoCard : Claim7 := { stood := { row := fnExactUpdateBaseUptoRow, standIns := [], harness := (true, "09ed5302a242716d0511367d56f1482c960218b0e2aa0e3ceb22bc01365ddb37"), looks := true }, kinds := [], alts := [], laidByText := true, laidKinds := [.data, .data], laidTests := true, laidLooks := .later }
def FnExactUpdateBaseUptoCardSaid : Prop := Claim7.holds Tryd.pinned (.plain (OpenSpec.upto fnExactUpdateBaseSpec)) fnExactUpdateBaseUptoCard

/-- THE SECOND FORM's CARD OF 'laws.FnExactObjectBase'. -/
def fnExactObjectBaseUptoCard : Claim7 := { stood := { row := fnExactObjectBaseUptoRow, standIns := [], harness := (true, "09ed5302a242716d0511367d56f1482c960218b0e2aa0e3ceb22bc01365ddb37"), looks := true }, kinds := [], alts := [], laidByText := true, laidKinds := [.data, .data], laidTests := true, laidLooks := .later }
def FnExactObjectBaseUptoCardSaid : Prop := Claim7.holds Tryd.pinned (.plain (OpenSpec.upto fnExactObjectBaseSpec)) fnExactObjectBaseUptoCard

/-- THE SECOND FORM's CARD OF 'laws.FnExactProfileOf'. -/
def fnExactProfileOfUptoCard : Claim7 := { stood := { row := fnExactProfileOfUptoRow, standIns := [], harness := (true, "09ed5302a242716d0511367d56f1482c960218b0e2aa0e3ceb22bc01365ddb37"), looks := true }, kinds := [], alts := [], laidByText := true, laidKinds := [.data, .data], laidTests := true, laidLooks := .later }
def FnExactProfileOfUptoCardSaid : Prop := Claim7.holds Tryd.pinned (.plain (OpenSpec.upto fnExactProfileOfSpec)) fnExactProfileOfUptoCard

/-- THE SECOND FORM's CARD OF 'laws.FnExactNewSession'. -/
def fnExactNewSessionUptoCard : Claim7 := { stood := { row := fnExactNewSessionUptoRow, standIns := [], harness := (true, "09ed5302a242716d0511367d56f1482c960218b0e2aa0e3ceb22bc01365ddb37"), looks := true }, kinds := [], alts := [], laidByText := true, laidKinds := [.data, .data, .data, .data, .sentinel, .sentinel, .pinned], laidTests := true, laidLooks := .later }
def FnExactNewSessionUptoCardSaid : Prop := Claim7.holds Tryd.pinned (.plain (OpenSpec.upto fnExactNewSessionSpec)) fnExactNewSessionUptoCard
end Rows
end Go.Proofs.YtiihfodcocihjaaDoor
