/-
  DERIVED. GIVEN WITH THE SEED: THE CARDS: each row of YtmphbdhjdalgnaaGreatDoorRows.lean that lists a variable, with what it lists TIED to the program's text (the seventh form; the later family's looks); each row that meets fmt, with fmt's text TOLD by the authors' own Lean function (tested against real Go, not proved from fmt's source: count such statements apart). THE CARD IS WHAT COUNTS. Prove the row's statement (the work); the ties are given (YtmphbdhjdalgnaaGreatDoorTie.lean); close each card by the builder's one call (the guide's Derived/Test/ToyasCard.lean, 'card_holds'). Laid BY PROGRAM, IN A SANDBOX (cutbox-door.mjs). By AI agents, Wed Nov 11 2026. No macro, syntax, notation, axiom, sorry.
-/
import Derived.Test.YtmphbdhjdalgnaaGreatDoorRows
import GoSem.ClaimSeven
namespace Go.Proofs.YtmphbdhjdalgnaaGreatDoor
namespace Rows

/-- THE TIED CARD OF 'laws.FnMapped'. -/
def fnMappedCard : Claim7 := { stood := { row := fnMappedRow, standIns := [], harness := (true, "45857ab20c0601e23dcf6f89b2aa8df19854dc406fada41c8735d1364a091c75"), looks := false }, kinds := [], alts := [], laidByText := true, laidKinds := [.data, .data], laidTests := true, laidLooks := .later }
def FnMappedCardSaid : Prop := Claim7.holds Tryz.pinned (.plain (OpenSpec.ofChange fnMappedSpec)) fnMappedCard

/-- THE SECOND FORM's CARD OF 'laws.FnMapped'. -/
def fnMappedUptoCard : Claim7 := { stood := { row := fnMappedUptoRow, standIns := [], harness := (true, "45857ab20c0601e23dcf6f89b2aa8df19854dc406fada41c8735d1364a091c75"), looks := false }, kinds := [], alts := [], laidByText := true, laidKinds := [.data, .data], laidTests := true, laidLooks := .later }
def FnMappedUptoCardSaid : Prop := Claim7.holds Tryz.pinned (.plain (OpenSpec.upto fnMappedSpec)) fnMappedUptoCard
end Rows
end Go.Proofs.YtmphbdhjdalgnaaGreatDoor
