/-
  DERIVED. GIVEN WITH THE SEED: THE CARDS: each row of YtonbmmjagdbgaaaGreatDoorRows.lean that lists a variable, with what it lists TIED to the program's text (the seventh form; the later family's looks); each row that meets fmt, with fmt's text TOLD by the authors' own Lean function (tested against real Go, not proved from fmt's source: count such statements apart). THE CARD IS WHAT COUNTS. Prove the row's statement (the work); the ties are given (YtonbmmjagdbgaaaGreatDoorTie.lean); close each card by the builder's one call (the guide's Derived/Test/ToyasCard.lean, 'card_holds'). Laid BY PROGRAM, IN A SANDBOX (cutbox-door.mjs). By AI agents, Wed Nov 11 2026. No macro, syntax, notation, axiom, sorry.
-/
import Derived.Test.YtonbmmjagdbgaaaGreatDoorRows
import GoSem.ClaimSeven
namespace Go.Proofs.YtonbmmjagdbgaaaGreatDoor
namespace Rows

/-- THE TIED CARD OF 'laws.FnMapped'. -/
def fnMappedCard : Claim7 := { stood := { row := fnMappedRow, standIns := [], harness := (true, "8dc5ac9b3bf4b6ceb5034456dd952353d553069532468415bd94bac34c413cf6"), looks := true }, kinds := [], alts := [], laidByText := true, laidKinds := [.data, .data], laidTests := true, laidLooks := .later }
def FnMappedCardSaid : Prop := Claim7.holds Tryz.pinned (.plain (OpenSpec.ofChange fnMappedSpec)) fnMappedCard

/-- THE TIED CARD OF 'laws.FnExactDescribeContext'. -/
def fnExactDescribeContextCard : Claim7 := { stood := { row := fnExactDescribeContextRow, standIns := [], harness := (true, "8dc5ac9b3bf4b6ceb5034456dd952353d553069532468415bd94bac34c413cf6"), looks := true }, kinds := [], alts := [], laidByText := true, laidKinds := [.data, .data, .data], laidTests := true, laidLooks := .later }
def FnExactDescribeContextCardSaid : Prop := Claim7.holds Tryz.pinned (.plain (OpenSpec.ofChange fnExactDescribeContextSpec)) fnExactDescribeContextCard

/-- THE TIED CARD OF 'laws.FnExactDescribeExample'. -/
def fnExactDescribeExampleCard : Claim7 := { stood := { row := fnExactDescribeExampleRow, standIns := [], harness := (true, "8dc5ac9b3bf4b6ceb5034456dd952353d553069532468415bd94bac34c413cf6"), looks := true }, kinds := [], alts := [], laidByText := true, laidKinds := [.data, .data, .data, .data, .sentinel, .sentinel, .pinned], laidTests := true, laidLooks := .later }
def FnExactDescribeExampleCardSaid : Prop := Claim7.holds Tryz.pinned (.plain (OpenSpec.ofChange fnExactDescribeExampleSpec)) fnExactDescribeExampleCard

/-- THE TIED CARD OF 'laws.FnExamples'. -/
def fnExamplesCard : Claim7 := { stood := { row := fnExamplesRow, standIns := [], harness := (true, "8dc5ac9b3bf4b6ceb5034456dd952353d553069532468415bd94bac34c413cf6"), looks := true }, kinds := [], alts := [], laidByText := true, laidKinds := [.data, .data, .data, .data, .sentinel, .sentinel, .pinned], laidTests := true, laidLooks := .later }
def FnExamplesCardSaid : Prop := Claim7.holds Tryz.pinned (.plain (OpenSpec.ofChange fnExamplesSpec)) fnExamplesCard

/-- THE SECOND FORM's CARD OF 'laws.FnMapped'. -/
def fnMappedUptoCard : Claim7 := { stood := { row := fnMappedUptoRow, standIns := [], harness := (true, "8dc5ac9b3bf4b6ceb5034456dd952353d553069532468415bd94bac34c413cf6"), looks := true }, kinds := [], alts := [], laidByText := true, laidKinds := [.data, .data], laidTests := true, laidLooks := .later }
def FnMappedUptoCardSaid : Prop := Claim7.holds Tryz.pinned (.plain (OpenSpec.upto fnMappedSpec)) fnMappedUptoCard

/-- THE SECOND FORM's CARD OF 'laws.FnExactDescribeContext'. -/
def fnExactDescribeContextUptoCard : Claim7 := { stood := { row := fnExactDescribeContextUptoRow, standIns := [], harness := (true, "8dc5ac9b3bf4b6ceb5034456dd952353d553069532468415bd94bac34c413cf6"), looks := true }, kinds := [], alts := [], laidByText := true, laidKinds := [.data, .data, .data], laidTests := true, laidLooks := .later }
def FnExactDescribeContextUptoCardSaid : Prop := Claim7.holds Tryz.pinned (.plain (OpenSpec.upto fnExactDescribeContextSpec)) fnExactDescribeContextUptoCard

/-- THE SECOND FORM's CARD OF 'laws.FnExactDescribeExample'. -/
def fnExactDescribeExampleUptoCard : Claim7 := { stood := { row := fnExactDescribeExampleUptoRow, standIns := [], harness := (true, "8dc5ac9b3bf4b6ceb5034456dd952353d553069532468415bd94bac34c413cf6"), looks := true }, kinds := [], alts := [], laidByText := true, laidKinds := [.data, .data, .data, .data, .sentinel, .sentinel, .pinned], laidTests := true, laidLooks := .later }
def FnExactDescribeExampleUptoCardSaid : Prop := Claim7.holds Tryz.pinned (.plain (OpenSpec.upto fnExactDescribeExampleSpec)) fnExactDescribeExampleUptoCard

/-- THE SECOND FORM's CARD OF 'laws.FnExamples'. -/
def fnExamplesUptoCard : Claim7 := { stood := { row := fnExamplesUptoRow, standIns := [], harness := (true, "8dc5ac9b3bf4b6ceb5034456dd952353d553069532468415bd94bac34c413cf6"), looks := true }, kinds := [], alts := [], laidByText := true, laidKinds := [.data, .data, .data, .data, .sentinel, .sentinel, .pinned], laidTests := true, laidLooks := .later }
def FnExamplesUptoCardSaid : Prop := Claim7.holds Tryz.pinned (.plain (OpenSpec.upto fnExamplesSpec)) fnExamplesUptoCard
end Rows
end Go.Proofs.YtonbmmjagdbgaaaGreatDoor
