/-
  DERIVED. GIVEN WITH THE SEED: THE CARDS: each row of YtiihfodcocihjaaGreatDoorRows.lean that lists a variable, with what it lists TIED to the program's text (the seventh form; the later family's looks); each row that meets fmt, with fmt's text TOLD by the authors' own Lean function (tested against real Go, not proved from fmt's source: count such statements apart). THE CARD IS WHAT COUNTS. Prove the row's statement (the work); the ties are given (YtiihfodcocihjaaGreatDoorTie.lean); close each card by the builder's one call (the guide's Derived/Test/ToyasCard.lean, 'card_holds'). Laid BY PROGRAM, IN A SANDBOX (cutbox-door.mjs). By AI agents, Wed Nov 11 2026. No macro, syntax, notation, axiom, sorry.
-/
import Derived.Test.YtiihfodcocihjaaGreatDoorRows
import GoSem.ClaimSeven
namespace Go.Proofs.YtiihfodcocihjaaGreatDoor
namespace Rows

/-- THE TIED CARD OF 'laws.FnExactKindName'. -/
def fnExactKindNameCard : Claim7 := { stood := { row := fnExactKindNameRow, standIns := [], harness := (true, "29fa2133136a5653195a102f6f5d0db9e1b7beb45a1d6c6f8a7ae730499c337d"), looks := true }, kinds := [], alts := [], laidByText := true, laidKinds := [.data, .data], laidTests := true, laidLooks := .later }
def FnExactKindNameCardSaid : Prop := Claim7.holds Tryz.pinned (.plain (OpenSpec.ofChange fnExactKindNameSpec)) fnExactKindNameCard

/-- THE TIED CARD OF 'laws.FnExactExploreObjects'. -/
def fnExactExploreObjectsCard : Claim7 := { stood := { row := fnExactExploreObjectsRow, standIns := [], harness := (true, "29fa2133136a5653195a102f6f5d0db9e1b7beb45a1d6c6f8a7ae730499c337d"), looks := true }, kinds := [], alts := [], laidByText := true, laidKinds := [.data, .data], laidTests := true, laidLooks := .later }
def FnExactExploreObjectsCardSaid : Prop := Claim7.holds Tryz.pinned (.plain (OpenSpec.ofChange fnExactExploreObjectsSpec)) fnExactExploreObjectsCard

/-- THE TIED CARD OF 'laws.FnExactHasMap'. -/
def fnExactHasMapCard : Claim7 := { stood := { row := fnExactHasMapRow, standIns := [], harness := (true, "29fa2133136a5653195a102f6f5d0db9e1b7beb45a1d6c6f8a7ae730499c337d"), looks := true }, kinds := [], alts := [], laidByText := true, laidKinds := [.data, .data], laidTests := true, laidLooks := .later }
def FnExactHasMapCardSaid : Prop := Claim7.holds Tryz.pinned (.plain (OpenSpec.ofChange fnExactHasMapSpec)) fnExactHasMapCard

/-- THE TIED CARD OF 'laws.FnExactFindMap'. -/
def fnExactFindMapCard : Claim7 := { stood := { row := fnExactFindMapRow, standIns := [], harness := (true, "29fa2133136a5653195a102f6f5d0db9e1b7beb45a1d6c6f8a7ae730499c337d"), looks := true }, kinds := [], alts := [], laidByText := true, laidKinds := [.data, .data], laidTests := true, laidLooks := .later }
def FnExactFindMapCardSaid : Prop := Claim7.holds Tryz.pinned (.plain (OpenSpec.ofChange fnExactFindMapSpec)) fnExactFindMapCard

/-- THE TIED CARD OF 'laws.FnExactDiagramLines'. -/
def fnExactDiagramLinesCard : Claim7 := { stood := { row := fnExactDiagramLinesRow, standIns := [], harness := (true, "29fa2133136a5653195a102f6f5d0db9e1b7beb45a1d6c6f8a7ae730499c337d"), looks := true }, kinds := [], alts := [], laidByText := true, laidKinds := [.data, .data, .data], laidTests := true, laidLooks := .later }
def FnExactDiagramLinesCardSaid : Prop := Claim7.holds Tryz.pinned (.plain (OpenSpec.ofChange fnExactDiagramLinesSpec)) fnExactDiagramLinesCard

/-- THE TIED CARD OF 'laws.FnExactDescribeContext'. -/
def fnExactDescribeContextCard : Claim7 := { stood := { row := fnExactDescribeContextRow, standIns := [], harness := (true, "29fa2133136a5653195a102f6f5d0db9e1b7beb45a1d6c6f8a7ae730499c337d"), looks := true }, kinds := [], alts := [], laidByText := true, laidKinds := [.data, .data, .data], laidTests := true, laidLooks := .later }
def FnExactDescribeContextCardSaid : Prop := Claim7.holds Tryz.pinned (.plain (OpenSpec.ofChange fnExactDescribeContextSpec)) fnExactDescribeContextCard

/-- THE TIED CARD OF 'laws.FnExactDescribeExample'. -/
def fnExactDescribeExampleCard : Claim7 := { stood := { row := fnExactDescribeExampleRow, standIns := [], harness := (true, "29fa2133136a5653195a102f6f5d0db9e1b7beb45a1d6c6f8a7ae730499c337d"), looks := true }, kinds := [], alts := [], laidByText := true, laidKinds := [.data, .data, .data, .data, .sentinel, .sentinel, .pinned], laidTests := true, laidLooks := .later }
def FnExactDescribeExampleCardSaid : Prop := Claim7.holds Tryz.pinned (.plain (OpenSpec.ofChange fnExactDescribeExampleSpec)) fnExactDescribeExampleCard

/-- THE SECOND FORM's CARD OF 'laws.FnExactKindName'. -/
def fnExactKindNameUptoCard : Claim7 := { stood := { row := fnExactKindNameUptoRow, standIns := [], harness := (true, "29fa2133136a5653195a102f6f5d0db9e1b7beb45a1d6c6f8a7ae730499c337d"), looks := true }, kinds := [], alts := [], laidByText := true, laidKinds := [.data, .data], laidTests := true, laidLooks := .later }
def FnExactKindNameUptoCardSaid : Prop := Claim7.holds Tryz.pinned (.plain (OpenSpec.upto fnExactKindNameSpec)) fnExactKindNameUptoCard

/-- THE SECOND FORM's CARD OF 'laws.FnExactExploreObjects'. -/
def fnExactExploreObjectsUptoCard : Claim7 := { stood := { row := fnExactExploreObjectsUptoRow, standIns := [], harness := (true, "29fa2133136a5653195a102f6f5d0db9e1b7beb45a1d6c6f8a7ae730499c337d"), looks := true }, kinds := [], alts := [], laidByText := true, laidKinds := [.data, .data], laidTests := true, laidLooks := .later }
def FnExactExploreObjectsUptoCardSaid : Prop := Claim7.holds Tryz.pinned (.plain (OpenSpec.upto fnExactExploreObjectsSpec)) fnExactExploreObjectsUptoCard

/-- THE SECOND FORM's CARD OF 'laws.FnExactHasMap'. -/
def fnExactHasMapUptoCard : Claim7 := { stood := { row := fnExactHasMapUptoRow, standIns := [], harness := (true, "29fa2133136a5653195a102f6f5d0db9e1b7beb45a1d6c6f8a7ae730499c337d"), looks := true }, kinds := [], alts := [], laidByText := true, laidKinds := [.data, .data], laidTests := true, laidLooks := .later }
def FnExactHasMapUptoCardSaid : Prop := Claim7.holds Tryz.pinned (.plain (OpenSpec.upto fnExactHasMapSpec)) fnExactHasMapUptoCard

/-- THE SECOND FORM's CARD OF 'laws.FnExactFindMap'. -/
def fnExactFindMapUptoCard : Claim7 := { stood := { row := fnExactFindMapUptoRow, standIns := [], harness := (true, "29fa2133136a5653195a102f6f5d0db9e1b7beb45a1d6c6f8a7ae730499c337d"), looks := true }, kinds := [], alts := [], laidByText := true, laidKinds := [.data, .data], laidTests := true, laidLooks := .later }
def FnExactFindMapUptoCardSaid : Prop := Claim7.holds Tryz.pinned (.plain (OpenSpec.upto fnExactFindMapSpec)) fnExactFindMapUptoCard

/-- THE SECOND FORM's CARD OF 'laws.FnExactDiagramLines'. -/
def fnExactDiagramLinesUptoCard : Claim7 := { stood := { row := fnExactDiagramLinesUptoRow, standIns := [], harness := (true, "29fa2133136a5653195a102f6f5d0db9e1b7beb45a1d6c6f8a7ae730499c337d"), looks := true }, kinds := [], alts := [], laidByText := true, laidKinds := [.data, .data, .data], laidTests := true, laidLooks := .later }
def FnExactDiagramLinesUptoCardSaid : Prop := Claim7.holds Tryz.pinned (.plain (OpenSpec.upto fnExactDiagramLinesSpec)) fnExactDiagramLinesUptoCard

/-- THE SECOND FORM's CARD OF 'laws.FnExactDescribeContext'. -/
def fnExactDescribeContextUptoCard : Claim7 := { stood := { row := fnExactDescribeContextUptoRow, standIns := [], harness := (true, "29fa2133136a5653195a102f6f5d0db9e1b7beb45a1d6c6f8a7ae730499c337d"), looks := true }, kinds := [], alts := [], laidByText := true, laidKinds := [.data, .data, .data], laidTests := true, laidLooks := .later }
def FnExactDescribeContextUptoCardSaid : Prop := Claim7.holds Tryz.pinned (.plain (OpenSpec.upto fnExactDescribeContextSpec)) fnExactDescribeContextUptoCard

/-- THE SECOND FORM's CARD OF 'laws.FnExactDescribeExample'. -/
def fnExactDescribeExampleUptoCard : Claim7 := { stood := { row := fnExactDescribeExampleUptoRow, standIns := [], harness := (true, "29fa2133136a5653195a102f6f5d0db9e1b7beb45a1d6c6f8a7ae730499c337d"), looks := true }, kinds := [], alts := [], laidByText := true, laidKinds := [.data, .data, .data, .data, .sentinel, .sentinel, .pinned], laidTests := true, laidLooks := .later }
def FnExactDescribeExampleUptoCardSaid : Prop := Claim7.holds Tryz.pinned (.plain (OpenSpec.upto fnExactDescribeExampleSpec)) fnExactDescribeExampleUptoCard
end Rows
end Go.Proofs.YtiihfodcocihjaaGreatDoor
