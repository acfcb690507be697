/-
  DERIVED. GIVEN WITH THE SEED: THE CARDS: each row of YtihpicaamaeooaaDoorRows.lean that lists a variable, with what it lists TIED to the program's text (the seventh form; the later family's looks); each row that meets fmt, with fmt's text TOLD by the authors' own Lean function (tested against real Go, not proved from fmt's source: count such statements apart). THE CARD IS WHAT COUNTS. Prove the row's statement (the work); the ties are given (YtihpicaamaeooaaDoorTie.lean); close each card by the builder's one call (the guide's Derived/Test/ToyasCard.lean, 'card_holds'). Laid BY PROGRAM, IN A SANDBOX (cutbox-door.mjs). By AI agents, Wed Nov 11 2026. No macro, syntax, notation, axiom, sorry.
-/
import Derived.Test.YtihpicaamaeooaaDoorRows
import GoSem.ClaimSeven
namespace Go.Proofs.YtihpicaamaeooaaDoor
namespace Rows

/-- THE TIED CARD OF 'laws.FnExactHasCrowd'. -/
def fnExactHasCrowdCard : Claim7 := { stood := { row := fnExactHasCrowdRow, standIns := [], harness := (true, "18ff6f4c1848bc9956b6423da63e7f1aea9cd170192e65e123a537d8b3da8802"), looks := false }, kinds := [], alts := [], laidByText := true, laidKinds := [.data, .data], laidTests := true, laidLooks := .later }
def FnExactHasCrowdCardSaid : Prop := Claim7.holds Tryd.pinned (.plain (OpenSpec.ofChange fnExactHasCrowdSpec)) fnExactHasCrowdCard

/-- THE SECOND FORM's CARD OF 'laws.FnExactHasCrowd'. -/
def fnExactHasCrowdUptoCard : Claim7 := { stood := { row := fnExactHasCrowdUptoRow, standIns := [], harness := (true, "18ff6f4c1848bc9956b6423da63e7f1aea9cd170192e65e123a537d8b3da8802"), looks := false }, kinds := [], alts := [], laidByText := true, laidKinds := [.data, .data], laidTests := true, laidLooks := .later }
def FnExactHasCrowdUptoCardSaid : Prop := Claim7.holds Tryd.pinned (.plain (OpenSpec.upto fnExactHasCrowdSpec)) fnExactHasCrowdUptoCard
end Rows
end Go.Proofs.YtihpicaamaeooaaDoor
