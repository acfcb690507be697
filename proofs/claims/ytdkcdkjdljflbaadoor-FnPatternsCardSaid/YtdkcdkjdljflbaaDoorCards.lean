/-
  DERIVED. GIVEN WITH THE SEED: THE CARDS: each row of YtdkcdkjdljflbaaDoorRows.lean that lists a variable, with what it lists TIED to the program's text (the seventh form; the later family's looks); each row that meets fmt, with fmt's text TOLD by the authors' own Lean function (tested against real Go, not proved from fmt's source: count such statements apart). THE CARD IS WHAT COUNTS. Prove the row's statement (the work); the ties are given (YtdkcdkjdljflbaaDoorTie.lean); close each card by the builder's one call (the guide's Derived/Test/ToyasCard.lean, 'card_holds'). Laid BY PROGRAM, IN A SANDBOX (cutbox-door.mjs). By AI agents, Wed Nov 11 2026. No macro, syntax, notation, axiom, sorry.
-/
import Derived.Test.YtdkcdkjdljflbaaDoorRows
import GoSem.ClaimSeven
namespace Go.Proofs.YtdkcdkjdljflbaaDoor
namespace Rows

/-- THE TIED CARD OF 'laws.FnPatterns'. -/
def fnPatternsCard : Claim7 := { stood := { row := fnPatternsRow, standIns := [], harness := (true, "c653a55a6c24c30a99f774e50692a959ececb44efac3db8b743a25079d1b3829"), looks := false }, kinds := [], alts := [], laidByText := true, laidKinds := [.data, .data, .data], laidTests := true, laidLooks := .later }
def FnPatternsCardSaid : Prop := Claim7.holds Tryd.pinned (.plain (OpenSpec.ofChange fnPatternsSpec)) fnPatternsCard

/-- THE TIED CARD OF 'laws.FnStable'. -/
def fnStableCard : Claim7 := { stood := { row := fnStableRow, standIns := [], harness := (true, "c653a55a6c24c30a99f774e50692a959ececb44efac3db8b743a25079d1b3829"), looks := false }, kinds := [], alts := [], laidByText := true, laidKinds := [.data, .data], laidTests := true, laidLooks := .later }
def FnStableCardSaid : Prop := Claim7.holds Tryd.pinned (.plain (OpenSpec.ofChange fnStableSpec)) fnStableCard

/-- THE SECOND FORM's CARD OF 'laws.FnPatterns'. -/
def fnPatternsUptoCard : Claim7 := { stood := { row := fnPatternsUptoRow, standIns := [], harness := (true, "c653a55a6c24c30a99f774e50692a959ececb44efac3db8b743a25079d1b3829"), looks := false }, kinds := [], alts := [], laidByText := true, laidKinds := [.data, .data, .data], laidTests := true, laidLooks := .later }
def FnPatternsUptoCardSaid : Prop := Claim7.holds Tryd.pinned (.plain (OpenSpec.upto fnPatternsSpec)) fnPatternsUptoCard

/-- THE SECOND FORM's CARD OF 'laws.FnStable'. -/
def fnStableUptoCard : Claim7 := { stood := { row := fnStableUptoRow, standIns := [], harness := (true, "c653a55a6c24c30a99f774e50692a959ececb44efac3db8b743a25079d1b3829"), looks := false }, kinds := [], alts := [], laidByText := true, laidKinds := [.data, .data], laidTests := true, laidLooks := .later }
def FnStableUptoCardSaid : Prop := Claim7.holds Tryd.pinned (.plain (OpenSpec.upto fnStableSpec)) fnStableUptoCard
end Rows
end Go.Proofs.YtdkcdkjdljflbaaDoor
