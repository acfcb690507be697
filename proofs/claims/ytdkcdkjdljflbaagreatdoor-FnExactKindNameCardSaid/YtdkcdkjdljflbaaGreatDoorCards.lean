/-
  DERIVED. GIVEN WITH THE SEED: THE CARDS: each row of YtdkcdkjdljflbaaGreatDoorRows.lean that lists a variable, with what it lists TIED to the program's text (the seventh form; the later family's looks); each row that meets fmt, with fmt's text TOLD by the authors' own Lean function (tested against real Go, not proved from fmt's source: count such statements apart). THE CARD IS WHAT COUNTS. Prove the row's statement (the work); the ties are given (YtdkcdkjdljflbaaGreatDoorTie.lean); close each card by the builder's one call (the guide's Derived/Test/ToyasCard.lean, 'card_holds'). Laid BY PROGRAM, IN A SANDBOX (cutbox-door.mjs). By AI agents, Wed Nov 11 2026. No macro, syntax, notation, axiom, sorry.
-/
import Derived.Test.YtdkcdkjdljflbaaGreatDoorRows
import GoSem.ClaimSeven
namespace Go.Proofs.YtdkcdkjdljflbaaGreatDoor
namespace Rows

/-- THE TIED CARD OF 'laws.FnUpdates'. -/
def fnUpdatesCard : Claim7 := { stood := { row := fnUpdatesRow, standIns := [], harness := (true, "97dfe3a0f2abf17a82f2f05cf10c09b641ce55377413ae453a7e9ff53fbc0139"), looks := false }, kinds := [], alts := [], laidByText := true, laidKinds := [.data, .data], laidTests := true, laidLooks := .later }
def FnUpdatesCardSaid : Prop := Claim7.holds Tryz.pinned (.plain (OpenSpec.ofChange fnUpdatesSpec)) fnUpdatesCard

/-- THE TIED CARD OF 'laws.FnExactKindName'. -/
def fnExactKindNameCard : Claim7 := { stood := { row := fnExactKindNameRow, standIns := [], harness := (true, "97dfe3a0f2abf17a82f2f05cf10c09b641ce55377413ae453a7e9ff53fbc0139"), looks := false }, kinds := [], alts := [], laidByText := true, laidKinds := [.data, .data], laidTests := true, laidLooks := .later }
def FnExactKindNameCardSaid : Prop := Claim7.holds Tryz.pinned (.plain (OpenSpec.ofChange fnExactKindNameSpec)) fnExactKindNameCard

/-- THE TIED CARD OF 'laws.FnObjectRules'. -/
def fnObjectRulesCard : Claim7 := { stood := { row := fnObjectRulesRow, standIns := [], harness := (true, "97dfe3a0f2abf17a82f2f05cf10c09b641ce55377413ae453a7e9ff53fbc0139"), looks := false }, kinds := [], alts := [], laidByText := true, laidKinds := [.data, .data], laidTests := true, laidLooks := .later }
def FnObjectRulesCardSaid : Prop := Claim7.holds Tryz.pinned (.plain (OpenSpec.ofChange fnObjectRulesSpec)) fnObjectRulesCard

/-- THE SECOND FORM's CARD OF 'laws.FnUpdates'. -/
def fnUpdatesUptoCard : Claim7 := { stood := { row := fnUpdatesUptoRow, standIns := [], harness := (true, "97dfe3a0f2abf17a82f2f05cf10c09b641ce55377413ae453a7e9ff53fbc0139"), looks := false }, kinds := [], alts := [], laidByText := true, laidKinds := [.data, .data], laidTests := true, laidLooks := .later }
def FnUpdatesUptoCardSaid : Prop := Claim7.holds Tryz.pinned (.plain (OpenSpec.upto fnUpdatesSpec)) fnUpdatesUptoCard

/-- THE SECOND FORM's CARD OF 'laws.FnExactKindName'. -/
def fnExactKindNameUptoCard : Claim7 := { stood := { row := fnExactKindNameUptoRow, standIns := [], harness := (true, "97dfe3a0f2abf17a82f2f05cf10c09b641ce55377413ae453a7e9ff53fbc0139"), looks := false }, kinds := [], alts := [], laidByText := true, laidKinds := [.data, .data], laidTests := true, laidLooks := .later }
def FnExactKindNameUptoCardSaid : Prop := Claim7.holds Tryz.pinned (.plain (OpenSpec.upto fnExactKindNameSpec)) fnExactKindNameUptoCard

/-- THE SECOND FORM's CARD OF 'laws.FnObjectRules'. -/
def fnObjectRulesUptoCard : Claim7 := { stood := { row := fnObjectRulesUptoRow, standIns := [], harness := (true, "97dfe3a0f2abf17a82f2f05cf10c09b641ce55377413ae453a7e9ff53fbc0139"), looks := false }, kinds := [], alts := [], laidByText := true, laidKinds := [.data, .data], laidTests := true, laidLooks := .later }
def FnObjectRulesUptoCardSaid : Prop := Claim7.holds Tryz.pinned (.plain (OpenSpec.upto fnObjectRulesSpec)) fnObjectRulesUptoCard
end Rows
end Go.Proofs.YtdkcdkjdljflbaaGreatDoor
