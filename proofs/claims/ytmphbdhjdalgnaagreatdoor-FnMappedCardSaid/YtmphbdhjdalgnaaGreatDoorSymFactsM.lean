/- Closed facts on the program. -/
import Derived.Test.YtmphbdhjdalgnaaGreatDoorSymFactsKM
import Derived.JoinedOf
namespace Go.Proofs.YtmphbdhjdalgnaaGreatDoor
set_option linter.unusedVariables false
set_option linter.unusedSimpArgs false
set_option maxRecDepth 100000
theorem laidF : laidOutB Tryz.pinned.checked.prog = true := by kernel_rfl
theorem rowedF : mapsRowed Tryz.pinned.checked.prog = true := by kernel_rfl
theorem stopsF : (Tryz.pinned.checked.prog.stops == []) = true := by kernel_rfl
theorem knobsF : (Tryz.pinned.checked.prog.stopKnobs == []) = true := by kernel_rfl
theorem heardF : Tryz.pinned.checked.prog.stopsHeard = true := by kernel_rfl
theorem enterF : Tryz.pinned.checked.prog.mayEnter = true := by kernel_rfl
end Go.Proofs.YtmphbdhjdalgnaaGreatDoor
