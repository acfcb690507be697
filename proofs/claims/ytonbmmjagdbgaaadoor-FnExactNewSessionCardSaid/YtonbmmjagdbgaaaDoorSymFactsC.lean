/- Closed facts on the program. -/
import Derived.Test.YtonbmmjagdbgaaaDoorSymFactsKC
import Derived.JoinedOf
namespace Go.Proofs.YtonbmmjagdbgaaaDoor
set_option linter.unusedVariables false
set_option linter.unusedSimpArgs false
set_option maxRecDepth 100000
theorem laidF : laidOutB Tryd.pinned.checked.prog = true := by kernel_rfl
theorem rowedF : mapsRowed Tryd.pinned.checked.prog = true := by kernel_rfl
theorem stopsF : (Tryd.pinned.checked.prog.stops == []) = true := by kernel_rfl
theorem knobsF : (Tryd.pinned.checked.prog.stopKnobs == []) = true := by kernel_rfl
theorem heardF : Tryd.pinned.checked.prog.stopsHeard = true := by kernel_rfl
theorem enterF : Tryd.pinned.checked.prog.mayEnter = true := by kernel_rfl
end Go.Proofs.YtonbmmjagdbgaaaDoor
