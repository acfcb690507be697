/- Closed facts on the program. -/
import Derived.Test.YtihpicaamaeooaaGreatDoorSymFactsLG
import GoSem.ClaimSeven
import Derived.JoinedOf
namespace Go.Proofs.YtihpicaamaeooaaGreatDoor
set_option linter.unusedVariables false
set_option linter.unusedSimpArgs false
set_option maxRecDepth 100000
theorem looksF : false = Tryz.pinned.checked.prog.looks [] := by kernel_rfl
end Go.Proofs.YtihpicaamaeooaaGreatDoor
