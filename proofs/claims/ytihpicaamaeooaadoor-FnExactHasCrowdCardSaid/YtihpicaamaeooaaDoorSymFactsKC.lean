/- Closed facts on the program. -/
import Derived.Test.YtihpicaamaeooaaDoorSymFactsLC
import GoSem.ClaimSeven
import Derived.JoinedOf
namespace Go.Proofs.YtihpicaamaeooaaDoor
set_option linter.unusedVariables false
set_option linter.unusedSimpArgs false
set_option maxRecDepth 100000
theorem looksF : false = Tryd.pinned.checked.prog.looks [] := by kernel_rfl
end Go.Proofs.YtihpicaamaeooaaDoor
