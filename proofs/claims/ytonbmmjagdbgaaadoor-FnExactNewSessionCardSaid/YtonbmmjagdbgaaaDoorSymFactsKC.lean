/- Closed facts on the program. -/
import Derived.Test.YtonbmmjagdbgaaaDoorSymFactsLC
import GoSem.ClaimSeven
import Derived.JoinedOf
namespace Go.Proofs.YtonbmmjagdbgaaaDoor
set_option linter.unusedVariables false
set_option linter.unusedSimpArgs false
set_option maxRecDepth 100000
theorem looksF : true = Tryd.pinned.checked.prog.looks [] := by kernel_rfl
end Go.Proofs.YtonbmmjagdbgaaaDoor
