/- Closed facts on the program. -/
import Derived.Test.YtonbmmjagdbgaaaDoorRows
import Derived.JoinedOf
namespace Go.Proofs.YtonbmmjagdbgaaaDoor
set_option linter.unusedVariables false
set_option linter.unusedSimpArgs false
set_option maxRecDepth 100000
theorem liftF : Tryd.pinned.checked.prog.liftsFinal = false := by kernel_rfl
end Go.Proofs.YtonbmmjagdbgaaaDoor
