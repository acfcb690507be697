/- Closed facts on the program. -/
import Derived.Test.YtihpicaamaeooaaDoorRows
import Derived.JoinedOf
namespace Go.Proofs.YtihpicaamaeooaaDoor
set_option linter.unusedVariables false
set_option linter.unusedSimpArgs false
set_option maxRecDepth 100000
theorem liftF : Tryd.pinned.checked.prog.liftsFinal = false := by kernel_rfl
end Go.Proofs.YtihpicaamaeooaaDoor
