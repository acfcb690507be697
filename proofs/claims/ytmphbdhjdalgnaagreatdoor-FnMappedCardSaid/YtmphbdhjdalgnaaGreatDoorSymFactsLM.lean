/- Closed facts on the program. -/
import Derived.Test.YtmphbdhjdalgnaaGreatDoorRows
import Derived.JoinedOf
namespace Go.Proofs.YtmphbdhjdalgnaaGreatDoor
set_option linter.unusedVariables false
set_option linter.unusedSimpArgs false
set_option maxRecDepth 100000
theorem liftF : Tryz.pinned.checked.prog.liftsFinal = false := by kernel_rfl
end Go.Proofs.YtmphbdhjdalgnaaGreatDoor
