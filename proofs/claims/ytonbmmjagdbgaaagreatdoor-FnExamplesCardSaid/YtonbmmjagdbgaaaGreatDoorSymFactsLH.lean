/- Closed facts on the program. -/
import Derived.Test.YtonbmmjagdbgaaaGreatDoorRows
import Derived.JoinedOf
namespace Go.Proofs.YtonbmmjagdbgaaaGreatDoor
set_option linter.unusedVariables false
set_option linter.unusedSimpArgs false
set_option maxRecDepth 100000
theorem liftF : Tryz.pinned.checked.prog.liftsFinal = false := by kernel_rfl
end Go.Proofs.YtonbmmjagdbgaaaGreatDoor
