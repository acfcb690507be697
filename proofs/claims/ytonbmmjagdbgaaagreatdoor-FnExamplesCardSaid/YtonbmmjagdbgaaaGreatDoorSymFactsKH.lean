/- Closed facts on the program. -/
import Derived.Test.YtonbmmjagdbgaaaGreatDoorSymFactsLH
import GoSem.ClaimSeven
import Derived.JoinedOf
namespace Go.Proofs.YtonbmmjagdbgaaaGreatDoor
set_option linter.unusedVariables false
set_option linter.unusedSimpArgs false
set_option maxRecDepth 100000
theorem looksF : true = Tryz.pinned.checked.prog.looks [] := by kernel_rfl
end Go.Proofs.YtonbmmjagdbgaaaGreatDoor
