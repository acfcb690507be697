/- Closed facts on the program. -/
import Derived.Test.YtmphbdhjdalgnaaGreatDoorSymFactsLM
import GoSem.ClaimSeven
import Derived.JoinedOf
namespace Go.Proofs.YtmphbdhjdalgnaaGreatDoor
set_option linter.unusedVariables false
set_option linter.unusedSimpArgs false
set_option maxRecDepth 100000
theorem looksF : false = Tryz.pinned.checked.prog.looks [] := by kernel_rfl
end Go.Proofs.YtmphbdhjdalgnaaGreatDoor
