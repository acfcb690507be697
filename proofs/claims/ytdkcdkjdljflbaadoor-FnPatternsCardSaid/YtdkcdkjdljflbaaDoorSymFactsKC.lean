/- Closed facts on the program. -/
import Derived.Test.YtdkcdkjdljflbaaDoorSymFactsLC
import GoSem.ClaimSeven
import Derived.JoinedOf
namespace Go.Proofs.YtdkcdkjdljflbaaDoor
set_option linter.unusedVariables false
set_option linter.unusedSimpArgs false
set_option maxRecDepth 100000
theorem looksF : false = Tryd.pinned.checked.prog.looks [] := by kernel_rfl
end Go.Proofs.YtdkcdkjdljflbaaDoor
