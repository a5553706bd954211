/- Plain laws of typed loops and lists: no program in sight. -/
import Derived.Test.YtkhgnkfdpabflabVmL0a
namespace Go.Proofs.Ytkhgnkfdpabflab.Vm
open Go
set_option linter.unusedVariables false
set_option linter.unusedSimpArgs false
end Go.Proofs.Ytkhgnkfdpabflab.Vm
