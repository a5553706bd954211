/- Clauses that are put behind others: both ways do the same. -/
import Derived.Test.YtkhgnkfdpabflabVmU1
import Derived.Test.YtkhgnkfdpabflabVmU2
namespace Go.Proofs.Ytkhgnkfdpabflab.Vm
open Go
set_option linter.unusedVariables false
set_option linter.unusedSimpArgs false
end Go.Proofs.Ytkhgnkfdpabflab.Vm
