/- Runs are as they are. -/
import Derived.Test.YtkhgnkfdpabflaaVmU1a
namespace Go.Proofs.Ytkhgnkfdpabflaa.Vm
open Go
set_option linter.unusedVariables false
set_option linter.unusedSimpArgs false
end Go.Proofs.Ytkhgnkfdpabflaa.Vm
