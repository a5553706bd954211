/- What a law's arguments are, typed. Printed. -/
import Derived.Test.YtkhgnkfdpabflaaVmL1
import Derived.Test.YtkhgnkfdpabflaaVmH0
import Derived.KernelRfl
namespace Go.Proofs.Ytkhgnkfdpabflaa.Vm
open Go
set_option maxRecDepth 100000
set_option linter.unusedVariables false
end Go.Proofs.Ytkhgnkfdpabflaa.Vm
