/- QueueChains, of typed arguments. -/
import Derived.Test.YtkhgnkfdpabflaaVmZ2
import Derived.Test.YtkhgnkfdpabflaaVmY13
import Derived.Test.YtkhgnkfdpabflaaVmY06
import Derived.Test.YtkhgnkfdpabflaaVmD1QueueNames
namespace Go.Proofs.Ytkhgnkfdpabflaa.Vm
open Go
set_option linter.unusedVariables false
set_option linter.unusedSimpArgs false
section
variable {c : S_Circuit} {l : List S_Obligation}
end
end Go.Proofs.Ytkhgnkfdpabflaa.Vm
