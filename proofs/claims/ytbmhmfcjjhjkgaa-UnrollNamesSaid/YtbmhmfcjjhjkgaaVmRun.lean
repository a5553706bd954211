/- The law runs: computed. Printed. -/
import Derived.Test.YtbmhmfcjjhjkgaaVmEnv
import Derived.Test.YtbmhmfcjjhjkgaaVmE9
import Derived.Test.YtbmhmfcjjhjkgaaVmK0
import Derived.Test.YtbmhmfcjjhjkgaaVmK1
import Derived.Test.YtbmhmfcjjhjkgaaVmK2
namespace Go.Proofs.Ytbmhmfcjjhjkgaa.Vm
open Go
def tab : Tab := [(k_unroll_Of, as0, r0), (k_unroll_Of, as1, r1), (k_unroll_Of, as2, r2)]
theorem tab_ok : ∀ p ∈ tab, Known env p.1 p.2.1 p.2.2 := by
  intro p hp
  simp only [tab, List.mem_cons, List.not_mem_nil, or_false] at hp
  rcases hp with rfl | rfl | rfl
  · exact known0
  · exact known1
  · exact known2
theorem says_true : saysR env tab 100000 k_law23_UnrollNames = true := by kernel_rfl
theorem runs : ∃ p σ, Ev env (.fn k_law23_UnrollNames [] []) (.fn (.d p (.bool true)) σ) := saysR_ok ext_w tab_ok says_true
theorem law : Law Try.prog env 8 k_law23_UnrollNames [] := fun xs _ => by
  show ∃ p σ, Ev env (.fn k_law23_UnrollNames (argVs Try.prog [] xs) []) _
  unfold argVs
  exact runs
end Go.Proofs.Ytbmhmfcjjhjkgaa.Vm
