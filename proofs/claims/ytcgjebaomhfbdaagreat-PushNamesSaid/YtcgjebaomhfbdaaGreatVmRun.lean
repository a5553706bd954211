/- The law runs: computed. Printed. -/
import Derived.Test.YtcgjebaomhfbdaaGreatVmEnv
import Derived.Test.YtcgjebaomhfbdaaGreatVmE9
namespace Go.Proofs.YtcgjebaomhfbdaaGreat.Vm
open Go
def tab : Tab := []
theorem tab_ok : ∀ p ∈ tab, Known env p.1 p.2.1 p.2.2 := by
  intro p hp
  unfold tab at hp; cases hp
theorem says_true : saysR env tab 100000 k_law40_PushNames = true := by kernel_rfl
theorem runs : ∃ p σ, Ev env (.fn k_law40_PushNames [] []) (.fn (.d p (.bool true)) σ) := saysR_ok ext_w tab_ok says_true
theorem law : Law Tryz.prog env 8 k_law40_PushNames [] := fun xs _ => by
  show ∃ p σ, Ev env (.fn k_law40_PushNames (argVs Tryz.prog [] xs) []) _
  unfold argVs
  exact runs
end Go.Proofs.YtcgjebaomhfbdaaGreat.Vm
