/- Clone's contract looks at no slots. -/
import Derived.Test.YtcgjebaomhfbdaaGreatVmP5
import Derived.Test.YtcgjebaomhfbdaaGreatVmE9
namespace Go.Proofs.YtcgjebaomhfbdaaGreat.Vm
open Go
theorem cloneX_wsl {s : Nat} (σ : St) (sl : List V) (as : List V) (rm : Option Nat) : cloneX s (σ.wsl sl) as rm = (cloneX s σ as rm).map fun p => (p.1, p.2.wsl sl) := by
  unfold cloneX
  split
  · rw [els_wsl]
    cases σ.els s _ with
    | none => rfl
    | some es =>
      simp only
      split
      · cases rm with
        | none => rfl
        | some nm => simp only [new_wsl]; cases σ.new nm _ <;> rfl
      · rfl
  · rfl
end Go.Proofs.YtcgjebaomhfbdaaGreat.Vm
