/- Runs are as they are. -/
import Derived.Test.YtkhgnkfdpabflabVmU1a
namespace Go.Proofs.Ytkhgnkfdpabflab.Vm
open Go
set_option linter.unusedVariables false
set_option linter.unusedSimpArgs false
theorem Same04_self (l : List Bool) (hl : l.length < 9223372036854775807) : s_ref04_Same l l = some true := by
  unfold s_ref04_Same
  simp only [bne_self_eq_false, Bool.false_eq_true, if_false]
  rw [Lp_all (l := l) (f := b_ref04_Same_L0 l l) (r0 := .inl ()) hl (fun i x hx => by
    have hi := lt_len hx
    unfold b_ref04_Same_L0
    simp only [dec_lt hi, if_true]
    rw [idx_nat', hx]
    have : ((x == x) != true) = false := by cases x <;> rfl
    simp only [Option.bind_some, this, Bool.false_eq_true, if_false]) (by unfold b_ref04_Same_L0; simp only [dec_ge]; rfl)]
  rfl
end Go.Proofs.Ytkhgnkfdpabflab.Vm
