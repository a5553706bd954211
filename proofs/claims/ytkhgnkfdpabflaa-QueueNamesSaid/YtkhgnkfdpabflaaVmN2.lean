/- The reference's May, Less and Same. -/
import Derived.Test.YtkhgnkfdpabflaaVmN1
namespace Go.Proofs.Ytkhgnkfdpabflaa.Vm
open Go
set_option linter.unusedVariables false
set_option linter.unusedSimpArgs false
theorem Same38_self (q : List S_Wait) (hl : q.length < 9223372036854775807) : s_ref38_Same q q = some true := by
  unfold s_ref38_Same
  have e : ((q.length : Int) != (q.length : Int)) = false := by simp
  simp only [e, Bool.false_eq_true, if_false]
  rw [Lp_all (l := q) (f := b_ref38_Same_L0 q q) (r0 := .inl ()) hl (fun i x hx => by
    unfold b_ref38_Same_L0
    rw [if_pos (dec_lt (lt_len hx)), idx_nat', hx]
    simp) (by
    unfold b_ref38_Same_L0
    rw [dec_ge]; rfl)]
  rfl
end Go.Proofs.Ytkhgnkfdpabflaa.Vm
