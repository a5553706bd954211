/- Runs are as they are. -/
import Derived.Test.YtkhgnkfdpabflaaVmU1a
namespace Go.Proofs.Ytkhgnkfdpabflaa.Vm
open Go
set_option linter.unusedVariables false
set_option linter.unusedSimpArgs false
theorem Same04_self (l : List Bool) (hl : l.length < 9223372036854775807) : s_ref04_Same l l = some true := by
  unfold s_ref04_Same
  simp only [bne_self_eq_false, Bool.false_eq_true, if_false]
  rw [Lp_all (l := l) (f := b_ref04_Same_L0 l l) (r0 := .inl ()) hl (fun i x hx => by
    have hi := lt_len hx
    unfold b_ref04_Same_L0
    simp only [dec_lt hi, if_true]
    rw [idx_nat', hx]
    have : ((x == x) != true) = false := by cases x <;> rfl
    simp only [Option.bind_some, this, Bool.false_eq_true, if_false]) (by unfold b_ref04_Same_L0; simp only [dec_ge]; rfl)]
  rfl
theorem Same06_self (t : S_Trace) (h1 : t.First.length < 1000000) (h2 : t.Inputs.length < 1000000) (h3 : ∀ is ∈ t.Inputs, is.length < 1000000) : s_ref06_Same t t = some true := by
  unfold s_ref06_Same s_ref06_SameAll
  rw [Same04_self _ (by omega)]
  simp only [Option.bind_some, if_true, bne_self_eq_false, Bool.false_eq_true, if_false]
  rw [Lp_all (l := t.Inputs) (f := b_ref06_SameAll_L0 t.Inputs t.Inputs) (r0 := .inl ()) (by omega) (fun i x hx => by
    have hi := lt_len hx
    unfold b_ref06_SameAll_L0
    simp only [dec_lt hi, if_true]
    rw [idx_nat', hx]
    have := h3 x (List.mem_of_getElem? hx)
    simp only [Option.bind_some, Same04_self x (by omega), if_true]) (by unfold b_ref06_SameAll_L0; simp only [dec_ge]; rfl)]
  rfl
end Go.Proofs.Ytkhgnkfdpabflaa.Vm
