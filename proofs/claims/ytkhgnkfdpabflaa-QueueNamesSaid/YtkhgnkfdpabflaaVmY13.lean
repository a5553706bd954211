/- Lists are as they are: numbers. -/
import Derived.Test.YtkhgnkfdpabflaaVmU1a
namespace Go.Proofs.Ytkhgnkfdpabflaa.Vm
open Go
set_option linter.unusedVariables false
set_option linter.unusedSimpArgs false
theorem Same_self (l : List Int) (hl : l.length < 9223372036854775807) : s_ref13_Same l l = some true := by
  unfold s_ref13_Same
  have : ((l.length : Int) != (l.length : Int)) = false := by simp
  rw [this]
  obtain ⟨r, h1, h2⟩ := Lp_find (l := l) (fun _ _ => false) (f := b_ref13_Same_L0 l l) (r0 := Sum.inl ()) (fun _ => Sum.inr ()) hl (fun i x hx => by
    unfold b_ref13_Same_L0
    rw [dec_lt (lt_len hx), idx_nat', hx]
    have : (x != x) = false := by simp
    simp only [if_true, Option.bind_some, this, Bool.false_eq_true, if_false]) (by unfold b_ref13_Same_L0; rw [dec_ge]; rfl)
  rw [h1]
  rcases h2 with ⟨_, rfl⟩ | ⟨i, x, _, hp, _⟩
  · rfl
  · cases hp
end Go.Proofs.Ytkhgnkfdpabflaa.Vm
