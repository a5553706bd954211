/- What a law's arguments are, typed. Printed. -/
import Derived.Test.YtkhgnkfdpabflaaVmL1
import Derived.Test.YtkhgnkfdpabflaaVmH0
import Derived.KernelRfl
namespace Go.Proofs.Ytkhgnkfdpabflaa.Vm
open Go
set_option maxRecDepth 100000
set_option linter.unusedVariables false
def R_S_Wait (x : S_Wait) : Prop := RI x.Frame ∧ RI x.Number
theorem D_50 (k : Nat) : Dec Try.prog (k + 2) 50 (fun x : S_Wait => [(.int .i64 x.Frame), (.int .i64 x.Number)]) R_S_Wait := by
  intro ts ht
  obtain ⟨ps, rfl, h⟩ := ty_struct (k := k + 1) (tys := [3, 3]) (by kernel_rfl) ht
  obtain ⟨p0, ps, rfl, h0, h⟩ := all2_cons h
  obtain ⟨p1, ps, rfl, h1, h⟩ := all2_cons h
  have e := all2_nil h
  subst e
  obtain ⟨x0, rfl, r0⟩ := (dec_i64 (k := (k + 0)) (t := 3) (by kernel_rfl)) p0 h0
  obtain ⟨x1, rfl, r1⟩ := (dec_i64 (k := (k + 0)) (t := 3) (by kernel_rfl)) p1 h1
  exact ⟨⟨x0, x1⟩, rfl, r0, r1⟩
end Go.Proofs.Ytkhgnkfdpabflaa.Vm
