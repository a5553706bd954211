/- Frames behind frames: the program's and the reference's are one. -/
import Derived.Test.YtkhgnkfdpabflabVmU4
namespace Go.Proofs.Ytkhgnkfdpabflab.Vm
open Go
set_option linter.unusedVariables false
set_option linter.unusedSimpArgs false
structure Fit (c : S_Circuit) : Prop where
  valid : Valid c
  i0 : 0 ≤ c.Inputs
  size : size c ≤ 60
abbrev FS := Int × List (List Int) × List (List Int) × List Int
structure Q (c : S_Circuit) (f : Nat) (s : FS) : Prop where
  v0 : 0 ≤ s.1
  v1 : s.1 ≤ 60 * f
  lits : s.2.1.length = f
  cls : s.2.2.1.length ≤ 180 * f
  ls : s.2.2.2.length = c.Latches.length
  lsr : ∀ x ∈ s.2.2.2, x ≤ 2 * s.1 + 1
  rows : ∀ r ∈ s.2.1, r.length = 1 + (size c).toNat
  cl3 : ∀ r ∈ s.2.2.1, r.length ≤ 3
section
variable {c : S_Circuit}
theorem Fit.len (h : Fit c) : c.Latches.length ≤ 60 ∧ c.Ands.length ≤ 60 ∧ c.Inputs ≤ 60 := by
  have := h.size
  have := h.i0
  unfold Vm.size at *
  omega
end
end Go.Proofs.Ytkhgnkfdpabflab.Vm
