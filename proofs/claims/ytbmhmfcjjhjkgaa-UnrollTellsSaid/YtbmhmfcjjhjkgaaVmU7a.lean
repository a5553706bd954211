/- UnrollTells, of typed arguments. -/
import Derived.Test.YtbmhmfcjjhjkgaaVmU6
import Derived.Test.YtbmhmfcjjhjkgaaVmD1UnrollTells
namespace Go.Proofs.Ytbmhmfcjjhjkgaa.Vm
open Go
set_option linter.unusedVariables false
set_option linter.unusedSimpArgs false
theorem RC_of {c : S_Circuit} (h : R_S_Circuit c) : RC c := by
  obtain ⟨h1, ⟨_, h2⟩, ⟨_, h3⟩, ⟨_, h4⟩, _, h5⟩ := h
  exact ⟨h1, fun l hl => h2 l hl, fun a ha => h3 a ha, fun x hx => h4 x hx, fun x hx => h5 x hx⟩
theorem plain_UnrollTells (c : S_Circuit) (n : Int) (h : R_S_Circuit c) (_ : RI n) : s_law23_UnrollTells c n = some true := tells (RC_of h) n
end Go.Proofs.Ytbmhmfcjjhjkgaa.Vm
