/- Rows that a callee made, seen from the caller. -/
import Derived.Test.YtkhgnkfdpabflaaVmW0
import Derived.Test.YtkhgnkfdpabflaaVmP2
namespace Go.Proofs.Ytkhgnkfdpabflaa.Vm
open Go
set_option linter.unusedVariables false
set_option linter.unusedSimpArgs false
def rowsOb (R : List (Nat × List T)) : Lv := R.map fun p => some (.rw p.1 p.2 false)
def setRows : St → Nat → List (Nat × List T) → St
  | σ, _, [] => σ
  | σ, b, p :: R => setRows (σ.setObj 0 b (some (.rw p.1 p.2 false))) (b + 1) R
def FreeRows : St → Nat → List (Nat × List T) → Prop
  | _, _, [] => True
  | σ, b, _ :: R => σ.obj 0 b = none ∧ FreeRows σ (b + 1) R
theorem FreeRows_nil {σ : St} {b : Nat} : FreeRows σ b [] = True := propext Iff.rfl
theorem FreeRows_cons {σ : St} {b : Nat} {p : Nat × List T} {R : List (Nat × List T)} : FreeRows σ b (p :: R) = (σ.obj 0 b = none ∧ FreeRows σ (b + 1) R) := propext Iff.rfl
def ren1 (b : Nat) : V → V
  | .row 0 n lo len s => .row 0 (b + n) lo len s
  | v => v
def ren2 (b : Nat) : V → V
  | .ag cs => .ag (cs.map (ren1 b))
  | v => ren1 b v
def ren (b : Nat) : V → V
  | .tp cs => .tp (cs.map (ren2 b))
  | v => ren2 b v
def KTk (e : V) (R : List (Nat × List T)) (v : V) (σc : St) : Prop := ∃ us, take true σc v ([], 0, []) = some (e, rowsOb R, R.length, us)
end Go.Proofs.Ytkhgnkfdpabflaa.Vm
