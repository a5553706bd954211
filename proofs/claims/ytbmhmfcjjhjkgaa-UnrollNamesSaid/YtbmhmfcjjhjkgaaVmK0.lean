/- A call that is computed. Printed. -/
import Derived.Test.YtbmhmfcjjhjkgaaVmEnv
import Derived.Test.YtbmhmfcjjhjkgaaVmE9
namespace Go.Proofs.Ytbmhmfcjjhjkgaa.Vm
open Go
set_option maxRecDepth 100000
def li0 (s : Nat) (l : List Nat) : T := .lst s (l.map fun n => .int .i64 (.ofNat n))
def as0 : List V := [.ag [dInt 41, .d false (.lst 2 []), .d false (.lst 2 []), .d false (.lst 1 []), .d false (.lst 1 [])], dInt 98]
def r0 : V := (.tp [(.ag [(.d true (.int .i64 (0))), (.nil 1), (.nil 1)]), (.d true (.int .i64 (4)))])
theorem gives0 : givesR env [] 100000 k_unroll_Of as0 r0 = true := by kernel_rfl
theorem known0 : Known env k_unroll_Of as0 r0 := givesR_ok (K := []) ext_w (fun _ h => by cases h) gives0
end Go.Proofs.Ytbmhmfcjjhjkgaa.Vm
