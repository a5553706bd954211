/- A call that is computed. Printed. -/
import Derived.Test.YtbmhmfcjjhjkgaaVmEnv
import Derived.Test.YtbmhmfcjjhjkgaaVmE9
namespace Go.Proofs.Ytbmhmfcjjhjkgaa.Vm
open Go
set_option maxRecDepth 100000
def li2 (s : Nat) (l : List Nat) : T := .lst s (l.map fun n => .int .i64 (.ofNat n))
def as2 : List V := [.ag [dInt 0, .d false (.lst 2 [.agg [.int .i64 3, .int .i64 0]]), .d false (.lst 2 []), .d false (.lst 1 []), .d false (.lst 1 [])], dInt 100]
def r2 : V := (.tp [(.ag [(.d true (.int .i64 (0))), (.d true (.lst 1 [(li2 1 [0, 0]), (li2 1 [0, 1]), (li2 1 [0, 0]), (li2 1 [0, 1]), (li2 1 [0, 0]), (li2 1 [0, 1]), (li2 1 [0, 0]), (li2 1 [0, 1]), (li2 1 [0, 0]), (li2 1 [0, 1]), (li2 1 [0, 0]), (li2 1 [0, 1]), (li2 1 [0, 0]), (li2 1 [0, 1]), (li2 1 [0, 0]), (li2 1 [0, 1]), (li2 1 [0, 0]), (li2 1 [0, 1]), (li2 1 [0, 0]), (li2 1 [0, 1]), (li2 1 [0, 0]), (li2 1 [0, 1]), (li2 1 [0, 0]), (li2 1 [0, 1]), (li2 1 [0, 0]), (li2 1 [0, 1]), (li2 1 [0, 0]), (li2 1 [0, 1]), (li2 1 [0, 0]), (li2 1 [0, 1]), (li2 1 [0, 0]), (li2 1 [0, 1]), (li2 1 [0, 0]), (li2 1 [0, 1]), (li2 1 [0, 0]), (li2 1 [0, 1]), (li2 1 [0, 0]), (li2 1 [0, 1]), (li2 1 [0, 0]), (li2 1 [0, 1]), (li2 1 [0, 0]), (li2 1 [0, 1]), (li2 1 [0, 0]), (li2 1 [0, 1]), (li2 1 [0, 0]), (li2 1 [0, 1]), (li2 1 [0, 0]), (li2 1 [0, 1]), (li2 1 [0, 0]), (li2 1 [0, 1]), (li2 1 [0, 0]), (li2 1 [0, 1]), (li2 1 [0, 0]), (li2 1 [0, 1]), (li2 1 [0, 0]), (li2 1 [0, 1]), (li2 1 [0, 0]), (li2 1 [0, 1]), (li2 1 [0, 0]), (li2 1 [0, 1]), (li2 1 [0, 0]), (li2 1 [0, 1]), (li2 1 [0, 0]), (li2 1 [0, 1]), (li2 1 [0, 0]), (li2 1 [0, 1]), (li2 1 [0, 0]), (li2 1 [0, 1]), (li2 1 [0, 0]), (li2 1 [0, 1]), (li2 1 [0, 0]), (li2 1 [0, 1]), (li2 1 [0, 0]), (li2 1 [0, 1]), (li2 1 [0, 0]), (li2 1 [0, 1]), (li2 1 [0, 0]), (li2 1 [0, 1]), (li2 1 [0, 0]), (li2 1 [0, 1]), (li2 1 [0, 0]), (li2 1 [0, 1]), (li2 1 [0, 0]), (li2 1 [0, 1]), (li2 1 [0, 0]), (li2 1 [0, 1]), (li2 1 [0, 0]), (li2 1 [0, 1]), (li2 1 [0, 0]), (li2 1 [0, 1]), (li2 1 [0, 0]), (li2 1 [0, 1]), (li2 1 [0, 0]), (li2 1 [0, 1]), (li2 1 [0, 0]), (li2 1 [0, 1]), (li2 1 [0, 0]), (li2 1 [0, 1]), (li2 1 [0, 0]), (li2 1 [0, 1])])), (.d true (.lst 1 []))]), (.d true (.int .i64 (0)))])
theorem gives2 : givesR env [] 100000 k_unroll_Of as2 r2 = true := by kernel_rfl
theorem known2 : Known env k_unroll_Of as2 r2 := givesR_ok (K := []) ext_w (fun _ h => by cases h) gives2
end Go.Proofs.Ytbmhmfcjjhjkgaa.Vm
