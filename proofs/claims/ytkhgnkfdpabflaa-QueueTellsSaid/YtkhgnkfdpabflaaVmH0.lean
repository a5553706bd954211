/- The types of the program's data, and how they are written down. Printed. -/
import Derived.Test.YtkhgnkfdpabflaaVmEnv
import Derived.Test.YtkhgnkfdpabflaaVmW0
import Derived.Test.YtkhgnkfdpabflaaVmW5
import Derived.Test.YtkhgnkfdpabflaaVmW4
namespace Go.Proofs.Ytkhgnkfdpabflaa.Vm
open Go
theorem AtF {f : Nat} {F : Fn} {xs : List V} {up : List Lv} {K : V → St → Prop} (hf : fnOf f = some F) : AtFn env f xs up K = WC env F.code (St.ini xs up) (KRes F.res K) := AtFn_eq hf
structure S_Wait where
  Frame : Int
  Number : Int
def eS_Wait (x : S_Wait) : T := .agg [eI x.Frame, eI x.Number]
def oB0 (c0 : S_Wait) : Option Ob := some (.box [(.d true (.int .i64 c0.Frame)), (.d true (.int .i64 c0.Number))])
theorem at_queue_order {xs : List V} {up : List Lv} {K : V → St → Prop} : AtFn env k_queue_order xs up K = WC env c_queue_order (St.ini xs up) (KRes [.s 4] K) := AtF fn_queue_order
theorem at_slices_IsSortedFunc_of_api_Wait {xs : List V} {up : List Lv} {K : V → St → Prop} : AtFn env k_slices_IsSortedFunc_of_api_Wait xs up K = WC env c_slices_IsSortedFunc_of_api_Wait (St.ini xs up) (KRes [.s 4] K) := AtF fn_slices_IsSortedFunc_of_api_Wait
end Go.Proofs.Ytkhgnkfdpabflaa.Vm
