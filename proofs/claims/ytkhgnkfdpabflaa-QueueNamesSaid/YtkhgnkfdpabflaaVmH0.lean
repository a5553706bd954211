/- The types of the program's data, and how they are written down. Printed. -/
import Derived.Test.YtkhgnkfdpabflaaVmEnv
import Derived.Test.YtkhgnkfdpabflaaVmW0
import Derived.Test.YtkhgnkfdpabflaaVmW3t
import Derived.Test.YtkhgnkfdpabflaaVmW5
import Derived.Test.YtkhgnkfdpabflaaVmW4
namespace Go.Proofs.Ytkhgnkfdpabflaa.Vm
open Go
theorem AtF {f : Nat} {F : Fn} {xs : List V} {up : List Lv} {K : V → St → Prop} (hf : fnOf f = some F) : AtFn env f xs up K = WC env F.code (St.ini xs up) (KRes F.res K) := AtFn_eq hf
structure S_Wait where
  Frame : Int
  Number : Int
def eS_Wait (x : S_Wait) : T := .agg [eI x.Frame, eI x.Number]
structure S_Latch where
  Next : Int
  Reset : Int
def eS_Latch (x : S_Latch) : T := .agg [eI x.Next, eI x.Reset]
structure S_Obligation where
  Cube : (List Int)
  Inputs : (List Bool)
  Next : Int
def eS_Obligation (x : S_Obligation) : T := .agg [(eL 1 eI) x.Cube, (eL 1 eB) x.Inputs, eI x.Next]
structure S_And where
  A : Int
  B : Int
def eS_And (x : S_And) : T := .agg [eI x.A, eI x.B]
structure S_Circuit where
  Inputs : Int
  Latches : (List S_Latch)
  Ands : (List S_And)
  Bads : (List Int)
  Constraints : (List Int)
def eS_Circuit (x : S_Circuit) : T := .agg [eI x.Inputs, (eL 2 eS_Latch) x.Latches, (eL 2 eS_And) x.Ands, (eL 1 eI) x.Bads, (eL 1 eI) x.Constraints]
structure A4_Int where
  a0 : Int
  a1 : Int
  a2 : Int
  a3 : Int
def eA4_Int (x : A4_Int) : T := .agg [eI x.a0, eI x.a1, eI x.a2, eI x.a3]
structure S_Trace where
  First : (List Bool)
  Inputs : (List (List Bool))
def eS_Trace (x : S_Trace) : T := .agg [(eL 1 eB) x.First, (eL 1 (eL 1 eB)) x.Inputs]
def oB0 (c0 : S_Wait) : Option Ob := some (.box [(.d true (.int .i64 c0.Frame)), (.d true (.int .i64 c0.Number))])
def oB1 (c0 : S_Circuit) : Option Ob := some (.box [(.d true (.int .i64 c0.Inputs)), (.d false (.lst 2 (c0.Latches.map eS_Latch))), (.d false (.lst 2 (c0.Ands.map eS_And))), (.d false (.lst 1 (c0.Bads.map eI))), (.d false (.lst 1 (c0.Constraints.map eI)))])
def oB2 (c0 : Int) (c1 : Int) (c2 : Int) (c3 : Int) : Option Ob := some (.box [(.d true (.int .i64 c0)), (.d true (.int .i64 c1)), (.d true (.int .i64 c2)), (.d true (.int .i64 c3))])
def oB3 (c0 : S_Latch) : Option Ob := some (.box [(.d true (.int .i64 c0.Next)), (.d true (.int .i64 c0.Reset))])
def oB4 (c0 : Nat) (c1 : Nat) : Option Ob := some (.box [(.row 0 3 0 c0 1), (.row 0 4 0 c1 1)])
def oB5 (c0 : Nat) : Option Ob := some (.box [(.d true (.int .i64 1)), (.row 0 13 0 c0 2), (.nil 2), (.nil 1), (.nil 1)])
def oB6 (c0 : S_Trace) : Option Ob := some (.box [(.d true (.lst 1 (c0.First.map eB))), (.d true (.lst 1 (c0.Inputs.map (eL 1 eB))))])
theorem at_gates_Check_1 {xs : List V} {up : List Lv} {K : V → St → Prop} : AtFn env k_gates_Check_1 xs up K = WC env c_gates_Check_1 (St.ini xs up) (KRes [.s 3] K) := AtF fn_gates_Check_1
theorem at_gates_Check_2 {xs : List V} {up : List Lv} {K : V → St → Prop} : AtFn env k_gates_Check_2 xs up K = WC env c_gates_Check_2 (St.ini xs up) (KRes [.s 3] K) := AtF fn_gates_Check_2
theorem at_queue_chain {xs : List V} {up : List Lv} {K : V → St → Prop} : AtFn env k_queue_chain xs up K = WC env c_queue_chain (St.ini xs up) (KRes [.s 4] K) := AtF fn_queue_chain
theorem at_queue_order {xs : List V} {up : List Lv} {K : V → St → Prop} : AtFn env k_queue_order xs up K = WC env c_queue_order (St.ini xs up) (KRes [.s 4] K) := AtF fn_queue_order
theorem at_slices_ContainsFunc_of_api_Latch {xs : List V} {up : List Lv} {K : V → St → Prop} : AtFn env k_slices_ContainsFunc_of_api_Latch xs up K = WC env c_slices_ContainsFunc_of_api_Latch (St.ini xs up) (KRes [.s 4] K) := AtF fn_slices_ContainsFunc_of_api_Latch
theorem at_slices_ContainsFunc_of_int {xs : List V} {up : List Lv} {K : V → St → Prop} : AtFn env k_slices_ContainsFunc_of_int xs up K = WC env c_slices_ContainsFunc_of_int (St.ini xs up) (KRes [.s 4] K) := AtF fn_slices_ContainsFunc_of_int
theorem at_slices_IndexFunc_of_api_Latch {xs : List V} {up : List Lv} {K : V → St → Prop} : AtFn env k_slices_IndexFunc_of_api_Latch xs up K = WC env c_slices_IndexFunc_of_api_Latch (St.ini xs up) (KRes [.s 4] K) := AtF fn_slices_IndexFunc_of_api_Latch
theorem at_slices_IndexFunc_of_int {xs : List V} {up : List Lv} {K : V → St → Prop} : AtFn env k_slices_IndexFunc_of_int xs up K = WC env c_slices_IndexFunc_of_int (St.ini xs up) (KRes [.s 4] K) := AtF fn_slices_IndexFunc_of_int
theorem at_slices_IsSortedFunc_of_api_Wait {xs : List V} {up : List Lv} {K : V → St → Prop} : AtFn env k_slices_IsSortedFunc_of_api_Wait xs up K = WC env c_slices_IsSortedFunc_of_api_Wait (St.ini xs up) (KRes [.s 4] K) := AtF fn_slices_IsSortedFunc_of_api_Wait
end Go.Proofs.Ytkhgnkfdpabflaa.Vm
