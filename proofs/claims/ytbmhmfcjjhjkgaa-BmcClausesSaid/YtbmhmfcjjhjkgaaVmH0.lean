/- The types of the program's data, and how they are written down. Printed. -/
import Derived.Test.YtbmhmfcjjhjkgaaVmW0
import Derived.Test.YtbmhmfcjjhjkgaaVmW2
import Derived.Test.YtbmhmfcjjhjkgaaVmW4
namespace Go.Proofs.Ytbmhmfcjjhjkgaa.Vm
open Go
structure S_Latch where
  Next : Int
  Reset : Int
def eS_Latch (x : S_Latch) : T := .agg [eI x.Next, eI x.Reset]
structure S_And where
  A : Int
  B : Int
def eS_And (x : S_And) : T := .agg [eI x.A, eI x.B]
structure S_Circuit where
  Inputs : Int
  Latches : (List S_Latch)
  Ands : (List S_And)
  Bads : (List Int)
  Constraints : (List Int)
def eS_Circuit (x : S_Circuit) : T := .agg [eI x.Inputs, (eL 2 eS_Latch) x.Latches, (eL 2 eS_And) x.Ands, (eL 1 eI) x.Bads, (eL 1 eI) x.Constraints]
structure S_Cnf where
  Vars : Int
  Lits : (List (List Int))
  Clauses : (List (List Int))
def eS_Cnf (x : S_Cnf) : T := .agg [eI x.Vars, (eL 1 (eL 1 eI)) x.Lits, (eL 1 (eL 1 eI)) x.Clauses]
structure A4_Int where
  a0 : Int
  a1 : Int
  a2 : Int
  a3 : Int
def eA4_Int (x : A4_Int) : T := .agg [eI x.a0, eI x.a1, eI x.a2, eI x.a3]
def oB0 (c0 : S_Circuit) : Option Ob := some (.box [(.d true (.int .i64 c0.Inputs)), (.d false (.lst 2 (c0.Latches.map eS_Latch))), (.d false (.lst 2 (c0.Ands.map eS_And))), (.d false (.lst 1 (c0.Bads.map eI))), (.d false (.lst 1 (c0.Constraints.map eI)))])
def oB1 (c0 : S_Circuit) : Option Ob := some (.box [(.d true (.int .i64 c0.Inputs)), (.d true (.lst 2 (c0.Latches.map eS_Latch))), (.d true (.lst 2 (c0.Ands.map eS_And))), (.d true (.lst 1 (c0.Bads.map eI))), (.d true (.lst 1 (c0.Constraints.map eI)))])
def oB2 (c0 : Int) (c1 : Int) (c2 : Int) (c3 : Int) : Option Ob := some (.box [(.d true (.int .i64 c0)), (.d true (.int .i64 c1)), (.d true (.int .i64 c2)), (.d true (.int .i64 c3))])
def oB3 (c0 : S_Latch) : Option Ob := some (.box [(.d true (.int .i64 c0.Next)), (.d true (.int .i64 c0.Reset))])
def oB4 (c0 : Nat) (c1 : Nat) : Option Ob := some (.box [(.d true (.int .i64 0)), (.row 0 2 0 c0 1), (.row 0 3 0 c1 1)])
def oB5 (c0 : Int) (c1 : Nat) (c2 : Nat) : Option Ob := some (.box [(.d true (.int .i64 c0)), (.row 0 2 0 c1 1), (.row 0 3 0 c2 1)])
def oB6 (c0 : Int) (c1 : Nat) (c2 : Nat) : Option Ob := some (.box [(.d true (.int .i64 c0)), (.row 0 5 0 c1 1), (.row 0 6 0 c2 1)])
def oB7 : Option Ob := some (.box [(.d true (.int .i64 0)), (.nil 1), (.nil 1)])
def oB8 (c0 : Int) (c1 : Nat) (c2 : Nat) : Option Ob := some (.box [(.d true (.int .i64 c0)), (.row 0 40 0 c1 1), (.row 0 41 0 c2 1)])
def oB9 (c0 : Nat) (c1 : Nat) : Option Ob := some (.box [(.d true (.int .i64 0)), (.row 0 5 0 c0 1), (.row 0 6 0 c1 1)])
def oB10 (c0 : Nat) (c1 : Nat) : Option Ob := some (.box [(.d true (.int .i64 0)), (.row 1 5 0 c0 1), (.row 1 6 0 c1 1)])
def oB11 (c0 : Nat) (c1 : Nat) : Option Ob := some (.box [(.d true (.int .i64 0)), (.row 0 3 0 c0 1), (.row 0 4 0 c1 1)])
def oB12 (c0 : Int) (c1 : Nat) (c2 : Nat) : Option Ob := some (.box [(.d true (.int .i64 c0)), (.row 1 5 0 c1 1), (.row 1 6 0 c2 1)])
def oB13 (c0 : Int) (c1 : Nat) (c2 : Nat) : Option Ob := some (.box [(.d true (.int .i64 c0)), (.row 0 3 0 c1 1), (.row 0 4 0 c2 1)])
theorem at_bmc_put {xs : List V} {up : List Lv} {K : V → St → Prop} : AtFn env k_bmc_put xs up K = WC env c_bmc_put (St.ini xs up) (KRes [.s 6] K) := AtF fn_bmc_put
theorem at_gates_Check_1 {xs : List V} {up : List Lv} {K : V → St → Prop} : AtFn env k_gates_Check_1 xs up K = WC env c_gates_Check_1 (St.ini xs up) (KRes [.s 3] K) := AtF fn_gates_Check_1
theorem at_gates_Check_2 {xs : List V} {up : List Lv} {K : V → St → Prop} : AtFn env k_gates_Check_2 xs up K = WC env c_gates_Check_2 (St.ini xs up) (KRes [.s 3] K) := AtF fn_gates_Check_2
theorem at_ref22_Gate {xs : List V} {up : List Lv} {K : V → St → Prop} : AtFn env k_ref22_Gate xs up K = WC env c_ref22_Gate (St.ini xs up) (KRes [.s 8] K) := AtF fn_ref22_Gate
theorem at_ref23_More {xs : List V} {up : List Lv} {K : V → St → Prop} : AtFn env k_ref23_More xs up K = WC env c_ref23_More (St.ini xs up) (KRes [.c 6 4] K) := AtF fn_ref23_More
theorem at_ref36_With {xs : List V} {up : List Lv} {K : V → St → Prop} : AtFn env k_ref36_With xs up K = WC env c_ref36_With (St.ini xs up) (KRes [.s 6] K) := AtF fn_ref36_With
theorem at_slices_ContainsFunc_of_api_Latch {xs : List V} {up : List Lv} {K : V → St → Prop} : AtFn env k_slices_ContainsFunc_of_api_Latch xs up K = WC env c_slices_ContainsFunc_of_api_Latch (St.ini xs up) (KRes [.s 4] K) := AtF fn_slices_ContainsFunc_of_api_Latch
theorem at_slices_ContainsFunc_of_int {xs : List V} {up : List Lv} {K : V → St → Prop} : AtFn env k_slices_ContainsFunc_of_int xs up K = WC env c_slices_ContainsFunc_of_int (St.ini xs up) (KRes [.s 4] K) := AtF fn_slices_ContainsFunc_of_int
theorem at_slices_IndexFunc_of_api_Latch {xs : List V} {up : List Lv} {K : V → St → Prop} : AtFn env k_slices_IndexFunc_of_api_Latch xs up K = WC env c_slices_IndexFunc_of_api_Latch (St.ini xs up) (KRes [.s 4] K) := AtF fn_slices_IndexFunc_of_api_Latch
theorem at_slices_IndexFunc_of_int {xs : List V} {up : List Lv} {K : V → St → Prop} : AtFn env k_slices_IndexFunc_of_int xs up K = WC env c_slices_IndexFunc_of_int (St.ini xs up) (KRes [.s 4] K) := AtF fn_slices_IndexFunc_of_int
theorem at_unroll_frames_fresh {xs : List V} {up : List Lv} {K : V → St → Prop} : AtFn env k_unroll_frames_fresh xs up K = WC env c_unroll_frames_fresh (St.ini xs up) (KRes [.s 2] K) := AtF fn_unroll_frames_fresh
end Go.Proofs.Ytbmhmfcjjhjkgaa.Vm
