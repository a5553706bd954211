/- The functions, as the machine's code. Printed. -/
import Derived.Test.YtkhgnkfdpabflabVmP1
import Derived.KernelRfl
namespace Go.Proofs.Ytkhgnkfdpabflab.Vm
open Go
def k_law38_QueueWitness : Nat := 3
def k_law38_alive : Nat := 4
def k_ref36_Great : Nat := 5
def k_ref02_Check : Nat := 6
def k_ref38_Right : Nat := 7
def k_queue_Trace : Nat := 8
def k_queue_Chain : Nat := 9
def k_ref04_Same : Nat := 10
def k_traces_First : Nat := 11
def k_values_Props : Nat := 12
def k_law38_so : Nat := 13
def k_ref06_All : Nat := 14
def k_traces_Witness : Nat := 15
def k_law38_pushed : Nat := 16
def k_law38_popped : Nat := 17
def k_ref38_Same : Nat := 18
def k_ref13_Same : Nat := 19
def k_ref02_Great : Nat := 20
def k_ref02_Size : Nat := 21
def k_ref02_literals : Nat := 22
def k_ref13_Valid : Nat := 23
def k_slices_Clone_of_bool : Nat := 24
def k_queue_chain : Nat := 25
def k_queue_Right : Nat := 26
def k_slices_Collect_of_int : Nat := 27
def k_gates_Check : Nat := 28
def k_traces_starts : Nat := 29
def k_values_list : Nat := 30
def k_values_Props_1 : Nat := 31
def k_values_Props_2 : Nat := 32
def k_slices_Contains_of_bool : Nat := 33
def k_ref37_In : Nat := 34
def k_ref04_Holds : Nat := 35
def k_ref04_Bad : Nat := 36
def k_ref04_After : Nat := 37
def k_traces_walk : Nat := 38
def k_traces_Witness_1 : Nat := 39
def k_slices_Index_of_bool : Nat := 40
def k_queue_Push : Nat := 41
def k_queue_Pop : Nat := 42
def k_ref13_Lit : Nat := 43
def k_queue_chain_1 : Nat := 44
def k_clause_Check : Nat := 45
def k_slices_AppendSeq_of_int : Nat := 46
def k_gates_starts : Nat := 47
def k_gates_Check_1 : Nat := 48
def k_gates_Check_2 : Nat := 49
def k_slices_ContainsFunc_of_int : Nat := 50
def k_slices_ContainsFunc_of_api_Latch : Nat := 51
def k_values_All : Nat := 52
def k_values_of : Nat := 53
def k_ref04_Frame : Nat := 54
def k_ref04_Value : Nat := 55
def k_traces_Check : Nat := 56
def k_values_Next : Nat := 57
def k_queue_Check : Nat := 58
def k_queue_may : Nat := 59
def k_queue_order : Nat := 60
def k_slices_Insert_of_api_Wait : Nat := 61
def k_slices_Clone_of_api_Wait : Nat := 62
def k_clause_known : Nat := 63
def k_slices_IndexFunc_of_int : Nat := 64
def k_slices_IndexFunc_of_api_Latch : Nat := 65
def k_gates_Vars : Nat := 66
def k_traces_Check_1 : Nat := 67
def k_slices_ContainsFunc_of_Lbool : Nat := 68
def k_values_Next_1 : Nat := 69
def k_slices_IsSortedFunc_of_api_Wait : Nat := 70
def k_cmp_Or_of_int : Nat := 71
def k_cmp_Compare_of_int : Nat := 72
def k_slices_IndexFunc_of_Lbool : Nat := 75
def k_cmp_isNaN_of_int : Nat := 76
def c_law38_QueueWitness_p1 : C :=
(.rg 2 false [] [{i := .load 24 (.t 5) 6}, {i := .call 25 k_ref36_Great [(.t 24)] none}, {i := .mv 26 (.t 25)}, ⟨(.load 27 (.t 5) 6), (some (26, false))⟩, ⟨(.call 28 k_ref02_Check [(.t 27)] none), (some (26, false))⟩, ⟨(.bin 29 .neq (.t 28) (.c (.d true (.int .i64 0)))), (some (26, false))⟩, {i := .pick 30 (.t 26) (.c (.d true (.bool true))) (.t 29)}, {i := .mv 31 (.t 30)}, ⟨(.mv 32 (.t 1)), (some (31, false))⟩, ⟨(.len 33 (.t 32)), (some (31, false))⟩, ⟨(.bin 34 .gtr (.t 33) (.c (.d true (.int .i64 60)))), (some (31, false))⟩, {i := .pick 35 (.t 31) (.c (.d true (.bool true))) (.t 34)}, {i := .mv 36 (.t 35)}, ⟨(.load 37 (.t 5) 6), (some (36, false))⟩, ⟨(.mv 38 (.t 1)), (some (36, false))⟩, ⟨(.call 39 k_ref38_Right [(.t 37), (.t 38)] none), (some (36, false))⟩, ⟨(.bin 40 .neq (.t 39) (.c (.d true (.int .i64 0)))), (some (36, false))⟩, {i := .pick 41 (.t 36) (.c (.d true (.bool true))) (.t 40)}, {i := .mv 42 (.t 41)}, ⟨(.mv 43 (.t 2)), (some (42, false))⟩, ⟨(.bin 44 .lss (.t 43) (.c (.d true (.int .i64 0)))), (some (42, false))⟩, {i := .pick 45 (.t 42) (.c (.d true (.bool true))) (.t 44)}, {i := .mv 46 (.t 45)}, ⟨(.mv 47 (.t 2)), (some (46, false))⟩, ⟨(.mv 48 (.t 1)), (some (46, false))⟩, ⟨(.len 49 (.t 48)), (some (46, false))⟩, ⟨(.bin 50 .geq (.t 47) (.t 49)), (some (46, false))⟩, {i := .pick 51 (.t 46) (.c (.d true (.bool true))) (.t 50)}, {i := .mv 52 (.t 51)}, ⟨(.mv 53 (.t 3)), (some (52, false))⟩, ⟨(.len 54 (.t 53)), (some (52, false))⟩, ⟨(.fad 55 (.t 5) 1 0), (some (52, false))⟩, ⟨(.load 56 (.t 55) 0), (some (52, false))⟩, ⟨(.len 57 (.t 56)), (some (52, false))⟩, ⟨(.bin 58 .neq (.t 54) (.t 57)), (some (52, false))⟩, {i := .pick 59 (.t 52) (.c (.d true (.bool true))) (.t 58)}, {i := .mv 60 (.t 59)}, ⟨(.mv 61 (.t 4)), (some (60, false))⟩, ⟨(.len 62 (.t 61)), (some (60, false))⟩, ⟨(.fad 63 (.t 5) 0 0), (some (60, false))⟩, ⟨(.load 64 (.t 63) 0), (some (60, false))⟩, ⟨(.bin 65 .neq (.t 62) (.t 64)), (some (60, false))⟩, {i := .pick 66 (.t 60) (.c (.d true (.bool true))) (.t 65)}, {i := .mv 67 (.t 66)}, ⟨(.mv 68 (.t 11)), (some (67, false))⟩, ⟨(.un 69 .not (.t 68)), (some (67, false))⟩, {i := .pick 70 (.t 67) (.c (.d true (.bool true))) (.t 69)}] [])
def c_law38_QueueWitness_p2 : C :=
(.rg 6 false [] [{i := .mv 88 (.t 13)}, {i := .bin 89 .neq (.t 88) (.c (.d true (.int .i64 0)))}, {i := .mv 90 (.t 89)}, ⟨(.mv 91 (.t 15)), (some (90, false))⟩, ⟨(.bin 92 .neq (.t 91) (.c (.d true (.int .i64 0)))), (some (90, false))⟩, {i := .pick 93 (.t 90) (.c (.d true (.bool true))) (.t 92)}, {i := .mv 94 (.t 93)}, ⟨(.fad 95 (.t 12) 1 0), (some (94, false))⟩, ⟨(.load 96 (.t 95) 0), (some (94, false))⟩, ⟨(.len 97 (.t 96)), (some (94, false))⟩, ⟨(.mv 98 (.t 14)), (some (94, false))⟩, ⟨(.len 99 (.t 98)), (some (94, false))⟩, ⟨(.bin 100 .add (.t 99) (.c (.d true (.int .i64 1)))), (some (94, false))⟩, ⟨(.bin 101 .neq (.t 97) (.t 100)), (some (94, false))⟩, {i := .pick 102 (.t 94) (.c (.d true (.bool true))) (.t 101)}, {i := .mv 103 (.t 102)}, ⟨(.fad 104 (.t 12) 0 0), (some (103, false))⟩, ⟨(.load 105 (.t 104) 0), (some (103, false))⟩, ⟨(.mv 106 (.t 3)), (some (103, false))⟩, ⟨(.call 107 k_ref04_Same [(.t 105), (.t 106)] none), (some (103, false))⟩, ⟨(.un 108 .not (.t 107)), (some (103, false))⟩, {i := .pick 109 (.t 103) (.c (.d true (.bool true))) (.t 108)}] [])
def c_law38_QueueWitness_p3 : C :=
(.rg 10 false [] [{i := .mv 124 (.t 17)}, {i := .bin 125 .neq (.t 124) (.c (.d true (.int .i64 0)))}, {i := .mv 126 (.t 125)}, ⟨(.mv 127 (.t 20)), (some (126, false))⟩, ⟨(.bin 128 .neq (.t 127) (.c (.d true (.int .i64 0)))), (some (126, false))⟩, {i := .pick 129 (.t 126) (.c (.d true (.bool true))) (.t 128)}] [])
def c_law38_QueueWitness_p4 : C :=
(.rg 12 true [] [{i := .mv 130 (.t 16)}, {i := .un 131 .not (.t 130)}, {i := .mv 132 (.t 131)}, ⟨(.mv 133 (.t 18)), (some (132, false))⟩, ⟨(.un 134 .not (.t 133)), (some (132, false))⟩, {i := .pick 135 (.t 132) (.c (.d true (.bool true))) (.t 134)}, {i := .mv 136 (.t 135)}, ⟨(.load 137 (.t 5) 6), (some (136, false))⟩, ⟨(.mv 138 (.t 1)), (some (136, false))⟩, ⟨(.mv 139 (.t 14)), (some (136, false))⟩, ⟨(.load 140 (.t 5) 6), (some (136, false))⟩, ⟨(.load 141 (.t 12) 3), (some (136, false))⟩, ⟨(.call 142 k_ref06_All [(.t 140), (.t 141)] none), (some (136, false))⟩, ⟨(.call 143 k_law38_so [(.t 137), (.t 138), (.t 139), (.t 142)] none), (some (136, false))⟩, ⟨(.un 144 .not (.t 143)), (some (136, false))⟩, {i := .pick 145 (.t 136) (.c (.d true (.bool true))) (.t 144)}] [])
def c_law38_QueueWitness_p5 : C :=
(.rg 15 false [] [{i := .mv 153 (.t 11)}, {i := .mv 154 (.t 153)}, ⟨(.mv 155 (.t 22)), (some (154, true))⟩, ⟨(.bin 156 .eql (.t 155) (.c (.d true (.int .i64 0)))), (some (154, true))⟩, {i := .pick 157 (.t 154) (.t 156) (.c (.d true (.bool false)))}, {i := .mv 10 (.t 157)}] [])
def c_law38_QueueWitness : C :=
(.seq (.rg 0 false [] [{i := .box 5 0 (.t 0) 6}, {i := .mv 10 (.c (.d true (.bool false)))}] [])
 (.seq (.rg 1 false [] [{i := .call 23 k_law38_alive [] none}, {i := .mv 11 (.t 23)}] [])
 (.seq (.seq c_law38_QueueWitness_p1
 (.cond (.t 70) (.seq (.rg 3 false [] [{i := .mv 71 (.t 11)}, {i := .mv 10 (.t 71)}] [])
 .ret) .skip))
 (.seq (.rg 4 false [] [{i := .load 73 (.t 5) 6}, {i := .mv 74 (.t 1)}, {i := .mv 75 (.t 2)}, {i := .mv 76 (.t 3)}, {i := .mv 77 (.t 4)}, {i := .call 78 k_queue_Trace [(.t 73), (.t 74), (.t 75), (.t 76), (.t 77)] none}, {i := .mv 72 (.t 78)}, {i := .xt 79 (.t 72) 0}, {i := .xt 80 (.t 72) 1}, {i := .alloc 12 1 [(.n 1), (.n 1)]}, {i := .store (.t 12) (.t 79) 3}, {i := .mv 13 (.t 80)}] [])
 (.seq (.rg 5 false [] [{i := .load 82 (.t 5) 6}, {i := .mv 83 (.t 1)}, {i := .mv 84 (.t 2)}, {i := .call 85 k_queue_Chain [(.t 82), (.t 83), (.t 84)] none}, {i := .mv 81 (.t 85)}, {i := .xt 86 (.t 81) 0}, {i := .xt 87 (.t 81) 1}, {i := .mv 14 (.t 86)}, {i := .mv 15 (.t 87)}] [])
 (.seq (.seq c_law38_QueueWitness_p2
 (.cond (.t 109) (.seq (.rg 7 false [] [{i := .mv 10 (.c (.d true (.bool false)))}] [])
 .ret) .skip))
 (.seq (.rg 8 false [] [{i := .load 111 (.t 5) 6}, {i := .mv 112 (.t 3)}, {i := .call 113 k_traces_First [(.t 111), (.t 112)] none}, {i := .mv 110 (.t 113)}, {i := .xt 114 (.t 110) 0}, {i := .xt 115 (.t 110) 1}, {i := .mv 16 (.t 114)}, {i := .mv 17 (.t 115)}] [])
 (.seq (.rg 9 false [] [{i := .load 117 (.t 5) 6}, {i := .mv 118 (.t 3)}, {i := .mv 119 (.t 4)}, {i := .call 120 k_values_Props [(.t 117), (.t 118), (.t 119)] none}, {i := .mv 116 (.t 120)}, {i := .xt 121 (.t 116) 0}, {i := .xt 122 (.t 116) 1}, {i := .xt 123 (.t 116) 2}, {i := .mv 18 (.t 121)}, {i := .mv 19 (.t 122)}, {i := .mv 20 (.t 123)}] [])
 (.seq (.seq c_law38_QueueWitness_p3
 (.cond (.t 129) (.seq (.rg 11 false [] [{i := .mv 10 (.c (.d true (.bool false)))}] [])
 .ret) .skip))
 (.seq (.seq c_law38_QueueWitness_p4
 (.cond (.t 145) (.seq (.rg 13 false [] [{i := .mv 146 (.t 11)}, {i := .mv 10 (.t 146)}] [])
 .ret) .skip))
 (.seq (.rg 14 false [] [{i := .load 148 (.t 5) 6}, {i := .load 149 (.t 12) 3}, {i := .call 150 k_traces_Witness [(.t 148), (.t 149)] none}, {i := .mv 147 (.t 150)}, {i := .xt 151 (.t 147) 0}, {i := .xt 152 (.t 147) 1}, {i := .mv 21 (.t 151)}, {i := .mv 22 (.t 152)}] [])
 (.seq c_law38_QueueWitness_p5
 .ret))))))))))))
def n_law38_QueueWitness : Fn := ⟨c_law38_QueueWitness, [.s 10], (some [false, false, false, false, false])⟩
def c_law38_alive_p1 : C :=
(.rg 4 false [] [{i := .mv 29 (.t 2)}, {i := .bin 30 .eql (.t 29) (.c (.d true (.int .i64 0)))}, {i := .mv 31 (.t 30)}, ⟨(.mv 32 (.t 4)), (some (31, true))⟩, {i := .pick 33 (.t 31) (.t 32) (.c (.d true (.bool false)))}, {i := .mv 34 (.t 33)}, ⟨(.mv 35 (.t 3)), (some (34, true))⟩, ⟨(.bld 36 [(.k (.int .i64 0)), (.k (.int .i64 0))] [(0, 0, (.c (.d true (.int .i64 1))))]), (some (34, true))⟩, ⟨(.bld 37 [(.k (.int .i64 0)), (.k (.int .i64 0))] [(0, 0, (.c (.d true (.int .i64 1)))), (1, 0, (.c (.d true (.int .i64 3))))]), (some (34, true))⟩, ⟨(.bld 38 [(.k (.int .i64 0)), (.k (.int .i64 0))] [(0, 0, (.c (.d true (.int .i64 2)))), (1, 0, (.c (.d true (.int .i64 1))))]), (some (34, true))⟩, ⟨(.bsl 39 2 2 3 (.k (.agg [(.int .i64 0), (.int .i64 0)])) [(0, (.t 36)), (1, (.t 37)), (2, (.t 38))]), (some (34, true))⟩, ⟨(.call 40 k_ref38_Same [(.t 35), (.t 39)] none), (some (34, true))⟩, {i := .pick 41 (.t 34) (.t 40) (.c (.d true (.bool false)))}, {i := .mv 42 (.t 41)}, ⟨(.mv 43 (.t 6)), (some (42, true))⟩, ⟨(.bin 44 .eql (.t 43) (.c (.d true (.int .i64 0)))), (some (42, true))⟩, {i := .pick 45 (.t 42) (.t 44) (.c (.d true (.bool false)))}, {i := .mv 46 (.t 45)}, ⟨(.mv 47 (.t 5)), (some (46, true))⟩, ⟨(.bsl 48 3 1 3 (.k (.int .i64 0)) [(0, (.c (.d true (.int .i64 2)))), (1, (.c (.d true (.int .i64 1)))), (2, (.c (.d true (.int .i64 0))))]), (some (46, true))⟩, ⟨(.call 49 k_ref13_Same [(.t 47), (.t 48)] none), (some (46, true))⟩, {i := .pick 50 (.t 46) (.t 49) (.c (.d true (.bool false)))}, {i := .mv 0 (.t 50)}] [])
def c_law38_alive : C :=
(.seq (.rg 0 false [] [{i := .mv 0 (.c (.d true (.bool false)))}] [])
 (.seq (.rg 1 false [] [{i := .bld 8 [(.k (.int .i64 0)), (.k (.int .i64 0))] [(0, 0, (.c (.d true (.int .i64 2)))), (1, 0, (.c (.d true (.int .i64 1))))]}, {i := .bld 9 [(.k (.int .i64 0)), (.k (.int .i64 0))] [(0, 0, (.c (.d true (.int .i64 1))))]}, {i := .bld 10 [(.k (.int .i64 0)), (.k (.int .i64 0))] [(0, 0, (.c (.d true (.int .i64 1)))), (1, 0, (.c (.d true (.int .i64 3))))]}, {i := .bsl 11 0 2 3 (.k (.agg [(.int .i64 0), (.int .i64 0)])) [(0, (.t 8)), (1, (.t 9)), (2, (.t 10))]}, {i := .call 12 k_law38_pushed [(.t 11)] none}, {i := .mv 7 (.t 12)}, {i := .xt 13 (.t 7) 0}, {i := .xt 14 (.t 7) 1}, {i := .mv 1 (.t 13)}, {i := .mv 2 (.t 14)}] [])
 (.seq (.rg 2 false [] [{i := .mv 16 (.t 1)}, {i := .call 17 k_law38_popped [(.t 16)] none}, {i := .mv 15 (.t 17)}, {i := .xt 18 (.t 15) 0}, {i := .xt 19 (.t 15) 1}, {i := .mv 3 (.t 18)}, {i := .mv 4 (.t 19)}] [])
 (.seq (.rg 3 false [] [{i := .bld 21 [(.k (.int .i64 0)), (.n 2), (.n 2), (.n 1), (.n 1)] []}, {i := .bld 22 [(.n 1), (.n 1), (.k (.int .i64 0))] [(2, 0, (.c (.d true (.int .i64 (-1)))))]}, {i := .bld 23 [(.n 1), (.n 1), (.k (.int .i64 0))] []}, {i := .bld 24 [(.n 1), (.n 1), (.k (.int .i64 0))] [(2, 0, (.c (.d true (.int .i64 1))))]}, {i := .bsl 25 1 3 3 (.k (.agg [(.lst 1 []), (.lst 1 []), (.int .i64 0)])) [(0, (.t 22)), (1, (.t 23)), (2, (.t 24))]}, {i := .call 26 k_queue_Chain [(.t 21), (.t 25), (.c (.d true (.int .i64 2)))] none}, {i := .mv 20 (.t 26)}, {i := .xt 27 (.t 20) 0}, {i := .xt 28 (.t 20) 1}, {i := .mv 5 (.t 27)}, {i := .mv 6 (.t 28)}] [])
 (.seq c_law38_alive_p1
 .ret)))))
def n_law38_alive : Fn := ⟨c_law38_alive, [.s 0], (some [])⟩
def c_ref36_Great_p1 : C :=
(.rg 3 false [] [{i := .load 5 (.t 1) 6}, {i := .call 6 k_ref02_Check [(.t 5)] none}, {i := .bin 7 .eql (.t 6) (.c (.d true (.int .i64 0)))}, {i := .mv 8 (.t 7)}, ⟨(.load 9 (.t 1) 6), (some (8, true))⟩, ⟨(.call 10 k_ref02_Size [(.t 9)] none), (some (8, true))⟩, ⟨(.bin 11 .gtr (.t 10) (.c (.d true (.int .i64 40)))), (some (8, true))⟩, ⟨(.mv 12 (.t 11)), (some (8, true))⟩, ⟨(.fad 13 (.t 1) 3 0), (some (12, false))⟩, ⟨(.load 14 (.t 13) 0), (some (12, false))⟩, ⟨(.len 15 (.t 14)), (some (12, false))⟩, ⟨(.bin 16 .gtr (.t 15) (.c (.d true (.int .i64 10)))), (some (12, false))⟩, ⟨(.pick 17 (.t 12) (.c (.d true (.bool true))) (.t 16)), (some (8, true))⟩, ⟨(.mv 18 (.t 17)), (some (8, true))⟩, ⟨(.fad 19 (.t 1) 4 0), (some (18, false))⟩, ⟨(.load 20 (.t 19) 0), (some (18, false))⟩, ⟨(.len 21 (.t 20)), (some (18, false))⟩, ⟨(.bin 22 .gtr (.t 21) (.c (.d true (.int .i64 10)))), (some (18, false))⟩, ⟨(.pick 23 (.t 18) (.c (.d true (.bool true))) (.t 22)), (some (8, true))⟩, {i := .pick 24 (.t 8) (.t 23) (.c (.d true (.bool false)))}, {i := .mv 2 (.t 24)}] [])
def c_ref36_Great : C :=
(.seq (.rg 0 false [] [{i := .box 1 0 (.t 0) 6}, {i := .mv 2 (.c (.d true (.bool false)))}] [])
 (.seq (.seq (.rg 1 false [] [{i := .load 3 (.t 1) 6}, {i := .call 4 k_ref02_Great [(.t 3)] none}] [])
 (.cond (.t 4) (.seq (.rg 2 false [] [{i := .mv 2 (.c (.d true (.bool true)))}] [])
 .ret) .skip))
 (.seq c_ref36_Great_p1
 .ret)))
def n_ref36_Great : Fn := ⟨c_ref36_Great, [.s 2], (some [false])⟩
def c_ref02_Check_p1 : C :=
(.rg 3 false [] [{i := .fad 10 (.t 1) 0 0}, {i := .load 11 (.t 10) 0}, {i := .bin 12 .gtr (.t 11) (.c (.d true (.int .i64 1000)))}, {i := .mv 13 (.t 12)}, ⟨(.load 14 (.t 1) 6), (some (13, false))⟩, ⟨(.call 15 k_ref02_Size [(.t 14)] none), (some (13, false))⟩, ⟨(.bin 16 .gtr (.t 15) (.c (.d true (.int .i64 1000)))), (some (13, false))⟩, {i := .pick 17 (.t 13) (.c (.d true (.bool true))) (.t 16)}, {i := .mv 18 (.t 17)}, ⟨(.fad 19 (.t 1) 3 0), (some (18, false))⟩, ⟨(.load 20 (.t 19) 0), (some (18, false))⟩, ⟨(.len 21 (.t 20)), (some (18, false))⟩, ⟨(.bin 22 .gtr (.t 21) (.c (.d true (.int .i64 100)))), (some (18, false))⟩, {i := .pick 23 (.t 18) (.c (.d true (.bool true))) (.t 22)}, {i := .mv 24 (.t 23)}, ⟨(.fad 25 (.t 1) 4 0), (some (24, false))⟩, ⟨(.load 26 (.t 25) 0), (some (24, false))⟩, ⟨(.len 27 (.t 26)), (some (24, false))⟩, ⟨(.bin 28 .gtr (.t 27) (.c (.d true (.int .i64 100)))), (some (24, false))⟩, {i := .pick 29 (.t 24) (.c (.d true (.bool true))) (.t 28)}] [])
def c_ref02_Check_p2 : C :=
(.rg 6 false [] [{i := .fad 32 (.t 1) 3 0}, {i := .load 33 (.t 32) 0}, {i := .mv 34 (.t 3)}, {i := .call 35 k_ref02_literals [(.t 33), (.t 34)] none}, {i := .un 36 .not (.t 35)}, {i := .mv 37 (.t 36)}, ⟨(.fad 38 (.t 1) 4 0), (some (37, false))⟩, ⟨(.load 39 (.t 38) 0), (some (37, false))⟩, ⟨(.mv 40 (.t 3)), (some (37, false))⟩, ⟨(.call 41 k_ref02_literals [(.t 39), (.t 40)] none), (some (37, false))⟩, ⟨(.un 42 .not (.t 41)), (some (37, false))⟩, {i := .pick 43 (.t 37) (.c (.d true (.bool true))) (.t 42)}] [])
def c_ref02_Check_p3 : C :=
(.rg 11 false [(.kill 1 2)] [{i := .fad 51 (.t 1) 1 0}, {i := .load 52 (.t 51) 0}, {i := .mv 53 (.t 4)}, {i := .ix 54 (.t 52) (.t 53) 2}, {i := .fad 55 (.t 54) 0 0}, {i := .load 56 (.t 55) 0}, {i := .bsl 57 1 1 1 (.k (.int .i64 0)) [(0, (.t 56))]}, {i := .mv 58 (.t 3)}, {i := .call 59 k_ref02_literals [(.t 57), (.t 58)] none}, {i := .un 60 .not (.t 59)}, {i := .mv 61 (.t 60)}, ⟨(.fad 62 (.t 1) 1 0), (some (61, false))⟩, ⟨(.load 63 (.t 62) 0), (some (61, false))⟩, ⟨(.mv 64 (.t 4)), (some (61, false))⟩, ⟨(.ix 65 (.t 63) (.t 64) 2), (some (61, false))⟩, ⟨(.fad 66 (.t 65) 1 0), (some (61, false))⟩, ⟨(.load 67 (.t 66) 0), (some (61, false))⟩, ⟨(.bin 68 .lss (.t 67) (.c (.d true (.int .i64 0)))), (some (61, false))⟩, {i := .pick 69 (.t 61) (.c (.d true (.bool true))) (.t 68)}, {i := .mv 70 (.t 69)}, ⟨(.fad 71 (.t 1) 1 0), (some (70, false))⟩, ⟨(.load 72 (.t 71) 0), (some (70, false))⟩, ⟨(.mv 73 (.t 4)), (some (70, false))⟩, ⟨(.ix 74 (.t 72) (.t 73) 2), (some (70, false))⟩, ⟨(.fad 75 (.t 74) 1 0), (some (70, false))⟩, ⟨(.load 76 (.t 75) 0), (some (70, false))⟩, ⟨(.bin 77 .gtr (.t 76) (.c (.d true (.int .i64 2)))), (some (70, false))⟩, {i := .pick 78 (.t 70) (.c (.d true (.bool true))) (.t 77)}] [])
def c_ref02_Check_l1 : C :=
(.seq (.seq (.rg 9 false [] [{i := .mv 44 (.t 4)}, {i := .fad 45 (.t 1) 1 0}, {i := .load 46 (.t 45) 0}, {i := .len 47 (.t 46)}, {i := .bin 48 .lss (.t 44) (.t 47)}] [])
 (.cond (.t 48) .skip (.exit 0)))
 (.seq (.block 1 (.seq c_ref02_Check_p3
 (.cond (.t 78) (.seq (.rg 12 false [] [{i := .mv 2 (.c (.d true (.int .i64 8)))}] [])
 .ret) .skip)))
 (.rg 10 false [] [{i := .mv 49 (.t 4)}, {i := .bin 50 .add (.t 49) (.c (.d true (.int .i64 1)))}, {i := .mv 4 (.t 50)}] [])))
def c_ref02_Check_p4 : C :=
(.rg 17 false [] [{i := .fad 91 (.t 6) 1 0}, {i := .load 92 (.t 91) 0}, {i := .bin 93 .lss (.t 92) (.c (.d true (.int .i64 0)))}, {i := .mv 94 (.t 93)}, ⟨(.fad 95 (.t 6) 0 0), (some (94, false))⟩, ⟨(.load 96 (.t 95) 0), (some (94, false))⟩, ⟨(.fad 97 (.t 6) 1 0), (some (94, false))⟩, ⟨(.load 98 (.t 97) 0), (some (94, false))⟩, ⟨(.bin 99 .lss (.t 96) (.t 98)), (some (94, false))⟩, {i := .pick 100 (.t 94) (.c (.d true (.bool true))) (.t 99)}, {i := .mv 101 (.t 100)}, ⟨(.fad 102 (.t 6) 0 0), (some (101, false))⟩, ⟨(.load 103 (.t 102) 0), (some (101, false))⟩, ⟨(.bin 104 .quo (.t 103) (.c (.d true (.int .i64 2)))), (some (101, false))⟩, ⟨(.fad 105 (.t 1) 0 0), (some (101, false))⟩, ⟨(.load 106 (.t 105) 0), (some (101, false))⟩, ⟨(.fad 107 (.t 1) 1 0), (some (101, false))⟩, ⟨(.load 108 (.t 107) 0), (some (101, false))⟩, ⟨(.len 109 (.t 108)), (some (101, false))⟩, ⟨(.bin 110 .add (.t 106) (.t 109)), (some (101, false))⟩, ⟨(.mv 111 (.t 5)), (some (101, false))⟩, ⟨(.bin 112 .add (.t 110) (.t 111)), (some (101, false))⟩, ⟨(.bin 113 .gtr (.t 104) (.t 112)), (some (101, false))⟩, {i := .pick 114 (.t 101) (.c (.d true (.bool true))) (.t 113)}] [])
def c_ref02_Check_l2 : C :=
(.seq (.seq (.rg 14 false [] [{i := .mv 79 (.t 5)}, {i := .fad 80 (.t 1) 2 0}, {i := .load 81 (.t 80) 0}, {i := .len 82 (.t 81)}, {i := .bin 83 .lss (.t 79) (.t 82)}] [])
 (.cond (.t 83) .skip (.exit 2)))
 (.seq (.block 3 (.seq (.rg 16 false [(.kill 2 3)] [{i := .fad 86 (.t 1) 2 0}, {i := .load 87 (.t 86) 0}, {i := .mv 88 (.t 5)}, {i := .ix 89 (.t 87) (.t 88) 2}, {i := .load 90 (.t 89) 3}, {i := .alloc 6 2 [(.k (.int .i64 0)), (.k (.int .i64 0))]}, {i := .store (.t 6) (.t 90) 3}] [])
 (.seq c_ref02_Check_p4
 (.cond (.t 114) (.seq (.rg 18 false [] [{i := .mv 2 (.c (.d true (.int .i64 8)))}] [])
 .ret) .skip))))
 (.rg 15 false [] [{i := .mv 84 (.t 5)}, {i := .bin 85 .add (.t 84) (.c (.d true (.int .i64 1)))}, {i := .mv 5 (.t 85)}] [])))
def c_ref02_Check : C :=
(.seq (.rg 0 false [] [{i := .box 1 0 (.t 0) 6}, {i := .mv 2 (.c (.d true (.int .i64 0)))}] [])
 (.seq (.seq (.rg 1 false [] [{i := .fad 7 (.t 1) 0 0}, {i := .load 8 (.t 7) 0}, {i := .bin 9 .lss (.t 8) (.c (.d true (.int .i64 0)))}] [])
 (.cond (.t 9) (.seq (.rg 2 false [] [{i := .mv 2 (.c (.d true (.int .i64 8)))}] [])
 .ret) .skip))
 (.seq (.seq c_ref02_Check_p1
 (.cond (.t 29) (.seq (.rg 4 false [] [{i := .mv 2 (.c (.d true (.int .i64 4)))}] [])
 .ret) .skip))
 (.seq (.rg 5 false [] [{i := .load 30 (.t 1) 6}, {i := .call 31 k_ref02_Size [(.t 30)] none}, {i := .mv 3 (.t 31)}] [])
 (.seq (.seq c_ref02_Check_p2
 (.cond (.t 43) (.seq (.rg 7 false [] [{i := .mv 2 (.c (.d true (.int .i64 8)))}] [])
 .ret) .skip))
 (.seq (.seq (.rg 8 false [] [{i := .mv 4 (.c (.d true (.int .i64 0)))}] [])
 (.block 0 (.loop c_ref02_Check_l1)))
 (.seq (.seq (.rg 13 false [] [{i := .mv 5 (.c (.d true (.int .i64 0)))}] [])
 (.block 2 (.loop c_ref02_Check_l2)))
 (.seq (.rg 19 false [] [{i := .mv 2 (.c (.d true (.int .i64 0)))}] [])
 .ret))))))))
def n_ref02_Check : Fn := ⟨c_ref02_Check, [.s 2], (some [false])⟩
def c_ref38_Right_p1 : C :=
(.rg 9 true [] [{i := .fad 21 (.t 2) 1 0}, {i := .load 22 (.t 21) 0}, {i := .len 23 (.t 22)}, {i := .mv 24 (.t 1)}, {i := .mv 25 (.t 6)}, {i := .ix 26 (.t 24) (.t 25) 3}, {i := .fad 27 (.t 26) 0 0}, {i := .load 28 (.t 27) 0}, {i := .call 29 k_ref13_Valid [(.t 23), (.t 28)] none}, {i := .un 30 .not (.t 29)}, {i := .mv 31 (.t 30)}, ⟨(.mv 32 (.t 1)), (some (31, false))⟩, ⟨(.mv 33 (.t 6)), (some (31, false))⟩, ⟨(.ix 34 (.t 32) (.t 33) 3), (some (31, false))⟩, ⟨(.fad 35 (.t 34) 1 0), (some (31, false))⟩, ⟨(.load 36 (.t 35) 0), (some (31, false))⟩, ⟨(.len 37 (.t 36)), (some (31, false))⟩, ⟨(.fad 38 (.t 2) 0 0), (some (31, false))⟩, ⟨(.load 39 (.t 38) 0), (some (31, false))⟩, ⟨(.bin 40 .neq (.t 37) (.t 39)), (some (31, false))⟩, {i := .pick 41 (.t 31) (.c (.d true (.bool true))) (.t 40)}, {i := .mv 42 (.t 41)}, ⟨(.mv 43 (.t 1)), (some (42, false))⟩, ⟨(.mv 44 (.t 6)), (some (42, false))⟩, ⟨(.ix 45 (.t 43) (.t 44) 3), (some (42, false))⟩, ⟨(.fad 46 (.t 45) 2 0), (some (42, false))⟩, ⟨(.load 47 (.t 46) 0), (some (42, false))⟩, ⟨(.bin 48 .lss (.t 47) (.c (.d true (.int .i64 (-1))))), (some (42, false))⟩, {i := .pick 49 (.t 42) (.c (.d true (.bool true))) (.t 48)}, {i := .mv 50 (.t 49)}, ⟨(.mv 51 (.t 1)), (some (50, false))⟩, ⟨(.mv 52 (.t 6)), (some (50, false))⟩, ⟨(.ix 53 (.t 51) (.t 52) 3), (some (50, false))⟩, ⟨(.fad 54 (.t 53) 2 0), (some (50, false))⟩, ⟨(.load 55 (.t 54) 0), (some (50, false))⟩, ⟨(.mv 56 (.t 6)), (some (50, false))⟩, ⟨(.bin 57 .geq (.t 55) (.t 56)), (some (50, false))⟩, {i := .pick 58 (.t 50) (.c (.d true (.bool true))) (.t 57)}] [])
def c_ref38_Right_l1 : C :=
(.seq (.seq (.rg 7 false [] [{i := .mv 15 (.t 6)}, {i := .mv 16 (.t 1)}, {i := .len 17 (.t 16)}, {i := .bin 18 .lss (.t 15) (.t 17)}] [])
 (.cond (.t 18) .skip (.exit 0)))
 (.seq (.block 1 (.seq c_ref38_Right_p1
 (.cond (.t 58) (.seq (.rg 10 false [] [{i := .mv 4 (.c (.d true (.int .i64 8)))}] [])
 .ret) .skip)))
 (.rg 8 false [] [{i := .mv 19 (.t 6)}, {i := .bin 20 .add (.t 19) (.c (.d true (.int .i64 1)))}, {i := .mv 6 (.t 20)}] [])))
def c_ref38_Right : C :=
(.seq (.rg 0 false [] [{i := .box 2 0 (.t 0) 6}, {i := .mv 4 (.c (.d true (.int .i64 0)))}] [])
 (.seq (.seq (.rg 1 false [] [{i := .load 7 (.t 2) 6}, {i := .call 8 k_ref02_Check [(.t 7)] none}, {i := .mv 5 (.t 8)}] [])
 (.seq (.rg 2 false [] [{i := .mv 9 (.t 5)}, {i := .bin 10 .neq (.t 9) (.c (.d true (.int .i64 0)))}] [])
 (.cond (.t 10) (.seq (.rg 3 false [] [{i := .mv 11 (.t 5)}, {i := .mv 4 (.t 11)}] [])
 .ret) .skip)))
 (.seq (.seq (.rg 4 false [] [{i := .mv 12 (.t 1)}, {i := .len 13 (.t 12)}, {i := .bin 14 .gtr (.t 13) (.c (.d true (.int .i64 1000)))}] [])
 (.cond (.t 14) (.seq (.rg 5 false [] [{i := .mv 4 (.c (.d true (.int .i64 4)))}] [])
 .ret) .skip))
 (.seq (.seq (.rg 6 false [] [{i := .mv 6 (.c (.d true (.int .i64 0)))}] [])
 (.block 0 (.loop c_ref38_Right_l1)))
 (.seq (.rg 11 false [] [{i := .mv 4 (.c (.d true (.int .i64 0)))}] [])
 .ret)))))
def n_ref38_Right : Fn := ⟨c_ref38_Right, [.s 4], (some [false, false])⟩
def c_queue_Trace_p1 : C :=
(.rg 4 false [] [{i := .mv 27 (.t 3)}, {i := .len 28 (.t 27)}, {i := .fad 29 (.t 5) 1 0}, {i := .load 30 (.t 29) 0}, {i := .len 31 (.t 30)}, {i := .bin 32 .neq (.t 28) (.t 31)}, {i := .mv 33 (.t 32)}, ⟨(.mv 34 (.t 4)), (some (33, false))⟩, ⟨(.len 35 (.t 34)), (some (33, false))⟩, ⟨(.fad 36 (.t 5) 0 0), (some (33, false))⟩, ⟨(.load 37 (.t 36) 0), (some (33, false))⟩, ⟨(.bin 38 .neq (.t 35) (.t 37)), (some (33, false))⟩, {i := .pick 39 (.t 33) (.c (.d true (.bool true))) (.t 38)}] [])
def c_queue_Trace_r1 : C :=
.rfun (.t 53) [54]
 (.rg 10 false [] [{i := .mv 15 (.t 54)}] [])
 (.block 1 (.rg 11 true [] [{i := .fad 55 (.t 14) 1 0}, {i := .load 56 (.t 55) 0}, {i := .load 57 (.t 6) 0}, {i := .mv 58 (.t 15)}, {i := .ix 59 (.t 57) (.t 58) 3}, {i := .fad 60 (.t 59) 1 0}, {i := .load 61 (.t 60) 0}, {i := .call 62 k_slices_Clone_of_bool [(.t 61)] none}, {i := .bsl 63 7 1 1 (.k (.lst 1 [])) [(0, (.t 62))]}, {i := .app 64 8 1 (.t 56) (.t 63)}, {i := .fad 65 (.t 14) 1 0}, {i := .store (.t 65) (.t 64) 0}] [[0, 2, 3, 4, 5, 6, 7, 1, 8, 9, 10, 11]]))
def c_queue_Trace : C :=
(.seq (.rg 0 false [] [{i := .box 5 0 (.t 0) 6}, {i := .box 6 1 (.t 1) 0}, {i := .alloc 10 2 [(.r 3 1), (.r 4 1)]}, {i := .mv 11 (.c (.d true (.int .i64 0)))}] [])
 (.seq (.rg 1 false [] [{i := .load 17 (.t 5) 6}, {i := .load 18 (.t 6) 0}, {i := .mv 19 (.t 2)}, {i := .call 20 k_queue_Chain [(.t 17), (.t 18), (.t 19)] none}, {i := .mv 16 (.t 20)}, {i := .xt 21 (.t 16) 0}, {i := .xt 22 (.t 16) 1}, {i := .mv 12 (.t 21)}, {i := .mv 13 (.t 22)}] [])
 (.seq (.seq (.rg 2 false [] [{i := .mv 23 (.t 13)}, {i := .bin 24 .neq (.t 23) (.c (.d true (.int .i64 0)))}] [])
 (.cond (.t 24) (.seq (.rg 3 false [] [{i := .bld 25 [(.n 1), (.n 1)] []}, {i := .mv 26 (.t 13)}, {i := .store (.t 10) (.t 25) 3}, {i := .mv 11 (.t 26)}] [])
 .ret) .skip))
 (.seq (.seq c_queue_Trace_p1
 (.cond (.t 39) (.seq (.rg 5 false [] [{i := .bld 40 [(.n 1), (.n 1)] []}, {i := .store (.t 10) (.t 40) 3}, {i := .mv 11 (.c (.d true (.int .i64 2)))}] [])
 .ret) .skip))
 (.seq (.seq (.rg 6 false [] [{i := .mv 41 (.t 12)}, {i := .len 42 (.t 41)}, {i := .bin 43 .geq (.t 42) (.c (.d true (.int .i64 100)))}] [])
 (.cond (.t 43) (.seq (.rg 7 false [] [{i := .bld 44 [(.n 1), (.n 1)] []}, {i := .store (.t 10) (.t 44) 3}, {i := .mv 11 (.c (.d true (.int .i64 4)))}] [])
 .ret) .skip))
 (.seq (.rg 8 false [] [{i := .mv 45 (.t 3)}, {i := .call 46 k_slices_Clone_of_bool [(.t 45)] none}, {i := .mv 47 (.t 4)}, {i := .call 48 k_slices_Clone_of_bool [(.t 47)] none}, {i := .bsl 49 5 1 1 (.k (.lst 1 [])) [(0, (.t 48))]}, {i := .bld 50 [(.n 1), (.n 1)] [(0, 0, (.t 46)), (1, 0, (.t 49))]}, {i := .alloc 14 6 [(.n 1), (.n 1)]}, {i := .store (.t 14) (.t 50) 3}] [])
 (.seq (.seq (.rg 9 false [] [{i := .load 51 (.t 6) 0}, {i := .mv 52 (.t 2)}, {i := .call 53 k_queue_chain [(.t 51), (.t 52)] (some 41)}] [])
 (.block 0 c_queue_Trace_r1))
 (.seq (.rg 12 false [] [{i := .load 66 (.t 14) 3}, {i := .store (.t 10) (.t 66) 3}, {i := .mv 11 (.c (.d true (.int .i64 0)))}] [])
 .ret))))))))
def n_queue_Trace : Fn := ⟨c_queue_Trace, [.c 10 3, .s 11], (some [false, false, false, false, false])⟩
def c_queue_Chain_p1 : C :=
(.rg 4 false [] [{i := .mv 15 (.t 2)}, {i := .bin 16 .lss (.t 15) (.c (.d true (.int .i64 0)))}, {i := .mv 17 (.t 16)}, ⟨(.mv 18 (.t 2)), (some (17, false))⟩, ⟨(.mv 19 (.t 1)), (some (17, false))⟩, ⟨(.len 20 (.t 19)), (some (17, false))⟩, ⟨(.bin 21 .geq (.t 18) (.t 20)), (some (17, false))⟩, {i := .pick 22 (.t 17) (.c (.d true (.bool true))) (.t 21)}] [])
def c_queue_Chain : C :=
(.seq (.rg 0 false [] [{i := .box 3 0 (.t 0) 6}, {i := .mv 6 (.c (.nil 1))}, {i := .mv 7 (.c (.d true (.int .i64 0)))}] [])
 (.seq (.seq (.rg 1 false [] [{i := .load 9 (.t 3) 6}, {i := .mv 10 (.t 1)}, {i := .call 11 k_queue_Right [(.t 9), (.t 10)] none}, {i := .mv 8 (.t 11)}] [])
 (.seq (.rg 2 false [] [{i := .mv 12 (.t 8)}, {i := .bin 13 .neq (.t 12) (.c (.d true (.int .i64 0)))}] [])
 (.cond (.t 13) (.seq (.rg 3 false [] [{i := .mv 14 (.t 8)}, {i := .mv 6 (.c (.nil 1))}, {i := .mv 7 (.t 14)}] [])
 .ret) .skip)))
 (.seq (.seq c_queue_Chain_p1
 (.cond (.t 22) (.seq (.rg 5 false [] [{i := .mv 6 (.c (.nil 1))}, {i := .mv 7 (.c (.d true (.int .i64 2)))}] [])
 .ret) .skip))
 (.seq (.rg 6 false [] [{i := .mv 23 (.t 1)}, {i := .mv 24 (.t 2)}, {i := .call 25 k_queue_chain [(.t 23), (.t 24)] (some 21)}, {i := .call 26 k_slices_Collect_of_int [(.t 25)] none}, {i := .mv 6 (.t 26)}, {i := .mv 7 (.c (.d true (.int .i64 0)))}] [])
 .ret))))
def n_queue_Chain : Fn := ⟨c_queue_Chain, [.s 6, .s 7], (some [false, false, false])⟩
def c_ref04_Same_l1 : C :=
(.seq (.seq (.rg 4 false [] [{i := .mv 11 (.t 5)}, {i := .mv 12 (.t 0)}, {i := .len 13 (.t 12)}, {i := .bin 14 .lss (.t 11) (.t 13)}] [])
 (.cond (.t 14) .skip (.exit 0)))
 (.seq (.block 1 (.seq (.rg 6 true [] [{i := .mv 17 (.t 0)}, {i := .mv 18 (.t 5)}, {i := .ix 19 (.t 17) (.t 18) 1}, {i := .load 20 (.t 19) 0}, {i := .mv 21 (.t 1)}, {i := .mv 22 (.t 5)}, {i := .ix 23 (.t 21) (.t 22) 1}, {i := .load 24 (.t 23) 0}, {i := .beq 25 true (.t 20) (.t 24)}] [])
 (.cond (.t 25) (.seq (.rg 7 false [] [{i := .mv 4 (.c (.d true (.bool false)))}] [])
 .ret) .skip)))
 (.rg 5 false [] [{i := .mv 15 (.t 5)}, {i := .bin 16 .add (.t 15) (.c (.d true (.int .i64 1)))}, {i := .mv 5 (.t 16)}] [])))
def c_ref04_Same : C :=
(.seq (.rg 0 false [] [{i := .mv 4 (.c (.d true (.bool false)))}] [])
 (.seq (.seq (.rg 1 false [] [{i := .mv 6 (.t 0)}, {i := .len 7 (.t 6)}, {i := .mv 8 (.t 1)}, {i := .len 9 (.t 8)}, {i := .bin 10 .neq (.t 7) (.t 9)}] [])
 (.cond (.t 10) (.seq (.rg 2 false [] [{i := .mv 4 (.c (.d true (.bool false)))}] [])
 .ret) .skip))
 (.seq (.seq (.rg 3 false [] [{i := .mv 5 (.c (.d true (.int .i64 0)))}] [])
 (.block 0 (.loop c_ref04_Same_l1)))
 (.seq (.rg 8 false [] [{i := .mv 4 (.c (.d true (.bool true)))}] [])
 .ret))))
def n_ref04_Same : Fn := ⟨c_ref04_Same, [.s 4], (some [false, false])⟩
def c_traces_First : C :=
(.seq (.rg 0 false [] [{i := .box 2 0 (.t 0) 6}, {i := .mv 4 (.c (.d true (.bool false)))}, {i := .mv 5 (.c (.d true (.int .i64 0)))}] [])
 (.seq (.seq (.rg 1 false [] [{i := .load 7 (.t 2) 6}, {i := .call 8 k_gates_Check [(.t 7)] none}, {i := .mv 6 (.t 8)}] [])
 (.seq (.rg 2 false [] [{i := .mv 9 (.t 6)}, {i := .bin 10 .neq (.t 9) (.c (.d true (.int .i64 0)))}] [])
 (.cond (.t 10) (.seq (.rg 3 false [] [{i := .mv 11 (.t 6)}, {i := .mv 4 (.c (.d true (.bool false)))}, {i := .mv 5 (.t 11)}] [])
 .ret) .skip)))
 (.seq (.seq (.rg 4 false [] [{i := .mv 12 (.t 1)}, {i := .len 13 (.t 12)}, {i := .fad 14 (.t 2) 1 0}, {i := .load 15 (.t 14) 0}, {i := .len 16 (.t 15)}, {i := .bin 17 .neq (.t 13) (.t 16)}] [])
 (.cond (.t 17) (.seq (.rg 5 false [] [{i := .mv 4 (.c (.d true (.bool false)))}, {i := .mv 5 (.c (.d true (.int .i64 2)))}] [])
 .ret) .skip))
 (.seq (.rg 6 false [] [{i := .load 18 (.t 2) 6}, {i := .mv 19 (.t 1)}, {i := .call 20 k_traces_starts [(.t 18), (.t 19)] none}, {i := .mv 4 (.t 20)}, {i := .mv 5 (.c (.d true (.int .i64 0)))}] [])
 .ret))))
def n_traces_First : Fn := ⟨c_traces_First, [.s 4, .s 5], (some [false, false])⟩
def c_values_Props : C :=
(.seq (.rg 0 false [] [{i := .box 3 0 (.t 0) 6}, {i := .mv 6 (.c (.d true (.bool false)))}, {i := .mv 7 (.c (.nil 1))}, {i := .mv 8 (.c (.d true (.int .i64 0)))}] [])
 (.seq (.rg 1 false [] [{i := .load 11 (.t 3) 6}, {i := .mv 12 (.t 1)}, {i := .mv 13 (.t 2)}, {i := .fad 14 (.t 3) 3 0}, {i := .load 15 (.t 14) 0}, {i := .len 16 (.t 15)}, {i := .fn 17 k_values_Props_1 [(.t 3)]}, {i := .call 18 k_values_list [(.t 11), (.t 12), (.t 13), (.t 16), (.t 17)] none}, {i := .mv 10 (.t 18)}, {i := .xt 19 (.t 10) 0}, {i := .xt 20 (.t 10) 1}, {i := .mv 7 (.t 19)}, {i := .mv 8 (.t 20)}] [])
 (.seq (.seq (.rg 2 false [] [{i := .mv 21 (.t 8)}, {i := .bin 22 .neq (.t 21) (.c (.d true (.int .i64 0)))}] [])
 (.cond (.t 22) (.seq (.rg 3 false [] [{i := .mv 23 (.t 8)}, {i := .mv 6 (.c (.d true (.bool false)))}, {i := .mv 7 (.c (.nil 1))}, {i := .mv 8 (.t 23)}] [])
 .ret) .skip))
 (.seq (.rg 4 false [] [{i := .load 25 (.t 3) 6}, {i := .mv 26 (.t 1)}, {i := .mv 27 (.t 2)}, {i := .fad 28 (.t 3) 4 0}, {i := .load 29 (.t 28) 0}, {i := .len 30 (.t 29)}, {i := .fn 31 k_values_Props_2 [(.t 3)]}, {i := .call 32 k_values_list [(.t 25), (.t 26), (.t 27), (.t 30), (.t 31)] none}, {i := .mv 24 (.t 32)}, {i := .xt 33 (.t 24) 0}, {i := .xt 34 (.t 24) 1}, {i := .mv 9 (.t 33)}, {i := .mv 8 (.t 34)}] [])
 (.seq (.rg 5 false [] [{i := .mv 35 (.t 9)}, {i := .call 36 k_slices_Contains_of_bool [(.t 35), (.c (.d true (.bool false)))] none}, {i := .un 37 .not (.t 36)}, {i := .mv 38 (.t 7)}, {i := .mv 39 (.t 8)}, {i := .mv 6 (.t 37)}, {i := .mv 7 (.t 38)}, {i := .mv 8 (.t 39)}] [])
 .ret)))))
def n_values_Props : Fn := ⟨c_values_Props, [.s 6, .s 7, .s 8], (some [false, false, false])⟩
def c_law38_so_p1 : C :=
(.rg 5 true [] [{i := .fad 24 (.t 10) 0 0}, {i := .load 25 (.t 24) 0}, {i := .mv 26 (.t 3)}, {i := .mv 27 (.t 9)}, {i := .bin 28 .add (.t 27) (.c (.d true (.int .i64 1)))}, {i := .ix 29 (.t 26) (.t 28) 1}, {i := .load 30 (.t 29) 0}, {i := .call 31 k_ref37_In [(.t 25), (.t 30)] none}, {i := .un 32 .not (.t 31)}, {i := .mv 33 (.t 32)}, ⟨(.load 34 (.t 4) 6), (some (33, false))⟩, ⟨(.mv 35 (.t 3)), (some (33, false))⟩, ⟨(.mv 36 (.t 9)), (some (33, false))⟩, ⟨(.bin 37 .add (.t 36) (.c (.d true (.int .i64 1)))), (some (33, false))⟩, ⟨(.ix 38 (.t 35) (.t 37) 1), (some (33, false))⟩, ⟨(.load 39 (.t 38) 0), (some (33, false))⟩, ⟨(.fad 40 (.t 10) 1 0), (some (33, false))⟩, ⟨(.load 41 (.t 40) 0), (some (33, false))⟩, ⟨(.call 42 k_ref04_Holds [(.t 34), (.t 39), (.t 41)] none), (some (33, false))⟩, ⟨(.un 43 .not (.t 42)), (some (33, false))⟩, {i := .pick 44 (.t 33) (.c (.d true (.bool true))) (.t 43)}] [])
def c_law38_so_l1 : C :=
(.seq (.seq (.rg 2 false [] [{i := .mv 11 (.t 9)}, {i := .mv 12 (.t 2)}, {i := .len 13 (.t 12)}, {i := .bin 14 .lss (.t 11) (.t 13)}] [])
 (.cond (.t 14) .skip (.exit 0)))
 (.seq (.block 1 (.seq (.rg 4 false [(.kill 1 2)] [{i := .mv 17 (.t 1)}, {i := .mv 18 (.t 2)}, {i := .mv 19 (.t 9)}, {i := .ix 20 (.t 18) (.t 19) 1}, {i := .load 21 (.t 20) 0}, {i := .ix 22 (.t 17) (.t 21) 3}, {i := .load 23 (.t 22) 4}, {i := .alloc 10 1 [(.n 1), (.n 1), (.k (.int .i64 0))]}, {i := .store (.t 10) (.t 23) 4}] [])
 (.seq c_law38_so_p1
 (.cond (.t 44) (.seq (.rg 6 false [] [{i := .mv 8 (.c (.d true (.bool false)))}] [])
 .ret) .skip))))
 (.rg 3 false [] [{i := .mv 15 (.t 9)}, {i := .bin 16 .add (.t 15) (.c (.d true (.int .i64 1)))}, {i := .mv 9 (.t 16)}] [])))
def c_law38_so : C :=
(.seq (.rg 0 false [] [{i := .box 4 0 (.t 0) 6}, {i := .mv 8 (.c (.d true (.bool false)))}] [])
 (.seq (.seq (.rg 1 false [] [{i := .mv 9 (.c (.d true (.int .i64 0)))}] [])
 (.block 0 (.loop c_law38_so_l1)))
 (.seq (.rg 7 true [] [{i := .load 45 (.t 4) 6}, {i := .mv 46 (.t 3)}, {i := .mv 47 (.t 2)}, {i := .len 48 (.t 47)}, {i := .ix 49 (.t 46) (.t 48) 1}, {i := .load 50 (.t 49) 0}, {i := .mv 51 (.t 1)}, {i := .mv 52 (.t 2)}, {i := .mv 53 (.t 2)}, {i := .len 54 (.t 53)}, {i := .bin 55 .sub (.t 54) (.c (.d true (.int .i64 1)))}, {i := .ix 56 (.t 52) (.t 55) 1}, {i := .load 57 (.t 56) 0}, {i := .ix 58 (.t 51) (.t 57) 3}, {i := .fad 59 (.t 58) 1 0}, {i := .load 60 (.t 59) 0}, {i := .call 61 k_ref04_Bad [(.t 45), (.t 50), (.t 60)] none}, {i := .bin 62 .geq (.t 61) (.c (.d true (.int .i64 0)))}, {i := .mv 8 (.t 62)}] [])
 .ret)))
def n_law38_so : Fn := ⟨c_law38_so, [.s 8], (some [false, false, false, false])⟩
def c_ref06_All_l1 : C :=
(.seq (.seq (.rg 3 false [] [{i := .mv 12 (.t 6)}, {i := .bin 13 .add (.t 12) (.c (.d true (.int .i64 1)))}, {i := .fad 14 (.t 3) 1 0}, {i := .load 15 (.t 14) 0}, {i := .len 16 (.t 15)}, {i := .bin 17 .lss (.t 13) (.t 16)}] [])
 (.cond (.t 17) .skip (.exit 0)))
 (.seq (.block 1 (.rg 5 true [.kill 5 6] [{i := .mv 20 (.t 5)}, {i := .load 21 (.t 2) 6}, {i := .mv 22 (.t 5)}, {i := .mv 23 (.t 6)}, {i := .ix 24 (.t 22) (.t 23) 1}, {i := .load 25 (.t 24) 0}, {i := .fad 26 (.t 3) 1 0}, {i := .load 27 (.t 26) 0}, {i := .mv 28 (.t 6)}, {i := .ix 29 (.t 27) (.t 28) 1}, {i := .load 30 (.t 29) 0}, {i := .call 31 k_ref04_After [(.t 21), (.t 25), (.t 30)] none}, {i := .bsl 32 5 1 1 (.k (.lst 1 [])) [(0, (.t 31))]}, {i := .app 33 6 1 (.t 20) (.t 32)}, {i := .mv 5 (.t 33)}] []))
 (.rg 4 false [] [{i := .mv 18 (.t 6)}, {i := .bin 19 .add (.t 18) (.c (.d true (.int .i64 1)))}, {i := .mv 6 (.t 19)}] [])))
def c_ref06_All : C :=
(.seq (.rg 0 false [] [{i := .box 2 0 (.t 0) 6}, {i := .box 3 1 (.t 1) 3}, {i := .mv 4 (.c (.nil 1))}] [])
 (.seq (.rg 1 false [] [{i := .bsl 7 2 1 0 (.k (.bool false)) []}, {i := .fad 8 (.t 3) 0 0}, {i := .load 9 (.t 8) 0}, {i := .app 10 3 1 (.t 7) (.t 9)}, {i := .bsl 11 4 1 1 (.k (.lst 1 [])) [(0, (.t 10))]}, {i := .mv 5 (.t 11)}] [])
 (.seq (.seq (.rg 2 false [] [{i := .mv 6 (.c (.d true (.int .i64 0)))}] [])
 (.block 0 (.loop c_ref06_All_l1)))
 (.seq (.rg 6 false [] [{i := .mv 34 (.t 5)}, {i := .mv 4 (.t 34)}] [])
 .ret))))
def n_ref06_All : Fn := ⟨c_ref06_All, [.s 4], (some [false, false])⟩
def c_traces_Witness_p1 : C :=
(.rg 2 false [] [{i := .load 8 (.t 2) 6}, {i := .load 9 (.t 3) 3}, {i := .fn 10 k_traces_Witness_1 [(.t 3), (.t 6)]}, {i := .call 11 k_traces_walk [(.t 8), (.t 9), (.t 10)] none}, {i := .mv 7 (.t 11)}] [])
def c_traces_Witness : C :=
(.seq (.rg 0 false [] [{i := .box 2 0 (.t 0) 6}, {i := .box 3 1 (.t 1) 3}, {i := .mv 4 (.c (.d true (.int .i64 0)))}, {i := .mv 5 (.c (.d true (.int .i64 0)))}] [])
 (.seq (.rg 1 false [] [{i := .alloc 6 2 [(.k (.int .i64 0))]}, {i := .store (.t 6) (.c (.d true (.int .i64 (-1)))) 0}] [])
 (.seq c_traces_Witness_p1
 (.seq (.block 0 (.seq (.rg 3 false [] [{i := .mv 13 (.t 7)}, {i := .bin 14 .neq (.t 13) (.c (.d true (.int .i64 0)))}, {i := .mv 12 (.t 14)}] [])
 (.cond (.t 12) (.seq (.rg 4 false [] [{i := .mv 15 (.t 7)}, {i := .mv 4 (.c (.d true (.int .i64 0)))}, {i := .mv 5 (.t 15)}] [])
 .ret) (.seq (.rg 5 false [] [{i := .load 17 (.t 6) 0}, {i := .bin 18 .lss (.t 17) (.c (.d true (.int .i64 0)))}, {i := .mv 16 (.t 18)}] [])
 (.cond (.t 16) (.seq (.rg 6 false [] [{i := .mv 4 (.c (.d true (.int .i64 0)))}, {i := .mv 5 (.c (.d true (.int .i64 57)))}] [])
 .ret) .skip)))))
 (.seq (.rg 7 false [] [{i := .load 19 (.t 6) 0}, {i := .mv 4 (.t 19)}, {i := .mv 5 (.c (.d true (.int .i64 0)))}] [])
 .ret)))))
def n_traces_Witness : Fn := ⟨c_traces_Witness, [.s 4, .s 5], (some [false, false])⟩
def c_law38_pushed_l1 : C :=
(.seq (.seq (.rg 3 false [] [{i := .mv 8 (.t 5)}, {i := .mv 9 (.t 0)}, {i := .len 10 (.t 9)}, {i := .bin 11 .lss (.t 8) (.t 10)}] [])
 (.cond (.t 11) .skip (.exit 0)))
 (.seq (.block 1 (.seq (.rg 5 false [] [{i := .mv 15 (.t 4)}, {i := .mv 16 (.t 0)}, {i := .mv 17 (.t 5)}, {i := .ix 18 (.t 16) (.t 17) 2}, {i := .load 19 (.t 18) 3}, {i := .call 20 k_queue_Push [(.t 15), (.t 19)] none}, {i := .mv 14 (.t 20)}, {i := .xt 21 (.t 14) 0}, {i := .xt 22 (.t 14) 1}, {i := .mv 6 (.t 21)}, {i := .mv 7 (.t 22)}] [])
 (.seq (.seq (.rg 6 false [] [{i := .mv 23 (.t 7)}, {i := .bin 24 .neq (.t 23) (.c (.d true (.int .i64 0)))}] [])
 (.cond (.t 24) (.seq (.rg 7 false [] [{i := .mv 25 (.t 7)}, {i := .mv 2 (.c (.nil 2))}, {i := .mv 3 (.t 25)}] [])
 .ret) .skip))
 (.rg 8 false [] [{i := .mv 26 (.t 6)}, {i := .mv 4 (.t 26)}] []))))
 (.rg 4 false [] [{i := .mv 12 (.t 5)}, {i := .bin 13 .add (.t 12) (.c (.d true (.int .i64 1)))}, {i := .mv 5 (.t 13)}] [])))
def c_law38_pushed : C :=
(.seq (.rg 0 false [] [{i := .mv 2 (.c (.nil 2))}, {i := .mv 3 (.c (.d true (.int .i64 0)))}] [])
 (.seq (.rg 1 false [] [{i := .mv 4 (.c (.nil 2))}] [])
 (.seq (.seq (.rg 2 false [] [{i := .mv 5 (.c (.d true (.int .i64 0)))}] [])
 (.block 0 (.loop c_law38_pushed_l1)))
 (.seq (.rg 9 false [] [{i := .mv 27 (.t 4)}, {i := .mv 2 (.t 27)}, {i := .mv 3 (.c (.d true (.int .i64 0)))}] [])
 .ret))))
def n_law38_pushed : Fn := ⟨c_law38_pushed, [.s 2, .s 3], (some [false])⟩
def c_law38_popped_l1 : C :=
(.seq (.seq (.rg 3 false [] [{i := .mv 9 (.t 5)}, {i := .bin 10 .leq (.t 9) (.c (.d true (.int .i64 2000)))}] [])
 (.cond (.t 10) .skip (.exit 0)))
 (.seq (.block 1 (.seq (.rg 5 false [.kill 1 2] [{i := .mv 14 (.t 0)}, {i := .call 15 k_queue_Pop [(.t 14)] none}, {i := .mv 13 (.t 15)}, {i := .xt 16 (.t 13) 0}, {i := .xt 17 (.t 13) 1}, {i := .xt 18 (.t 13) 2}, {i := .alloc 6 1 [.k (.int .i64 0), .k (.int .i64 0)]}, {i := .store (.t 6) (.t 16) 3}, {i := .mv 7 (.t 17)}, {i := .mv 8 (.t 18)}] [])
 (.seq (.seq (.rg 6 false [] [{i := .mv 19 (.t 8)}, {i := .bin 20 .neq (.t 19) (.c (.d true (.int .i64 0)))}] [])
 (.cond (.t 20) (.seq (.rg 7 false [] [{i := .mv 21 (.t 4)}, {i := .mv 22 (.t 8)}, {i := .bin 23 .eql (.t 22) (.c (.d true (.int .i64 6)))}, {i := .mv 2 (.t 21)}, {i := .mv 3 (.t 23)}] [])
 .ret) .skip))
 (.rg 8 false [.kill 2 3] [{i := .mv 24 (.t 4)}, {i := .load 25 (.t 6) 3}, {i := .bsl 26 2 2 1 (.k (.agg [(.int .i64 0), (.int .i64 0)])) [(0, (.t 25))]}, {i := .app 27 3 2 (.t 24) (.t 26)}, {i := .mv 28 (.t 7)}, {i := .mv 4 (.t 27)}, {i := .mv 0 (.t 28)}] []))))
 (.rg 4 false [] [{i := .mv 11 (.t 5)}, {i := .bin 12 .add (.t 11) (.c (.d true (.int .i64 1)))}, {i := .mv 5 (.t 12)}] [])))
def c_law38_popped : C :=
(.seq (.rg 0 false [] [{i := .mv 2 (.c (.nil 2))}, {i := .mv 3 (.c (.d true (.bool false)))}] [])
 (.seq (.rg 1 false [] [{i := .nilr 4 0 2}] [])
 (.seq (.seq (.rg 2 false [] [{i := .mv 5 (.c (.d true (.int .i64 0)))}] [])
 (.block 0 (.loop c_law38_popped_l1)))
 (.seq (.rg 9 false [] [{i := .mv 29 (.t 4)}, {i := .mv 2 (.t 29)}, {i := .mv 3 (.c (.d true (.bool false)))}] [])
 .ret))))
def n_law38_popped : Fn := ⟨c_law38_popped, [.s 2, .s 3], (some [false])⟩
def c_ref38_Same_p1 : C :=
(.rg 6 true [] [{i := .mv 17 (.t 0)}, {i := .mv 18 (.t 5)}, {i := .ix 19 (.t 17) (.t 18) 2}, {i := .load 20 (.t 19) 3}, {i := .mv 21 (.t 1)}, {i := .mv 22 (.t 5)}, {i := .ix 23 (.t 21) (.t 22) 2}, {i := .load 24 (.t 23) 3}, {i := .eqs 25 true [true, true] (.t 20) (.t 24)}] [])
def c_ref38_Same_l1 : C :=
(.seq (.seq (.rg 4 false [] [{i := .mv 11 (.t 5)}, {i := .mv 12 (.t 0)}, {i := .len 13 (.t 12)}, {i := .bin 14 .lss (.t 11) (.t 13)}] [])
 (.cond (.t 14) .skip (.exit 0)))
 (.seq (.block 1 (.seq c_ref38_Same_p1
 (.cond (.t 25) (.seq (.rg 7 false [] [{i := .mv 4 (.c (.d true (.bool false)))}] [])
 .ret) .skip)))
 (.rg 5 false [] [{i := .mv 15 (.t 5)}, {i := .bin 16 .add (.t 15) (.c (.d true (.int .i64 1)))}, {i := .mv 5 (.t 16)}] [])))
def c_ref38_Same : C :=
(.seq (.rg 0 false [] [{i := .mv 4 (.c (.d true (.bool false)))}] [])
 (.seq (.seq (.rg 1 false [] [{i := .mv 6 (.t 0)}, {i := .len 7 (.t 6)}, {i := .mv 8 (.t 1)}, {i := .len 9 (.t 8)}, {i := .bin 10 .neq (.t 7) (.t 9)}] [])
 (.cond (.t 10) (.seq (.rg 2 false [] [{i := .mv 4 (.c (.d true (.bool false)))}] [])
 .ret) .skip))
 (.seq (.seq (.rg 3 false [] [{i := .mv 5 (.c (.d true (.int .i64 0)))}] [])
 (.block 0 (.loop c_ref38_Same_l1)))
 (.seq (.rg 8 false [] [{i := .mv 4 (.c (.d true (.bool true)))}] [])
 .ret))))
def n_ref38_Same : Fn := ⟨c_ref38_Same, [.s 4], (some [false, false])⟩
def c_ref13_Same_l1 : C :=
(.seq (.seq (.rg 4 false [] [{i := .mv 11 (.t 5)}, {i := .mv 12 (.t 0)}, {i := .len 13 (.t 12)}, {i := .bin 14 .lss (.t 11) (.t 13)}] [])
 (.cond (.t 14) .skip (.exit 0)))
 (.seq (.block 1 (.seq (.rg 6 true [] [{i := .mv 17 (.t 0)}, {i := .mv 18 (.t 5)}, {i := .ix 19 (.t 17) (.t 18) 1}, {i := .load 20 (.t 19) 0}, {i := .mv 21 (.t 1)}, {i := .mv 22 (.t 5)}, {i := .ix 23 (.t 21) (.t 22) 1}, {i := .load 24 (.t 23) 0}, {i := .bin 25 .neq (.t 20) (.t 24)}] [])
 (.cond (.t 25) (.seq (.rg 7 false [] [{i := .mv 4 (.c (.d true (.bool false)))}] [])
 .ret) .skip)))
 (.rg 5 false [] [{i := .mv 15 (.t 5)}, {i := .bin 16 .add (.t 15) (.c (.d true (.int .i64 1)))}, {i := .mv 5 (.t 16)}] [])))
def c_ref13_Same : C :=
(.seq (.rg 0 false [] [{i := .mv 4 (.c (.d true (.bool false)))}] [])
 (.seq (.seq (.rg 1 false [] [{i := .mv 6 (.t 0)}, {i := .len 7 (.t 6)}, {i := .mv 8 (.t 1)}, {i := .len 9 (.t 8)}, {i := .bin 10 .neq (.t 7) (.t 9)}] [])
 (.cond (.t 10) (.seq (.rg 2 false [] [{i := .mv 4 (.c (.d true (.bool false)))}] [])
 .ret) .skip))
 (.seq (.seq (.rg 3 false [] [{i := .mv 5 (.c (.d true (.int .i64 0)))}] [])
 (.block 0 (.loop c_ref13_Same_l1)))
 (.seq (.rg 8 false [] [{i := .mv 4 (.c (.d true (.bool true)))}] [])
 .ret))))
def n_ref13_Same : Fn := ⟨c_ref13_Same, [.s 4], (some [false, false])⟩
def c_ref02_Great_p1 : C :=
(.rg 1 false [] [{i := .fad 3 (.t 1) 1 0}, {i := .load 4 (.t 3) 0}, {i := .len 5 (.t 4)}, {i := .bin 6 .gtr (.t 5) (.c (.d true (.int .i64 60)))}, {i := .mv 7 (.t 6)}, ⟨(.fad 8 (.t 1) 2 0), (some (7, false))⟩, ⟨(.load 9 (.t 8) 0), (some (7, false))⟩, ⟨(.len 10 (.t 9)), (some (7, false))⟩, ⟨(.bin 11 .gtr (.t 10) (.c (.d true (.int .i64 120)))), (some (7, false))⟩, {i := .pick 12 (.t 7) (.c (.d true (.bool true))) (.t 11)}, {i := .mv 13 (.t 12)}, ⟨(.fad 14 (.t 1) 3 0), (some (13, false))⟩, ⟨(.load 15 (.t 14) 0), (some (13, false))⟩, ⟨(.len 16 (.t 15)), (some (13, false))⟩, ⟨(.bin 17 .gtr (.t 16) (.c (.d true (.int .i64 110)))), (some (13, false))⟩, {i := .pick 18 (.t 13) (.c (.d true (.bool true))) (.t 17)}, {i := .mv 19 (.t 18)}, ⟨(.fad 20 (.t 1) 4 0), (some (19, false))⟩, ⟨(.load 21 (.t 20) 0), (some (19, false))⟩, ⟨(.len 22 (.t 21)), (some (19, false))⟩, ⟨(.bin 23 .gtr (.t 22) (.c (.d true (.int .i64 110)))), (some (19, false))⟩, {i := .pick 24 (.t 19) (.c (.d true (.bool true))) (.t 23)}, {i := .mv 25 (.t 24)}, ⟨(.fad 26 (.t 1) 0 0), (some (25, false))⟩, ⟨(.load 27 (.t 26) 0), (some (25, false))⟩, ⟨(.bin 28 .gtr (.t 27) (.c (.d true (.int .i64 40)))), (some (25, false))⟩, ⟨(.mv 29 (.t 28)), (some (25, false))⟩, ⟨(.fad 30 (.t 1) 0 0), (some (29, true))⟩, ⟨(.load 31 (.t 30) 0), (some (29, true))⟩, ⟨(.bin 32 .lss (.t 31) (.c (.d true (.int .i64 996)))), (some (29, true))⟩, ⟨(.pick 33 (.t 29) (.t 32) (.c (.d true (.bool false)))), (some (25, false))⟩, {i := .pick 34 (.t 25) (.c (.d true (.bool true))) (.t 33)}, {i := .mv 2 (.t 34)}] [])
def c_ref02_Great : C :=
(.seq (.rg 0 false [] [{i := .box 1 0 (.t 0) 6}, {i := .mv 2 (.c (.d true (.bool false)))}] [])
 (.seq c_ref02_Great_p1
 .ret))
def n_ref02_Great : Fn := ⟨c_ref02_Great, [.s 2], (some [false])⟩
def c_ref02_Size : C :=
(.seq (.rg 0 false [] [{i := .box 1 0 (.t 0) 6}, {i := .mv 2 (.c (.d true (.int .i64 0)))}] [])
 (.seq (.rg 1 false [] [{i := .fad 3 (.t 1) 0 0}, {i := .load 4 (.t 3) 0}, {i := .fad 5 (.t 1) 1 0}, {i := .load 6 (.t 5) 0}, {i := .len 7 (.t 6)}, {i := .bin 8 .add (.t 4) (.t 7)}, {i := .fad 9 (.t 1) 2 0}, {i := .load 10 (.t 9) 0}, {i := .len 11 (.t 10)}, {i := .bin 12 .add (.t 8) (.t 11)}, {i := .mv 2 (.t 12)}] [])
 .ret))
def n_ref02_Size : Fn := ⟨c_ref02_Size, [.s 2], (some [false])⟩
def c_ref02_literals_p1 : C :=
(.rg 4 false [] [{i := .mv 12 (.t 0)}, {i := .mv 13 (.t 5)}, {i := .ix 14 (.t 12) (.t 13) 1}, {i := .load 15 (.t 14) 0}, {i := .bin 16 .lss (.t 15) (.c (.d true (.int .i64 0)))}, {i := .mv 17 (.t 16)}, ⟨(.mv 18 (.t 0)), (some (17, false))⟩, ⟨(.mv 19 (.t 5)), (some (17, false))⟩, ⟨(.ix 20 (.t 18) (.t 19) 1), (some (17, false))⟩, ⟨(.load 21 (.t 20) 0), (some (17, false))⟩, ⟨(.bin 22 .quo (.t 21) (.c (.d true (.int .i64 2)))), (some (17, false))⟩, ⟨(.mv 23 (.t 1)), (some (17, false))⟩, ⟨(.bin 24 .gtr (.t 22) (.t 23)), (some (17, false))⟩, {i := .pick 25 (.t 17) (.c (.d true (.bool true))) (.t 24)}] [])
def c_ref02_literals_l1 : C :=
(.seq (.seq (.rg 2 false [] [{i := .mv 6 (.t 5)}, {i := .mv 7 (.t 0)}, {i := .len 8 (.t 7)}, {i := .bin 9 .lss (.t 6) (.t 8)}] [])
 (.cond (.t 9) .skip (.exit 0)))
 (.seq (.block 1 (.seq c_ref02_literals_p1
 (.cond (.t 25) (.seq (.rg 5 false [] [{i := .mv 4 (.c (.d true (.bool false)))}] [])
 .ret) .skip)))
 (.rg 3 false [] [{i := .mv 10 (.t 5)}, {i := .bin 11 .add (.t 10) (.c (.d true (.int .i64 1)))}, {i := .mv 5 (.t 11)}] [])))
def c_ref02_literals : C :=
(.seq (.rg 0 false [] [{i := .mv 4 (.c (.d true (.bool false)))}] [])
 (.seq (.seq (.rg 1 false [] [{i := .mv 5 (.c (.d true (.int .i64 0)))}] [])
 (.block 0 (.loop c_ref02_literals_l1)))
 (.seq (.rg 6 false [] [{i := .mv 4 (.c (.d true (.bool true)))}] [])
 .ret)))
def n_ref02_literals : Fn := ⟨c_ref02_literals, [.s 4], (some [false, false])⟩
def c_ref13_Valid_p1 : C :=
(.rg 4 true [] [{i := .mv 12 (.t 0)}, {i := .mv 13 (.t 1)}, {i := .mv 14 (.t 5)}, {i := .ix 15 (.t 13) (.t 14) 1}, {i := .load 16 (.t 15) 0}, {i := .call 17 k_ref13_Lit [(.t 12), (.t 16)] none}, {i := .un 18 .not (.t 17)}, {i := .mv 19 (.t 18)}, ⟨(.mv 20 (.t 5)), (some (19, false))⟩, ⟨(.bin 21 .gtr (.t 20) (.c (.d true (.int .i64 0)))), (some (19, false))⟩, ⟨(.mv 22 (.t 21)), (some (19, false))⟩, ⟨(.mv 23 (.t 1)), (some (22, true))⟩, ⟨(.mv 24 (.t 5)), (some (22, true))⟩, ⟨(.ix 25 (.t 23) (.t 24) 1), (some (22, true))⟩, ⟨(.load 26 (.t 25) 0), (some (22, true))⟩, ⟨(.mv 27 (.t 1)), (some (22, true))⟩, ⟨(.mv 28 (.t 5)), (some (22, true))⟩, ⟨(.bin 29 .sub (.t 28) (.c (.d true (.int .i64 1)))), (some (22, true))⟩, ⟨(.ix 30 (.t 27) (.t 29) 1), (some (22, true))⟩, ⟨(.load 31 (.t 30) 0), (some (22, true))⟩, ⟨(.bin 32 .sub (.t 26) (.t 31)), (some (22, true))⟩, ⟨(.bin 33 .lss (.t 32) (.c (.d true (.int .i64 1)))), (some (22, true))⟩, ⟨(.pick 34 (.t 22) (.t 33) (.c (.d true (.bool false)))), (some (19, false))⟩, {i := .pick 35 (.t 19) (.c (.d true (.bool true))) (.t 34)}, {i := .mv 36 (.t 35)}, ⟨(.mv 37 (.t 5)), (some (36, false))⟩, ⟨(.bin 38 .gtr (.t 37) (.c (.d true (.int .i64 0)))), (some (36, false))⟩, ⟨(.mv 39 (.t 38)), (some (36, false))⟩, ⟨(.mv 40 (.t 1)), (some (39, true))⟩, ⟨(.mv 41 (.t 5)), (some (39, true))⟩, ⟨(.bin 42 .sub (.t 41) (.c (.d true (.int .i64 1)))), (some (39, true))⟩, ⟨(.ix 43 (.t 40) (.t 42) 1), (some (39, true))⟩, ⟨(.load 44 (.t 43) 0), (some (39, true))⟩, ⟨(.bin 45 .rem (.t 44) (.c (.d true (.int .i64 2)))), (some (39, true))⟩, ⟨(.bin 46 .eql (.t 45) (.c (.d true (.int .i64 0)))), (some (39, true))⟩, ⟨(.pick 47 (.t 39) (.t 46) (.c (.d true (.bool false)))), (some (36, false))⟩, ⟨(.mv 48 (.t 47)), (some (36, false))⟩, ⟨(.mv 49 (.t 1)), (some (48, true))⟩, ⟨(.mv 50 (.t 5)), (some (48, true))⟩, ⟨(.ix 51 (.t 49) (.t 50) 1), (some (48, true))⟩, ⟨(.load 52 (.t 51) 0), (some (48, true))⟩, ⟨(.mv 53 (.t 1)), (some (48, true))⟩, ⟨(.mv 54 (.t 5)), (some (48, true))⟩, ⟨(.bin 55 .sub (.t 54) (.c (.d true (.int .i64 1)))), (some (48, true))⟩, ⟨(.ix 56 (.t 53) (.t 55) 1), (some (48, true))⟩, ⟨(.load 57 (.t 56) 0), (some (48, true))⟩, ⟨(.bin 58 .add (.t 57) (.c (.d true (.int .i64 1)))), (some (48, true))⟩, ⟨(.bin 59 .eql (.t 52) (.t 58)), (some (48, true))⟩, ⟨(.pick 60 (.t 48) (.t 59) (.c (.d true (.bool false)))), (some (36, false))⟩, {i := .pick 61 (.t 36) (.c (.d true (.bool true))) (.t 60)}] [])
def c_ref13_Valid_l1 : C :=
(.seq (.seq (.rg 2 false [] [{i := .mv 6 (.t 5)}, {i := .mv 7 (.t 1)}, {i := .len 8 (.t 7)}, {i := .bin 9 .lss (.t 6) (.t 8)}] [])
 (.cond (.t 9) .skip (.exit 0)))
 (.seq (.block 1 (.seq c_ref13_Valid_p1
 (.cond (.t 61) (.seq (.rg 5 false [] [{i := .mv 4 (.c (.d true (.bool false)))}] [])
 .ret) .skip)))
 (.rg 3 false [] [{i := .mv 10 (.t 5)}, {i := .bin 11 .add (.t 10) (.c (.d true (.int .i64 1)))}, {i := .mv 5 (.t 11)}] [])))
def c_ref13_Valid : C :=
(.seq (.rg 0 false [] [{i := .mv 4 (.c (.d true (.bool false)))}] [])
 (.seq (.seq (.rg 1 false [] [{i := .mv 5 (.c (.d true (.int .i64 0)))}] [])
 (.block 0 (.loop c_ref13_Valid_l1)))
 (.seq (.rg 6 false [] [{i := .mv 4 (.c (.d true (.bool true)))}] [])
 .ret)))
def n_ref13_Valid : Fn := ⟨c_ref13_Valid, [.s 4], (some [false, false])⟩
def c_queue_chain : C :=
(.seq (.rg 0 false [] [{i := .box 2 0 (.t 0) 0}, {i := .box 3 1 (.t 1) 0}, {i := .mv 4 (.c .u)}] [])
 (.seq (.rg 1 false [] [{i := .fn 5 k_queue_chain_1 [(.t 3), (.t 2)]}, {i := .mv 4 (.t 5)}] [])
 .ret))
def n_queue_chain : Fn := ⟨c_queue_chain, [.s 4], none⟩
def c_queue_Right_p1 : C :=
(.rg 9 false [] [{i := .fad 23 (.t 2) 1 0}, {i := .load 24 (.t 23) 0}, {i := .len 25 (.t 24)}, {i := .fad 26 (.t 7) 0 0}, {i := .load 27 (.t 26) 0}, {i := .call 28 k_clause_Check [(.t 25), (.t 27)] none}, {i := .bin 29 .neq (.t 28) (.c (.d true (.int .i64 0)))}, {i := .mv 30 (.t 29)}, ⟨(.fad 31 (.t 7) 1 0), (some (30, false))⟩, ⟨(.load 32 (.t 31) 0), (some (30, false))⟩, ⟨(.len 33 (.t 32)), (some (30, false))⟩, ⟨(.fad 34 (.t 2) 0 0), (some (30, false))⟩, ⟨(.load 35 (.t 34) 0), (some (30, false))⟩, ⟨(.bin 36 .neq (.t 33) (.t 35)), (some (30, false))⟩, {i := .pick 37 (.t 30) (.c (.d true (.bool true))) (.t 36)}, {i := .mv 38 (.t 37)}, ⟨(.fad 39 (.t 7) 2 0), (some (38, false))⟩, ⟨(.load 40 (.t 39) 0), (some (38, false))⟩, ⟨(.bin 41 .lss (.t 40) (.c (.d true (.int .i64 (-1))))), (some (38, false))⟩, {i := .pick 42 (.t 38) (.c (.d true (.bool true))) (.t 41)}, {i := .mv 43 (.t 42)}, ⟨(.fad 44 (.t 7) 2 0), (some (43, false))⟩, ⟨(.load 45 (.t 44) 0), (some (43, false))⟩, ⟨(.mv 46 (.t 6)), (some (43, false))⟩, ⟨(.bin 47 .geq (.t 45) (.t 46)), (some (43, false))⟩, {i := .pick 48 (.t 43) (.c (.d true (.bool true))) (.t 47)}] [])
def c_queue_Right_l1 : C :=
(.seq (.rg 7 false [] [{i := .bin 19 .lss (.t 18) (.t 17)}] [])
 (.seq (.cond (.t 19) .skip (.exit 0))
 (.seq (.block 1 (.seq (.rg 8 false [(.kill 1 2)] [{i := .mv 20 (.t 18)}, {i := .ix 21 (.t 16) (.t 18) 3}, {i := .load 22 (.t 21) 4}, {i := .alloc 7 1 [(.n 1), (.n 1), (.k (.int .i64 0))]}, {i := .mv 6 (.t 20)}, {i := .store (.t 7) (.t 22) 4}] [])
 (.seq c_queue_Right_p1
 (.cond (.t 48) (.seq (.rg 10 false [] [{i := .mv 4 (.c (.d true (.int .i64 8)))}] [])
 .ret) .skip))))
 (.rg 11 false [] [{i := .bin 49 .add (.t 18) (.c (.d true (.int .i64 1)))}, {i := .mv 18 (.t 49)}] []))))
def c_queue_Right : C :=
(.seq (.rg 0 false [] [{i := .box 2 0 (.t 0) 6}, {i := .mv 4 (.c (.d true (.int .i64 0)))}] [])
 (.seq (.seq (.rg 1 false [] [{i := .load 8 (.t 2) 6}, {i := .call 9 k_gates_Check [(.t 8)] none}, {i := .mv 5 (.t 9)}] [])
 (.seq (.rg 2 false [] [{i := .mv 10 (.t 5)}, {i := .bin 11 .neq (.t 10) (.c (.d true (.int .i64 0)))}] [])
 (.cond (.t 11) (.seq (.rg 3 false [] [{i := .mv 12 (.t 5)}, {i := .mv 4 (.t 12)}] [])
 .ret) .skip)))
 (.seq (.seq (.rg 4 false [] [{i := .mv 13 (.t 1)}, {i := .len 14 (.t 13)}, {i := .bin 15 .gtr (.t 14) (.c (.d true (.int .i64 1000)))}] [])
 (.cond (.t 15) (.seq (.rg 5 false [] [{i := .mv 4 (.c (.d true (.int .i64 4)))}] [])
 .ret) .skip))
 (.seq (.seq (.rg 6 false [] [{i := .mv 16 (.t 1)}, {i := .len 17 (.t 16)}, {i := .mv 18 (.c (.d true (.int .i64 0)))}] [])
 (.block 0 (.loop c_queue_Right_l1)))
 (.seq (.rg 12 false [] [{i := .mv 4 (.c (.d true (.int .i64 0)))}] [])
 .ret)))))
def n_queue_Right : Fn := ⟨c_queue_Right, [.s 4], (some [false, false])⟩
def c_slices_Collect_of_int : C :=
(.seq (.rg 0 false [] [{i := .mv 2 (.c (.nil 1))}] [])
 (.seq (.rg 1 false [] [{i := .mv 3 (.t 0)}, {i := .call 4 k_slices_AppendSeq_of_int [(.c (.nil 1)), (.t 3)] none}, {i := .mv 2 (.t 4)}] [])
 .ret))
def n_slices_Collect_of_int : Fn := ⟨c_slices_Collect_of_int, [.s 2], none⟩
def c_gates_Check_p1 : C :=
(.rg 3 false [] [{i := .fad 11 (.t 1) 0 0}, {i := .load 12 (.t 11) 0}, {i := .bin 13 .gtr (.t 12) (.c (.d true (.int .i64 1000)))}, {i := .mv 14 (.t 13)}, ⟨(.load 15 (.t 1) 6), (some (14, false))⟩, ⟨(.call 16 k_gates_starts [(.t 15)] none), (some (14, false))⟩, ⟨(.ixa 17 (.t 16) (.c (.d true (.int .i64 3))) 4 0), (some (14, false))⟩, ⟨(.bin 18 .sub (.t 17) (.c (.d true (.int .i64 1)))), (some (14, false))⟩, ⟨(.bin 19 .gtr (.t 18) (.c (.d true (.int .i64 1000)))), (some (14, false))⟩, {i := .pick 20 (.t 14) (.c (.d true (.bool true))) (.t 19)}, {i := .mv 21 (.t 20)}, ⟨(.fad 22 (.t 1) 3 0), (some (21, false))⟩, ⟨(.load 23 (.t 22) 0), (some (21, false))⟩, ⟨(.len 24 (.t 23)), (some (21, false))⟩, ⟨(.fad 25 (.t 1) 4 0), (some (21, false))⟩, ⟨(.load 26 (.t 25) 0), (some (21, false))⟩, ⟨(.len 27 (.t 26)), (some (21, false))⟩, ⟨(.mx 28 (.t 24) [(.t 27)]), (some (21, false))⟩, ⟨(.bin 29 .gtr (.t 28) (.c (.d true (.int .i64 100)))), (some (21, false))⟩, {i := .pick 30 (.t 21) (.c (.d true (.bool true))) (.t 29)}] [])
def c_gates_Check_p2 : C :=
(.rg 8 false [] [{i := .fad 35 (.t 1) 3 0}, {i := .load 36 (.t 35) 0}, {i := .load 37 (.t 4) 0}, {i := .call 38 k_slices_ContainsFunc_of_int [(.t 36), (.t 37)] none}, {i := .mv 39 (.t 38)}, ⟨(.fad 40 (.t 1) 4 0), (some (39, false))⟩, ⟨(.load 41 (.t 40) 0), (some (39, false))⟩, ⟨(.load 42 (.t 4) 0), (some (39, false))⟩, ⟨(.call 43 k_slices_ContainsFunc_of_int [(.t 41), (.t 42)] none), (some (39, false))⟩, {i := .pick 44 (.t 39) (.c (.d true (.bool true))) (.t 43)}, {i := .mv 45 (.t 44)}, ⟨(.fad 46 (.t 1) 1 0), (some (45, false))⟩, ⟨(.load 47 (.t 46) 0), (some (45, false))⟩, ⟨(.mv 48 (.t 5)), (some (45, false))⟩, ⟨(.call 49 k_slices_ContainsFunc_of_api_Latch [(.t 47), (.t 48)] none), (some (45, false))⟩, {i := .pick 50 (.t 45) (.c (.d true (.bool true))) (.t 49)}] [])
def c_gates_Check_p3 : C :=
(.rg 13 false [] [{i := .fad 59 (.t 7) 1 0}, {i := .load 60 (.t 59) 0}, {i := .bin 61 .lss (.t 60) (.c (.d true (.int .i64 0)))}, {i := .mv 62 (.t 61)}, ⟨(.fad 63 (.t 7) 0 0), (some (62, false))⟩, ⟨(.load 64 (.t 63) 0), (some (62, false))⟩, ⟨(.fad 65 (.t 7) 1 0), (some (62, false))⟩, ⟨(.load 66 (.t 65) 0), (some (62, false))⟩, ⟨(.bin 67 .lss (.t 64) (.t 66)), (some (62, false))⟩, {i := .pick 68 (.t 62) (.c (.d true (.bool true))) (.t 67)}, {i := .mv 69 (.t 68)}, ⟨(.fad 70 (.t 7) 0 0), (some (69, false))⟩, ⟨(.load 71 (.t 70) 0), (some (69, false))⟩, ⟨(.ixb 72 (.t 3) (.c (.d true (.int .i64 2))) 4 1), (some (69, false))⟩, ⟨(.load 73 (.t 72) 0), (some (69, false))⟩, ⟨(.mv 74 (.t 6)), (some (69, false))⟩, ⟨(.bin 75 .add (.t 73) (.t 74)), (some (69, false))⟩, ⟨(.bin 76 .mul (.c (.d true (.int .i64 2))) (.t 75)), (some (69, false))⟩, ⟨(.bin 77 .geq (.t 71) (.t 76)), (some (69, false))⟩, {i := .pick 78 (.t 69) (.c (.d true (.bool true))) (.t 77)}] [])
def c_gates_Check_l1 : C :=
(.seq (.rg 11 false [] [{i := .bin 55 .lss (.t 54) (.t 53)}] [])
 (.seq (.cond (.t 55) .skip (.exit 0))
 (.seq (.block 1 (.seq (.rg 12 false [(.kill 3 4)] [{i := .mv 56 (.t 54)}, {i := .ix 57 (.t 52) (.t 54) 2}, {i := .load 58 (.t 57) 3}, {i := .alloc 7 3 [(.k (.int .i64 0)), (.k (.int .i64 0))]}, {i := .mv 6 (.t 56)}, {i := .store (.t 7) (.t 58) 3}] [])
 (.seq c_gates_Check_p3
 (.cond (.t 78) (.seq (.rg 14 false [] [{i := .mv 2 (.c (.d true (.int .i64 8)))}] [])
 .ret) .skip))))
 (.rg 15 false [] [{i := .bin 79 .add (.t 54) (.c (.d true (.int .i64 1)))}, {i := .mv 54 (.t 79)}] []))))
def c_gates_Check : C :=
(.seq (.rg 0 false [] [{i := .box 1 0 (.t 0) 6}, {i := .mv 2 (.c (.d true (.int .i64 0)))}] [])
 (.seq (.seq (.rg 1 false [] [{i := .fad 8 (.t 1) 0 0}, {i := .load 9 (.t 8) 0}, {i := .bin 10 .lss (.t 9) (.c (.d true (.int .i64 0)))}] [])
 (.cond (.t 10) (.seq (.rg 2 false [] [{i := .mv 2 (.c (.d true (.int .i64 8)))}] [])
 .ret) .skip))
 (.seq (.seq c_gates_Check_p1
 (.cond (.t 30) (.seq (.rg 4 false [] [{i := .mv 2 (.c (.d true (.int .i64 4)))}] [])
 .ret) .skip))
 (.seq (.rg 5 false [] [{i := .load 31 (.t 1) 6}, {i := .call 32 k_gates_starts [(.t 31)] none}, {i := .alloc 3 1 [(.k (.int .i64 0)), (.k (.int .i64 0)), (.k (.int .i64 0)), (.k (.int .i64 0))]}, {i := .store (.t 3) (.t 32) 5}] [])
 (.seq (.rg 6 false [] [{i := .fn 33 k_gates_Check_1 [(.t 3)]}, {i := .alloc 4 2 [.u]}, {i := .store (.t 4) (.t 33) 0}] [])
 (.seq (.rg 7 false [] [{i := .fn 34 k_gates_Check_2 [(.t 4)]}, {i := .mv 5 (.t 34)}] [])
 (.seq (.seq c_gates_Check_p2
 (.cond (.t 50) (.seq (.rg 9 false [] [{i := .mv 2 (.c (.d true (.int .i64 8)))}] [])
 .ret) .skip))
 (.seq (.seq (.rg 10 false [] [{i := .fad 51 (.t 1) 2 0}, {i := .load 52 (.t 51) 0}, {i := .len 53 (.t 52)}, {i := .mv 54 (.c (.d true (.int .i64 0)))}] [])
 (.block 0 (.loop c_gates_Check_l1)))
 (.seq (.rg 16 false [] [{i := .mv 2 (.c (.d true (.int .i64 0)))}] [])
 .ret)))))))))
def n_gates_Check : Fn := ⟨c_gates_Check, [.s 2], (some [false])⟩
def c_traces_starts_p1 : C :=
(.rg 4 true [] [{i := .fad 15 (.t 6) 1 0}, {i := .load 16 (.t 15) 0}, {i := .bin 17 .neq (.t 16) (.c (.d true (.int .i64 2)))}, {i := .mv 18 (.t 17)}, ⟨(.mv 19 (.t 1)), (some (18, true))⟩, ⟨(.mv 20 (.t 5)), (some (18, true))⟩, ⟨(.ix 21 (.t 19) (.t 20) 1), (some (18, true))⟩, ⟨(.load 22 (.t 21) 0), (some (18, true))⟩, ⟨(.fad 23 (.t 6) 1 0), (some (18, true))⟩, ⟨(.load 24 (.t 23) 0), (some (18, true))⟩, ⟨(.bin 25 .eql (.t 24) (.c (.d true (.int .i64 1)))), (some (18, true))⟩, ⟨(.beq 26 true (.t 22) (.t 25)), (some (18, true))⟩, {i := .pick 27 (.t 18) (.t 26) (.c (.d true (.bool false)))}] [])
def c_traces_starts_l1 : C :=
(.seq (.rg 2 false [] [{i := .bin 11 .lss (.t 10) (.t 9)}] [])
 (.seq (.cond (.t 11) .skip (.exit 0))
 (.seq (.block 1 (.seq (.rg 3 false [(.kill 1 2)] [{i := .mv 12 (.t 10)}, {i := .ix 13 (.t 8) (.t 10) 2}, {i := .load 14 (.t 13) 3}, {i := .alloc 6 1 [(.k (.int .i64 0)), (.k (.int .i64 0))]}, {i := .mv 5 (.t 12)}, {i := .store (.t 6) (.t 14) 3}] [])
 (.seq c_traces_starts_p1
 (.cond (.t 27) (.seq (.rg 5 false [] [{i := .mv 4 (.c (.d true (.bool false)))}] [])
 .ret) .skip))))
 (.rg 6 false [] [{i := .bin 28 .add (.t 10) (.c (.d true (.int .i64 1)))}, {i := .mv 10 (.t 28)}] []))))
def c_traces_starts : C :=
(.seq (.rg 0 false [] [{i := .box 2 0 (.t 0) 6}, {i := .mv 4 (.c (.d true (.bool false)))}] [])
 (.seq (.seq (.rg 1 false [] [{i := .fad 7 (.t 2) 1 0}, {i := .load 8 (.t 7) 0}, {i := .len 9 (.t 8)}, {i := .mv 10 (.c (.d true (.int .i64 0)))}] [])
 (.block 0 (.loop c_traces_starts_l1)))
 (.seq (.rg 7 false [] [{i := .mv 4 (.c (.d true (.bool true)))}] [])
 .ret)))
def n_traces_starts : Fn := ⟨c_traces_starts, [.s 4], (some [false, false])⟩
def c_values_list_l1 : C :=
(.seq (.rg 6 false [] [{i := .bin 28 .lss (.t 27) (.t 26)}] [])
 (.seq (.cond (.t 28) .skip (.exit 0))
 (.seq (.block 1 (.seq (.rg 7 false [] [{i := .mv 29 (.t 27)}, {i := .mv 15 (.t 29)}] [])
 (.rg 8 false [.kill 2 3] [{i := .mv 30 (.t 14)}, {i := .mv 31 (.t 12)}, {i := .mv 32 (.t 4)}, {i := .mv 33 (.t 15)}, {i := .callv 34 (.t 32) [(.t 33)] none}, {i := .call 35 k_values_of [(.t 31), (.t 34)] none}, {i := .bsl 36 2 1 1 (.k (.bool false)) [(0, (.t 35))]}, {i := .app 37 3 1 (.t 30) (.t 36)}, {i := .mv 14 (.t 37)}] [])))
 (.rg 9 false [] [{i := .bin 38 .add (.t 27) (.c (.d true (.int .i64 1)))}, {i := .mv 27 (.t 38)}] []))))
def c_values_list : C :=
(.seq (.rg 0 false [] [{i := .box 5 0 (.t 0) 6}, {i := .mv 10 (.c (.nil 1))}, {i := .mv 11 (.c (.d true (.int .i64 0)))}] [])
 (.seq (.rg 1 false [] [{i := .load 17 (.t 5) 6}, {i := .mv 18 (.t 1)}, {i := .mv 19 (.t 2)}, {i := .call 20 k_values_All [(.t 17), (.t 18), (.t 19)] none}, {i := .mv 16 (.t 20)}, {i := .xt 21 (.t 16) 0}, {i := .xt 22 (.t 16) 1}, {i := .mv 12 (.t 21)}, {i := .mv 13 (.t 22)}] [])
 (.seq (.seq (.rg 2 false [] [{i := .mv 23 (.t 13)}, {i := .bin 24 .neq (.t 23) (.c (.d true (.int .i64 0)))}] [])
 (.cond (.t 24) (.seq (.rg 3 false [] [{i := .mv 25 (.t 13)}, {i := .mv 10 (.c (.nil 1))}, {i := .mv 11 (.t 25)}] [])
 .ret) .skip))
 (.seq (.rg 4 false [] [{i := .nilr 14 1 1}] [])
 (.seq (.seq (.rg 5 false [] [{i := .mv 26 (.t 3)}, {i := .mv 27 (.c (.d true (.int .i64 0)))}] [])
 (.block 0 (.loop c_values_list_l1)))
 (.seq (.rg 10 false [] [{i := .mv 39 (.t 14)}, {i := .mv 10 (.t 39)}, {i := .mv 11 (.c (.d true (.int .i64 0)))}] [])
 .ret))))))
def n_values_list : Fn := ⟨c_values_list, [.s 10, .s 11], none⟩
def c_values_Props_1 : C :=
(.seq (.rg 0 false [] [{i := .mv 3 (.c (.d true (.int .i64 0)))}] [])
 (.seq (.rg 1 false [] [{i := .fad 4 (.t 1) 3 0}, {i := .load 5 (.t 4) 0}, {i := .mv 6 (.t 0)}, {i := .ix 7 (.t 5) (.t 6) 1}, {i := .load 8 (.t 7) 0}, {i := .mv 3 (.t 8)}] [])
 .ret))
def n_values_Props_1 : Fn := ⟨c_values_Props_1, [.s 3], none⟩
def c_values_Props_2 : C :=
(.seq (.rg 0 false [] [{i := .mv 3 (.c (.d true (.int .i64 0)))}] [])
 (.seq (.rg 1 false [] [{i := .fad 4 (.t 1) 4 0}, {i := .load 5 (.t 4) 0}, {i := .mv 6 (.t 0)}, {i := .ix 7 (.t 5) (.t 6) 1}, {i := .load 8 (.t 7) 0}, {i := .mv 3 (.t 8)}] [])
 .ret))
def n_values_Props_2 : Fn := ⟨c_values_Props_2, [.s 3], none⟩
def c_slices_Contains_of_bool : C :=
(.seq (.rg 0 false [] [{i := .mv 4 (.c (.d true (.bool false)))}] [])
 (.seq (.rg 1 false [] [{i := .mv 5 (.t 0)}, {i := .mv 6 (.t 1)}, {i := .call 7 k_slices_Index_of_bool [(.t 5), (.t 6)] none}, {i := .bin 8 .geq (.t 7) (.c (.d true (.int .i64 0)))}, {i := .mv 4 (.t 8)}] [])
 .ret))
def n_slices_Contains_of_bool : Fn := ⟨c_slices_Contains_of_bool, [.s 4], (some [false, false])⟩
def c_ref37_In_l1 : C :=
(.seq (.seq (.rg 2 false [] [{i := .mv 6 (.t 5)}, {i := .mv 7 (.t 0)}, {i := .len 8 (.t 7)}, {i := .bin 9 .lss (.t 6) (.t 8)}] [])
 (.cond (.t 9) .skip (.exit 0)))
 (.seq (.block 1 (.seq (.rg 4 true [] [{i := .mv 12 (.t 1)}, {i := .mv 13 (.t 0)}, {i := .mv 14 (.t 5)}, {i := .ix 15 (.t 13) (.t 14) 1}, {i := .load 16 (.t 15) 0}, {i := .bin 17 .quo (.t 16) (.c (.d true (.int .i64 2)))}, {i := .bin 18 .sub (.t 17) (.c (.d true (.int .i64 1)))}, {i := .ix 19 (.t 12) (.t 18) 1}, {i := .load 20 (.t 19) 0}, {i := .mv 21 (.t 0)}, {i := .mv 22 (.t 5)}, {i := .ix 23 (.t 21) (.t 22) 1}, {i := .load 24 (.t 23) 0}, {i := .bin 25 .rem (.t 24) (.c (.d true (.int .i64 2)))}, {i := .bin 26 .eql (.t 25) (.c (.d true (.int .i64 0)))}, {i := .beq 27 true (.t 20) (.t 26)}] [])
 (.cond (.t 27) (.seq (.rg 5 false [] [{i := .mv 4 (.c (.d true (.bool false)))}] [])
 .ret) .skip)))
 (.rg 3 false [] [{i := .mv 10 (.t 5)}, {i := .bin 11 .add (.t 10) (.c (.d true (.int .i64 1)))}, {i := .mv 5 (.t 11)}] [])))
def c_ref37_In : C :=
(.seq (.rg 0 false [] [{i := .mv 4 (.c (.d true (.bool false)))}] [])
 (.seq (.seq (.rg 1 false [] [{i := .mv 5 (.c (.d true (.int .i64 0)))}] [])
 (.block 0 (.loop c_ref37_In_l1)))
 (.seq (.rg 6 false [] [{i := .mv 4 (.c (.d true (.bool true)))}] [])
 .ret)))
def n_ref37_In : Fn := ⟨c_ref37_In, [.s 4], (some [false, false])⟩
def c_ref04_Holds_l1 : C :=
(.seq (.seq (.rg 3 false [] [{i := .mv 13 (.t 8)}, {i := .fad 14 (.t 3) 4 0}, {i := .load 15 (.t 14) 0}, {i := .len 16 (.t 15)}, {i := .bin 17 .lss (.t 13) (.t 16)}] [])
 (.cond (.t 17) .skip (.exit 0)))
 (.seq (.block 1 (.seq (.rg 5 false [] [{i := .mv 20 (.t 7)}, {i := .fad 21 (.t 3) 4 0}, {i := .load 22 (.t 21) 0}, {i := .mv 23 (.t 8)}, {i := .ix 24 (.t 22) (.t 23) 1}, {i := .load 25 (.t 24) 0}, {i := .call 26 k_ref04_Value [(.t 20), (.t 25)] none}, {i := .un 27 .not (.t 26)}] [])
 (.cond (.t 27) (.seq (.rg 6 false [] [{i := .mv 6 (.c (.d true (.bool false)))}] [])
 .ret) .skip)))
 (.rg 4 false [] [{i := .mv 18 (.t 8)}, {i := .bin 19 .add (.t 18) (.c (.d true (.int .i64 1)))}, {i := .mv 8 (.t 19)}] [])))
def c_ref04_Holds : C :=
(.seq (.rg 0 false [] [{i := .box 3 0 (.t 0) 6}, {i := .mv 6 (.c (.d true (.bool false)))}] [])
 (.seq (.rg 1 false [] [{i := .load 9 (.t 3) 6}, {i := .mv 10 (.t 1)}, {i := .mv 11 (.t 2)}, {i := .call 12 k_ref04_Frame [(.t 9), (.t 10), (.t 11)] none}, {i := .mv 7 (.t 12)}] [])
 (.seq (.seq (.rg 2 false [] [{i := .mv 8 (.c (.d true (.int .i64 0)))}] [])
 (.block 0 (.loop c_ref04_Holds_l1)))
 (.seq (.rg 7 false [] [{i := .mv 6 (.c (.d true (.bool true)))}] [])
 .ret))))
def n_ref04_Holds : Fn := ⟨c_ref04_Holds, [.s 6], (some [false, false, false])⟩
def c_ref04_Bad_l1 : C :=
(.seq (.seq (.rg 3 false [] [{i := .mv 13 (.t 8)}, {i := .fad 14 (.t 3) 3 0}, {i := .load 15 (.t 14) 0}, {i := .len 16 (.t 15)}, {i := .bin 17 .lss (.t 13) (.t 16)}] [])
 (.cond (.t 17) .skip (.exit 0)))
 (.seq (.block 1 (.seq (.rg 5 false [] [{i := .mv 20 (.t 7)}, {i := .fad 21 (.t 3) 3 0}, {i := .load 22 (.t 21) 0}, {i := .mv 23 (.t 8)}, {i := .ix 24 (.t 22) (.t 23) 1}, {i := .load 25 (.t 24) 0}, {i := .call 26 k_ref04_Value [(.t 20), (.t 25)] none}] [])
 (.cond (.t 26) (.seq (.rg 6 false [] [{i := .mv 27 (.t 8)}, {i := .mv 6 (.t 27)}] [])
 .ret) .skip)))
 (.rg 4 false [] [{i := .mv 18 (.t 8)}, {i := .bin 19 .add (.t 18) (.c (.d true (.int .i64 1)))}, {i := .mv 8 (.t 19)}] [])))
def c_ref04_Bad : C :=
(.seq (.rg 0 false [] [{i := .box 3 0 (.t 0) 6}, {i := .mv 6 (.c (.d true (.int .i64 0)))}] [])
 (.seq (.rg 1 false [] [{i := .load 9 (.t 3) 6}, {i := .mv 10 (.t 1)}, {i := .mv 11 (.t 2)}, {i := .call 12 k_ref04_Frame [(.t 9), (.t 10), (.t 11)] none}, {i := .mv 7 (.t 12)}] [])
 (.seq (.seq (.rg 2 false [] [{i := .mv 8 (.c (.d true (.int .i64 0)))}] [])
 (.block 0 (.loop c_ref04_Bad_l1)))
 (.seq (.rg 7 false [] [{i := .mv 6 (.c (.d true (.int .i64 (-1))))}] [])
 .ret))))
def n_ref04_Bad : Fn := ⟨c_ref04_Bad, [.s 6], (some [false, false, false])⟩
def c_ref04_After_l1 : C :=
(.seq (.seq (.rg 4 false [] [{i := .mv 14 (.t 9)}, {i := .fad 15 (.t 3) 1 0}, {i := .load 16 (.t 15) 0}, {i := .len 17 (.t 16)}, {i := .bin 18 .lss (.t 14) (.t 17)}] [])
 (.cond (.t 18) .skip (.exit 0)))
 (.seq (.block 1 (.rg 6 false [.kill 2 3] [{i := .mv 21 (.t 8)}, {i := .mv 22 (.t 7)}, {i := .fad 23 (.t 3) 1 0}, {i := .load 24 (.t 23) 0}, {i := .mv 25 (.t 9)}, {i := .ix 26 (.t 24) (.t 25) 2}, {i := .fad 27 (.t 26) 0 0}, {i := .load 28 (.t 27) 0}, {i := .call 29 k_ref04_Value [(.t 22), (.t 28)] none}, {i := .bsl 30 2 1 1 (.k (.bool false)) [(0, (.t 29))]}, {i := .app 31 3 1 (.t 21) (.t 30)}, {i := .mv 8 (.t 31)}] []))
 (.rg 5 false [] [{i := .mv 19 (.t 9)}, {i := .bin 20 .add (.t 19) (.c (.d true (.int .i64 1)))}, {i := .mv 9 (.t 20)}] [])))
def c_ref04_After : C :=
(.seq (.rg 0 false [] [{i := .box 3 0 (.t 0) 6}, {i := .mv 6 (.c (.nil 1))}] [])
 (.seq (.rg 1 false [] [{i := .load 10 (.t 3) 6}, {i := .mv 11 (.t 1)}, {i := .mv 12 (.t 2)}, {i := .call 13 k_ref04_Frame [(.t 10), (.t 11), (.t 12)] none}, {i := .mv 7 (.t 13)}] [])
 (.seq (.rg 2 false [] [{i := .nilr 8 1 1}] [])
 (.seq (.seq (.rg 3 false [] [{i := .mv 9 (.c (.d true (.int .i64 0)))}] [])
 (.block 0 (.loop c_ref04_After_l1)))
 (.seq (.rg 7 false [] [{i := .mv 32 (.t 8)}, {i := .mv 6 (.t 32)}] [])
 .ret)))))
def n_ref04_After : Fn := ⟨c_ref04_After, [.s 6], (some [false, false, false])⟩
def c_traces_walk_l1 : C :=
(.seq (.rg 7 false [] [{i := .bin 32 .lss (.t 31) (.t 30)}] [])
 (.seq (.cond (.t 32) .skip (.exit 0))
 (.seq (.block 1 (.seq (.rg 8 false [] [{i := .mv 33 (.t 31)}, {i := .ix 34 (.t 29) (.t 31) 1}, {i := .load 35 (.t 34) 0}, {i := .mv 9 (.t 33)}, {i := .mv 10 (.t 35)}] [])
 (.seq (.rg 9 false [] [{i := .load 37 (.t 3) 6}, {i := .mv 38 (.t 8)}, {i := .mv 39 (.t 10)}, {i := .call 40 k_values_Props [(.t 37), (.t 38), (.t 39)] none}, {i := .mv 36 (.t 40)}, {i := .xt 41 (.t 36) 0}, {i := .xt 42 (.t 36) 1}, {i := .xt 43 (.t 36) 2}, {i := .mv 11 (.t 41)}, {i := .mv 12 (.t 42)}, {i := .mv 13 (.t 43)}] [])
 (.seq (.seq (.rg 10 false [] [{i := .mv 44 (.t 13)}, {i := .bin 45 .neq (.t 44) (.c (.d true (.int .i64 0)))}] [])
 (.cond (.t 45) (.seq (.rg 11 false [] [{i := .mv 46 (.t 13)}, {i := .mv 6 (.t 46)}] [])
 .ret) .skip))
 (.seq (.seq (.rg 12 false [] [{i := .mv 47 (.t 2)}, {i := .mv 48 (.t 9)}, {i := .mv 49 (.t 8)}, {i := .mv 50 (.t 11)}, {i := .mv 51 (.t 12)}, {i := .callv 52 (.t 47) [(.t 48), (.t 49), (.t 50), (.t 51)] none}, {i := .un 53 .not (.t 52)}] [])
 (.cond (.t 53) (.exit 0) .skip))
 (.seq (.rg 13 false [] [{i := .load 55 (.t 3) 6}, {i := .mv 56 (.t 8)}, {i := .mv 57 (.t 10)}, {i := .call 58 k_values_Next [(.t 55), (.t 56), (.t 57)] none}, {i := .mv 54 (.t 58)}, {i := .xt 59 (.t 54) 0}, {i := .xt 60 (.t 54) 1}, {i := .mv 8 (.t 59)}, {i := .mv 13 (.t 60)}] [])
 (.seq (.rg 14 false [] [{i := .mv 61 (.t 13)}, {i := .bin 62 .neq (.t 61) (.c (.d true (.int .i64 0)))}] [])
 (.cond (.t 62) (.seq (.rg 15 false [] [{i := .mv 63 (.t 13)}, {i := .mv 6 (.t 63)}] [])
 .ret) .skip))))))))
 (.rg 16 false [] [{i := .bin 64 .add (.t 31) (.c (.d true (.int .i64 1)))}, {i := .mv 31 (.t 64)}] []))))
def c_traces_walk : C :=
(.seq (.rg 0 false [] [{i := .box 3 0 (.t 0) 6}, {i := .box 4 1 (.t 1) 3}, {i := .mv 6 (.c (.d true (.int .i64 0)))}] [])
 (.seq .skip (.seq (.seq (.rg 1 false [] [{i := .load 14 (.t 3) 6}, {i := .load 15 (.t 4) 3}, {i := .call 16 k_traces_Check [(.t 14), (.t 15)] none}, {i := .mv 7 (.t 16)}] [])
 (.seq (.rg 2 false [] [{i := .mv 17 (.t 7)}, {i := .bin 18 .neq (.t 17) (.c (.d true (.int .i64 0)))}] [])
 (.cond (.t 18) (.seq (.rg 3 false [] [{i := .mv 19 (.t 7)}, {i := .mv 6 (.t 19)}] [])
 .ret) .skip)))
 (.seq (.rg 4 false [] [{i := .fad 20 (.t 4) 0 0}, {i := .load 21 (.t 20) 0}, {i := .len 22 (.t 21)}, {i := .mks 23 2 1 (.t 22) (.t 22) (.k (.bool false))}, {i := .mv 8 (.t 23)}] [])
 (.seq (.rg 5 false [] [{i := .mv 24 (.t 8)}, {i := .fad 25 (.t 4) 0 0}, {i := .load 26 (.t 25) 0}, {i := .cpy 27 1 (.t 24) (.t 26)}] [])
 (.seq .skip
 (.seq (.seq (.rg 6 false [] [{i := .fad 28 (.t 4) 1 0}, {i := .load 29 (.t 28) 0}, {i := .len 30 (.t 29)}, {i := .mv 31 (.c (.d true (.int .i64 0)))}] [])
 (.block 0 (.loop c_traces_walk_l1)))
 (.seq (.rg 17 false [] [{i := .mv 6 (.c (.d true (.int .i64 0)))}] [])
 .ret))))))))
def n_traces_walk : Fn := ⟨c_traces_walk, [.s 6], none⟩
def c_traces_Witness_1_p1 : C :=
(.rg 1 false [] [{i := .mv 11 (.t 2)}, {i := .mv 12 (.t 11)}, ⟨(.mv 13 (.t 0)), (some (12, true))⟩, ⟨(.fad 14 (.t 4) 1 0), (some (12, true))⟩, ⟨(.load 15 (.t 14) 0), (some (12, true))⟩, ⟨(.len 16 (.t 15)), (some (12, true))⟩, ⟨(.bin 17 .sub (.t 16) (.c (.d true (.int .i64 1)))), (some (12, true))⟩, ⟨(.bin 18 .eql (.t 13) (.t 17)), (some (12, true))⟩, {i := .pick 19 (.t 12) (.t 18) (.c (.d true (.bool false)))}] [])
def c_traces_Witness_1_p2 : C :=
(.seq c_traces_Witness_1_p1
 (.cond (.t 19) (.rg 2 false [] [{i := .mv 20 (.t 3)}, {i := .call 21 k_slices_Index_of_bool [(.t 20), (.c (.d true (.bool true)))] none}, {i := .store (.t 5) (.t 21) 0}] []) .skip))
def c_traces_Witness_1 : C :=
(.seq (.rg 0 false [] [{i := .mv 10 (.c (.d true (.bool false)))}] [])
 (.seq c_traces_Witness_1_p2
 (.seq (.rg 3 false [] [{i := .mv 22 (.t 2)}, {i := .mv 10 (.t 22)}] [])
 .ret)))
def n_traces_Witness_1 : Fn := ⟨c_traces_Witness_1, [.s 10], none⟩
def c_slices_Index_of_bool_l1 : C :=
(.seq (.rg 2 false [] [{i := .bin 9 .lss (.t 8) (.t 7)}] [])
 (.seq (.cond (.t 9) .skip (.exit 0))
 (.seq (.block 1 (.seq (.rg 3 false [] [{i := .mv 10 (.t 8)}, {i := .mv 5 (.t 10)}] [])
 (.seq (.rg 4 false [] [{i := .mv 11 (.t 1)}, {i := .mv 12 (.t 0)}, {i := .mv 13 (.t 5)}, {i := .ix 14 (.t 12) (.t 13) 1}, {i := .load 15 (.t 14) 0}, {i := .beq 16 false (.t 11) (.t 15)}] [])
 (.cond (.t 16) (.seq (.rg 5 false [] [{i := .mv 17 (.t 5)}, {i := .mv 4 (.t 17)}] [])
 .ret) .skip))))
 (.rg 6 false [] [{i := .bin 18 .add (.t 8) (.c (.d true (.int .i64 1)))}, {i := .mv 8 (.t 18)}] []))))
def c_slices_Index_of_bool : C :=
(.seq (.rg 0 false [] [{i := .mv 4 (.c (.d true (.int .i64 0)))}] [])
 (.seq (.seq (.rg 1 false [] [{i := .mv 6 (.t 0)}, {i := .len 7 (.t 6)}, {i := .mv 8 (.c (.d true (.int .i64 0)))}] [])
 (.block 0 (.loop c_slices_Index_of_bool_l1)))
 (.seq (.rg 7 false [] [{i := .mv 4 (.c (.d true (.int .i64 (-1))))}] [])
 .ret)))
def n_slices_Index_of_bool : Fn := ⟨c_slices_Index_of_bool, [.s 4], (some [false, false])⟩
def c_queue_Push_l1 : C :=
(.seq (.rg 10 false [] [{i := .bin 26 .lss (.t 25) (.t 24)}] [])
 (.seq (.cond (.t 26) .skip (.exit 0))
 (.seq (.block 1 (.seq (.rg 11 false [.kill 1 2] [{i := .mv 27 (.t 25)}, {i := .ix 28 (.t 23) (.t 25) 2}, {i := .load 29 (.t 28) 3}, {i := .alloc 9 1 [.k (.int .i64 0), .k (.int .i64 0)]}, {i := .mv 8 (.t 27)}, {i := .store (.t 9) (.t 29) 3}] [])
 (.seq (.rg 12 false [] [{i := .load 30 (.t 3) 3}, {i := .load 31 (.t 9) 3}, {i := .call 32 k_queue_order [(.t 30), (.t 31)] none}, {i := .bin 33 .lss (.t 32) (.c (.d true (.int .i64 0)))}] [])
 (.cond (.t 33) (.seq (.rg 13 false [] [{i := .mv 34 (.t 8)}, {i := .mv 7 (.t 34)}] [])
 (.exit 0)) .skip))))
 (.rg 14 false [] [{i := .bin 35 .add (.t 25) (.c (.d true (.int .i64 1)))}, {i := .mv 25 (.t 35)}] []))))
def c_queue_Push : C :=
(.seq (.rg 0 false [] [{i := .box 3 0 (.t 1) 3}, {i := .mv 4 (.c (.nil 2))}, {i := .mv 5 (.c (.d true (.int .i64 0)))}] [])
 (.seq .skip (.seq (.seq (.rg 1 false [] [{i := .mv 10 (.t 0)}, {i := .call 11 k_queue_Check [(.t 10)] none}, {i := .mv 6 (.t 11)}] [])
 (.seq (.rg 2 false [] [{i := .mv 12 (.t 6)}, {i := .bin 13 .neq (.t 12) (.c (.d true (.int .i64 0)))}] [])
 (.cond (.t 13) (.seq (.rg 3 false [] [{i := .mv 14 (.t 6)}, {i := .mv 4 (.c (.nil 2))}, {i := .mv 5 (.t 14)}] [])
 .ret) .skip)))
 (.seq (.seq (.rg 4 false [] [{i := .load 15 (.t 3) 3}, {i := .call 16 k_queue_may [(.t 15)] none}, {i := .un 17 .not (.t 16)}] [])
 (.cond (.t 17) (.seq (.rg 5 false [] [{i := .mv 4 (.c (.nil 2))}, {i := .mv 5 (.c (.d true (.int .i64 2)))}] [])
 .ret) .skip))
 (.seq (.seq (.rg 6 false [] [{i := .mv 18 (.t 0)}, {i := .len 19 (.t 18)}, {i := .bin 20 .eql (.t 19) (.c (.d true (.int .i64 1000)))}] [])
 (.cond (.t 20) (.seq (.rg 7 false [] [{i := .mv 4 (.c (.nil 2))}, {i := .mv 5 (.c (.d true (.int .i64 4)))}] [])
 .ret) .skip))
 (.seq (.rg 8 false [] [{i := .mv 21 (.t 0)}, {i := .len 22 (.t 21)}, {i := .mv 7 (.t 22)}] [])
 (.seq .skip
 (.seq (.seq (.rg 9 false [] [{i := .mv 23 (.t 0)}, {i := .len 24 (.t 23)}, {i := .mv 25 (.c (.d true (.int .i64 0)))}] [])
 (.block 0 (.loop c_queue_Push_l1)))
 (.seq (.rg 15 true [] [{i := .mv 36 (.t 0)}, {i := .call 37 k_slices_Clone_of_api_Wait [(.t 36)] (some 40)}, {i := .mv 38 (.t 7)}, {i := .load 39 (.t 3) 3}, {i := .bsl 40 2 2 1 (.k (.agg [(.int .i64 0), (.int .i64 0)])) [(0, (.t 39))]}, {i := .call 41 k_slices_Insert_of_api_Wait [(.t 37), (.t 38), (.t 40)] (some 44)}, {i := .mv 4 (.t 41)}, {i := .mv 5 (.c (.d true (.int .i64 0)))}] [[0, 2, 3, 1, 4, 5, 6, 7], [0, 2, 3, 4, 1, 5, 6, 7]])
 .ret)))))))))
def n_queue_Push : Fn := ⟨c_queue_Push, [.s 4, .s 5], (some [false, false])⟩
def c_queue_Pop : C :=
(.seq (.rg 0 false [] [{i := .alloc 2 0 [.k (.int .i64 0), .k (.int .i64 0)]}, {i := .mv 3 (.c (.nil 2))}, {i := .mv 4 (.c (.d true (.int .i64 0)))}] [])
 (.seq (.seq (.rg 1 false [] [{i := .mv 6 (.t 0)}, {i := .call 7 k_queue_Check [(.t 6)] none}, {i := .mv 5 (.t 7)}] [])
 (.seq (.rg 2 false [] [{i := .mv 8 (.t 5)}, {i := .bin 9 .neq (.t 8) (.c (.d true (.int .i64 0)))}] [])
 (.cond (.t 9) (.seq (.rg 3 false [] [{i := .bld 10 [.k (.int .i64 0), .k (.int .i64 0)] []}, {i := .mv 11 (.t 5)}, {i := .store (.t 2) (.t 10) 3}, {i := .mv 3 (.c (.nil 2))}, {i := .mv 4 (.t 11)}] [])
 .ret) .skip)))
 (.seq (.seq (.rg 4 false [] [{i := .mv 12 (.t 0)}, {i := .len 13 (.t 12)}, {i := .bin 14 .eql (.t 13) (.c (.d true (.int .i64 0)))}] [])
 (.cond (.t 14) (.seq (.rg 5 false [] [{i := .bld 15 [.k (.int .i64 0), .k (.int .i64 0)] []}, {i := .store (.t 2) (.t 15) 3}, {i := .mv 3 (.c (.nil 2))}, {i := .mv 4 (.c (.d true (.int .i64 6)))}] [])
 .ret) .skip))
 (.seq (.rg 6 true [] [{i := .mv 16 (.t 0)}, {i := .ix 17 (.t 16) (.c (.d true (.int .i64 0))) 2}, {i := .load 18 (.t 17) 3}, {i := .mv 19 (.t 0)}, {i := .slc 20 2 (.t 19) (some (.c (.d true (.int .i64 1)))) none none}, {i := .call 21 k_slices_Clone_of_api_Wait [(.t 20)] none}, {i := .store (.t 2) (.t 18) 3}, {i := .mv 3 (.t 21)}, {i := .mv 4 (.c (.d true (.int .i64 0)))}] [[0, 1, 3, 4, 5, 2, 6, 7, 8], [0, 3, 4, 5, 1, 2, 6, 7, 8]])
 .ret))))
def n_queue_Pop : Fn := ⟨c_queue_Pop, [.c 2 3, .s 3, .s 4], (some [false])⟩
def c_ref13_Lit_p1 : C :=
(.rg 1 false [] [{i := .mv 5 (.t 1)}, {i := .bin 6 .geq (.t 5) (.c (.d true (.int .i64 2)))}, {i := .mv 7 (.t 6)}, ⟨(.mv 8 (.t 1)), (some (7, true))⟩, ⟨(.mv 9 (.t 0)), (some (7, true))⟩, ⟨(.bin 10 .mul (.c (.d true (.int .i64 2))) (.t 9)), (some (7, true))⟩, ⟨(.bin 11 .add (.t 10) (.c (.d true (.int .i64 1)))), (some (7, true))⟩, ⟨(.bin 12 .leq (.t 8) (.t 11)), (some (7, true))⟩, {i := .pick 13 (.t 7) (.t 12) (.c (.d true (.bool false)))}, {i := .mv 4 (.t 13)}] [])
def c_ref13_Lit : C :=
(.seq (.rg 0 false [] [{i := .mv 4 (.c (.d true (.bool false)))}] [])
 (.seq c_ref13_Lit_p1
 .ret))
def n_ref13_Lit : Fn := ⟨c_ref13_Lit, [.s 4], (some [false, false])⟩
def c_queue_chain_1_l1 : C :=
(.seq (.seq (.rg 0 false [] [{i := .load 4 (.t 1) 0}, {i := .bin 5 .geq (.t 4) (.c (.d true (.int .i64 0)))}] [])
 (.cond (.t 5) .skip (.exit 0)))
 (.seq (.block 1 (.seq (.rg 2 false [] [{i := .mv 11 (.t 0)}, {i := .load 12 (.t 1) 0}, {i := .callv 13 (.t 11) [(.t 12)] none}, {i := .un 14 .not (.t 13)}] [])
 (.cond (.t 14) .ret .skip)))
 (.rg 1 false [] [{i := .load 6 (.t 2) 0}, {i := .load 7 (.t 1) 0}, {i := .ix 8 (.t 6) (.t 7) 3}, {i := .fad 9 (.t 8) 2 0}, {i := .load 10 (.t 9) 0}, {i := .store (.t 1) (.t 10) 0}] [])))
def c_queue_chain_1 : C :=
(.block 0 (.loop c_queue_chain_1_l1))
def n_queue_chain_1 : Fn := ⟨c_queue_chain_1, [], none⟩
def c_clause_Check_p1 : C :=
(.rg 1 false [] [{i := .mv 7 (.t 0)}, {i := .bin 8 .lss (.t 7) (.c (.d true (.int .i64 0)))}, {i := .mv 9 (.t 8)}, ⟨(.mv 10 (.t 0)), (some (9, false))⟩, ⟨(.bin 11 .gtr (.t 10) (.c (.d true (.int .i64 4000)))), (some (9, false))⟩, {i := .pick 12 (.t 9) (.c (.d true (.bool true))) (.t 11)}] [])
def c_clause_Check_p2 : C :=
(.rg 6 false [] [{i := .mv 20 (.t 0)}, {i := .mv 21 (.t 6)}, {i := .call 22 k_clause_known [(.t 20), (.t 21)] none}, {i := .un 23 .not (.t 22)}, {i := .mv 24 (.t 23)}, ⟨(.mv 25 (.t 5)), (some (24, false))⟩, ⟨(.bin 26 .gtr (.t 25) (.c (.d true (.int .i64 0)))), (some (24, false))⟩, ⟨(.mv 27 (.t 26)), (some (24, false))⟩, ⟨(.mv 28 (.t 6)), (some (27, true))⟩, ⟨(.mv 29 (.t 1)), (some (27, true))⟩, ⟨(.mv 30 (.t 5)), (some (27, true))⟩, ⟨(.bin 31 .sub (.t 30) (.c (.d true (.int .i64 1)))), (some (27, true))⟩, ⟨(.ix 32 (.t 29) (.t 31) 1), (some (27, true))⟩, ⟨(.load 33 (.t 32) 0), (some (27, true))⟩, ⟨(.bin 34 .leq (.t 28) (.t 33)), (some (27, true))⟩, ⟨(.mv 35 (.t 34)), (some (27, true))⟩, ⟨(.mv 36 (.t 6)), (some (35, false))⟩, ⟨(.bin 37 .quo (.t 36) (.c (.d true (.int .i64 2)))), (some (35, false))⟩, ⟨(.mv 38 (.t 1)), (some (35, false))⟩, ⟨(.mv 39 (.t 5)), (some (35, false))⟩, ⟨(.bin 40 .sub (.t 39) (.c (.d true (.int .i64 1)))), (some (35, false))⟩, ⟨(.ix 41 (.t 38) (.t 40) 1), (some (35, false))⟩, ⟨(.load 42 (.t 41) 0), (some (35, false))⟩, ⟨(.bin 43 .quo (.t 42) (.c (.d true (.int .i64 2)))), (some (35, false))⟩, ⟨(.bin 44 .eql (.t 37) (.t 43)), (some (35, false))⟩, ⟨(.pick 45 (.t 35) (.c (.d true (.bool true))) (.t 44)), (some (27, true))⟩, ⟨(.pick 46 (.t 27) (.t 45) (.c (.d true (.bool false)))), (some (24, false))⟩, {i := .pick 47 (.t 24) (.c (.d true (.bool true))) (.t 46)}] [])
def c_clause_Check_l1 : C :=
(.seq (.rg 4 false [] [{i := .bin 16 .lss (.t 15) (.t 14)}] [])
 (.seq (.cond (.t 16) .skip (.exit 0))
 (.seq (.block 1 (.seq (.rg 5 false [] [{i := .mv 17 (.t 15)}, {i := .ix 18 (.t 13) (.t 15) 1}, {i := .load 19 (.t 18) 0}, {i := .mv 5 (.t 17)}, {i := .mv 6 (.t 19)}] [])
 (.seq c_clause_Check_p2
 (.cond (.t 47) (.seq (.rg 7 false [] [{i := .mv 4 (.c (.d true (.int .i64 8)))}] [])
 .ret) .skip))))
 (.rg 8 false [] [{i := .bin 48 .add (.t 15) (.c (.d true (.int .i64 1)))}, {i := .mv 15 (.t 48)}] []))))
def c_clause_Check : C :=
(.seq (.rg 0 false [] [{i := .mv 4 (.c (.d true (.int .i64 0)))}] [])
 (.seq (.seq c_clause_Check_p1
 (.cond (.t 12) (.seq (.rg 2 false [] [{i := .mv 4 (.c (.d true (.int .i64 2)))}] [])
 .ret) .skip))
 (.seq (.seq (.rg 3 false [] [{i := .mv 13 (.t 1)}, {i := .len 14 (.t 13)}, {i := .mv 15 (.c (.d true (.int .i64 0)))}] [])
 (.block 0 (.loop c_clause_Check_l1)))
 (.seq (.rg 9 false [] [{i := .mv 4 (.c (.d true (.int .i64 0)))}] [])
 .ret))))
def n_clause_Check : Fn := ⟨c_clause_Check, [.s 4], (some [false, false])⟩
def c_slices_AppendSeq_of_int_r1 : C :=
.rfun (.t 6) [7]
 (.rg 2 false [] [{i := .mv 5 (.t 7)}] [])
 (.block 1 (.rg 3 false [] [{i := .load 8 (.t 2) 0}, {i := .mv 9 (.t 5)}, {i := .bsl 10 1 1 1 (.k (.int .i64 0)) [(0, (.t 9))]}, {i := .app 11 2 1 (.t 8) (.t 10)}, {i := .store (.t 2) (.t 11) 0}] []))
def c_slices_AppendSeq_of_int : C :=
(.seq (.rg 0 false [.nrw 0 30] [{i := .box 2 0 (.t 0) 0}, {i := .mv 4 (.c (.nil 1))}] [])
 (.seq (.seq (.rg 1 false [] [{i := .mv 6 (.t 1)}] [])
 (.block 0 c_slices_AppendSeq_of_int_r1))
 (.seq (.rg 4 false [] [{i := .load 12 (.t 2) 0}, {i := .mv 4 (.t 12)}] [])
 .ret)))
def n_slices_AppendSeq_of_int : Fn := ⟨c_slices_AppendSeq_of_int, [.s 4], none⟩
def c_gates_starts : C :=
(.seq (.rg 0 false [] [{i := .box 1 0 (.t 0) 6}, {i := .alloc 2 1 [.k (.int .i64 0), .k (.int .i64 0), .k (.int .i64 0), .k (.int .i64 0)]}] [])
 (.seq (.rg 1 false [] [{i := .fad 5 (.t 1) 0 0}, {i := .load 6 (.t 5) 0}, {i := .bin 7 .add (.c (.d true (.int .i64 1))) (.t 6)}, {i := .mv 3 (.t 7)}] [])
 (.seq (.rg 2 false [] [{i := .mv 8 (.t 3)}, {i := .fad 9 (.t 1) 1 0}, {i := .load 10 (.t 9) 0}, {i := .len 11 (.t 10)}, {i := .bin 12 .add (.t 8) (.t 11)}, {i := .mv 4 (.t 12)}] [])
 (.seq (.rg 3 false [] [{i := .mv 13 (.t 3)}, {i := .mv 14 (.t 4)}, {i := .mv 15 (.t 4)}, {i := .fad 16 (.t 1) 2 0}, {i := .load 17 (.t 16) 0}, {i := .len 18 (.t 17)}, {i := .bin 19 .add (.t 15) (.t 18)}, {i := .bld 20 [.k (.int .i64 0), .k (.int .i64 0), .k (.int .i64 0), .k (.int .i64 0)] [(0, 0, (.c (.d true (.int .i64 1)))), (1, 0, (.t 13)), (2, 0, (.t 14)), (3, 0, (.t 19))]}, {i := .store (.t 2) (.t 20) 5}] [])
 .ret))))
def n_gates_starts : Fn := ⟨c_gates_starts, [.c 2 5], (some [false])⟩
def c_gates_Check_1_p1 : C :=
(.rg 1 false [] [{i := .mv 4 (.t 0)}, {i := .bin 5 .lss (.t 4) (.c (.d true (.int .i64 0)))}, {i := .mv 6 (.t 5)}, ⟨(.mv 7 (.t 0)), (some (6, false))⟩, ⟨(.bin 8 .shr (.t 7) (.c (.d true (.int .u64 1)))), (some (6, false))⟩, ⟨(.ixb 9 (.t 1) (.c (.d true (.int .i64 3))) 4 1), (some (6, false))⟩, ⟨(.load 10 (.t 9) 0), (some (6, false))⟩, ⟨(.bin 11 .geq (.t 8) (.t 10)), (some (6, false))⟩, {i := .pick 12 (.t 6) (.c (.d true (.bool true))) (.t 11)}, {i := .mv 3 (.t 12)}] [])
def c_gates_Check_1 : C :=
(.seq (.rg 0 false [] [{i := .mv 3 (.c (.d true (.bool false)))}] [])
 (.seq c_gates_Check_1_p1
 .ret))
def n_gates_Check_1 : Fn := ⟨c_gates_Check_1, [.s 3], none⟩
def c_gates_Check_2_p1 : C :=
(.rg 1 false [] [{i := .load 4 (.t 1) 0}, {i := .fad 5 (.t 2) 0 0}, {i := .load 6 (.t 5) 0}, {i := .callv 7 (.t 4) [(.t 6)] none}, {i := .mv 8 (.t 7)}, ⟨(.fad 9 (.t 2) 1 0), (some (8, false))⟩, ⟨(.load 10 (.t 9) 0), (some (8, false))⟩, ⟨(.bin 11 .lss (.t 10) (.c (.d true (.int .i64 0)))), (some (8, false))⟩, {i := .pick 12 (.t 8) (.c (.d true (.bool true))) (.t 11)}, {i := .mv 13 (.t 12)}, ⟨(.fad 14 (.t 2) 1 0), (some (13, false))⟩, ⟨(.load 15 (.t 14) 0), (some (13, false))⟩, ⟨(.bin 16 .gtr (.t 15) (.c (.d true (.int .i64 2)))), (some (13, false))⟩, {i := .pick 17 (.t 13) (.c (.d true (.bool true))) (.t 16)}, {i := .mv 3 (.t 17)}] [])
def c_gates_Check_2 : C :=
(.seq (.rg 0 false [] [{i := .box 2 0 (.t 0) 3}, {i := .mv 3 (.c (.d true (.bool false)))}] [])
 (.seq c_gates_Check_2_p1
 .ret))
def n_gates_Check_2 : Fn := ⟨c_gates_Check_2, [.s 3], none⟩
def c_slices_ContainsFunc_of_int_p1 : C :=
(.rg 1 false [] [{i := .mv 5 (.t 0)}, {i := .mv 6 (.t 1)}, {i := .call 7 k_slices_IndexFunc_of_int [(.t 5), (.t 6)] none}, {i := .bin 8 .geq (.t 7) (.c (.d true (.int .i64 0)))}, {i := .mv 4 (.t 8)}] [])
def c_slices_ContainsFunc_of_int : C :=
(.seq (.rg 0 false [] [{i := .mv 4 (.c (.d true (.bool false)))}] [])
 (.seq c_slices_ContainsFunc_of_int_p1
 .ret))
def n_slices_ContainsFunc_of_int : Fn := ⟨c_slices_ContainsFunc_of_int, [.s 4], none⟩
def c_slices_ContainsFunc_of_api_Latch_p1 : C :=
(.rg 1 false [] [{i := .mv 5 (.t 0)}, {i := .mv 6 (.t 1)}, {i := .call 7 k_slices_IndexFunc_of_api_Latch [(.t 5), (.t 6)] none}, {i := .bin 8 .geq (.t 7) (.c (.d true (.int .i64 0)))}, {i := .mv 4 (.t 8)}] [])
def c_slices_ContainsFunc_of_api_Latch : C :=
(.seq (.rg 0 false [] [{i := .mv 4 (.c (.d true (.bool false)))}] [])
 (.seq c_slices_ContainsFunc_of_api_Latch_p1
 .ret))
def n_slices_ContainsFunc_of_api_Latch : Fn := ⟨c_slices_ContainsFunc_of_api_Latch, [.s 4], none⟩
def c_values_All_p1 : C :=
(.rg 4 false [] [{i := .mv 21 (.t 1)}, {i := .len 22 (.t 21)}, {i := .fad 23 (.t 3) 1 0}, {i := .load 24 (.t 23) 0}, {i := .len 25 (.t 24)}, {i := .bin 26 .neq (.t 22) (.t 25)}, {i := .mv 27 (.t 26)}, ⟨(.mv 28 (.t 2)), (some (27, false))⟩, ⟨(.len 29 (.t 28)), (some (27, false))⟩, ⟨(.fad 30 (.t 3) 0 0), (some (27, false))⟩, ⟨(.load 31 (.t 30) 0), (some (27, false))⟩, ⟨(.bin 32 .neq (.t 29) (.t 31)), (some (27, false))⟩, {i := .pick 33 (.t 27) (.c (.d true (.bool true))) (.t 32)}] [])
def c_values_All_p2 : C :=
(.block 1 (.seq (.rg 12 false [] [{i := .mv 64 (.t 62)}, {i := .mv 12 (.t 64)}] [])
 (.rg 13 false [] [{i := .mv 65 (.t 10)}, {i := .mv 66 (.t 11)}, {i := .mv 67 (.t 12)}, {i := .bin 68 .add (.t 66) (.t 67)}, {i := .mv 69 (.t 10)}, {i := .fad 70 (.t 3) 2 0}, {i := .load 71 (.t 70) 0}, {i := .mv 72 (.t 12)}, {i := .ix 73 (.t 71) (.t 72) 2}, {i := .fad 74 (.t 73) 0 0}, {i := .load 75 (.t 74) 0}, {i := .call 76 k_values_of [(.t 69), (.t 75)] none}, {i := .mv 77 (.t 76)}, ⟨(.mv 78 (.t 10)), (some (77, true))⟩, ⟨(.fad 79 (.t 3) 2 0), (some (77, true))⟩, ⟨(.load 80 (.t 79) 0), (some (77, true))⟩, ⟨(.mv 81 (.t 12)), (some (77, true))⟩, ⟨(.ix 82 (.t 80) (.t 81) 2), (some (77, true))⟩, ⟨(.fad 83 (.t 82) 1 0), (some (77, true))⟩, ⟨(.load 84 (.t 83) 0), (some (77, true))⟩, ⟨(.call 85 k_values_of [(.t 78), (.t 84)] none), (some (77, true))⟩, {i := .pick 86 (.t 77) (.t 85) (.c (.d true (.bool false)))}, {i := .ix 87 (.t 65) (.t 68) 1}, {i := .store (.t 87) (.t 86) 0}] [])))
def c_values_All_l1 : C :=
(.seq (.rg 11 false [] [{i := .bin 63 .lss (.t 62) (.t 61)}] [])
 (.seq (.cond (.t 63) .skip (.exit 0))
 (.seq c_values_All_p2
 (.rg 14 false [] [{i := .bin 88 .add (.t 62) (.c (.d true (.int .i64 1)))}, {i := .mv 62 (.t 88)}] []))))
def c_values_All : C :=
(.seq (.rg 0 false [] [{i := .box 3 0 (.t 0) 6}, {i := .mv 6 (.c (.nil 1))}, {i := .mv 7 (.c (.d true (.int .i64 0)))}] [])
 (.seq (.rg 1 false [] [{i := .load 14 (.t 3) 6}, {i := .call 15 k_gates_Vars [(.t 14)] none}, {i := .mv 13 (.t 15)}, {i := .xt 16 (.t 13) 0}, {i := .xt 17 (.t 13) 1}, {i := .mv 8 (.t 16)}, {i := .mv 9 (.t 17)}] [])
 (.seq (.seq (.rg 2 false [] [{i := .mv 18 (.t 9)}, {i := .bin 19 .neq (.t 18) (.c (.d true (.int .i64 0)))}] [])
 (.cond (.t 19) (.seq (.rg 3 false [] [{i := .mv 20 (.t 9)}, {i := .mv 6 (.c (.nil 1))}, {i := .mv 7 (.t 20)}] [])
 .ret) .skip))
 (.seq (.seq c_values_All_p1
 (.cond (.t 33) (.seq (.rg 5 false [] [{i := .mv 6 (.c (.nil 1))}, {i := .mv 7 (.c (.d true (.int .i64 2)))}] [])
 .ret) .skip))
 (.seq (.rg 6 false [] [{i := .mv 34 (.t 8)}, {i := .bin 35 .add (.t 34) (.c (.d true (.int .i64 1)))}, {i := .mks 36 1 1 (.t 35) (.t 35) (.k (.bool false))}, {i := .mv 10 (.t 36)}] [])
 (.seq (.rg 7 false [] [{i := .mv 37 (.t 10)}, {i := .slc 38 1 (.t 37) (some (.c (.d true (.int .i64 1)))) none none}, {i := .mv 39 (.t 2)}, {i := .cpy 40 1 (.t 38) (.t 39)}, {i := .bin 41 .add (.c (.d true (.int .i64 1))) (.t 40)}, {i := .mv 11 (.t 41)}] [])
 (.seq (.rg 8 false [] [{i := .mv 42 (.t 10)}, {i := .mv 43 (.t 11)}, {i := .mv 44 (.t 11)}, {i := .mv 45 (.t 1)}, {i := .len 46 (.t 45)}, {i := .bin 47 .add (.t 44) (.t 46)}, {i := .mv 48 (.t 11)}, {i := .mv 49 (.t 1)}, {i := .len 50 (.t 49)}, {i := .bin 51 .add (.t 48) (.t 50)}, {i := .slc 52 1 (.t 42) (some (.t 43)) (some (.t 47)) (some (.t 51))}, {i := .mv 53 (.t 1)}, {i := .cpy 54 1 (.t 52) (.t 53)}] [])
 (.seq (.rg 9 false [] [{i := .mv 55 (.t 11)}, {i := .mv 56 (.t 1)}, {i := .len 57 (.t 56)}, {i := .bin 58 .add (.t 55) (.t 57)}, {i := .mv 11 (.t 58)}] [])
 (.seq (.seq (.rg 10 false [] [{i := .fad 59 (.t 3) 2 0}, {i := .load 60 (.t 59) 0}, {i := .len 61 (.t 60)}, {i := .mv 62 (.c (.d true (.int .i64 0)))}] [])
 (.block 0 (.loop c_values_All_l1)))
 (.seq (.rg 15 false [] [{i := .mv 89 (.t 10)}, {i := .mv 6 (.t 89)}, {i := .mv 7 (.c (.d true (.int .i64 0)))}] [])
 .ret))))))))))
def n_values_All : Fn := ⟨c_values_All, [.s 6, .s 7], (some [false, false, false])⟩
def c_values_of : C :=
(.seq (.rg 0 false [] [{i := .mv 4 (.c (.d true (.bool false)))}] [])
 (.seq (.rg 1 false [] [{i := .mv 5 (.t 0)}, {i := .mv 6 (.t 1)}, {i := .bin 7 .shr (.t 6) (.c (.d true (.int .u64 1)))}, {i := .ix 8 (.t 5) (.t 7) 1}, {i := .load 9 (.t 8) 0}, {i := .mv 10 (.t 1)}, {i := .bin 11 .and (.t 10) (.c (.d true (.int .i64 1)))}, {i := .bin 12 .eql (.t 11) (.c (.d true (.int .i64 1)))}, {i := .beq 13 true (.t 9) (.t 12)}, {i := .mv 4 (.t 13)}] [])
 .ret))
def n_values_of : Fn := ⟨c_values_of, [.s 4], (some [false, false])⟩
def c_ref04_Frame_p1 : C :=
(.block 1 (.rg 6 false [(.kill 4 5)] [{i := .mv 22 (.t 7)}, {i := .mv 23 (.t 7)}, {i := .fad 24 (.t 3) 2 0}, {i := .load 25 (.t 24) 0}, {i := .mv 26 (.t 8)}, {i := .ix 27 (.t 25) (.t 26) 2}, {i := .fad 28 (.t 27) 0 0}, {i := .load 29 (.t 28) 0}, {i := .call 30 k_ref04_Value [(.t 23), (.t 29)] none}, {i := .mv 31 (.t 30)}, ⟨(.mv 32 (.t 7)), (some (31, true))⟩, ⟨(.fad 33 (.t 3) 2 0), (some (31, true))⟩, ⟨(.load 34 (.t 33) 0), (some (31, true))⟩, ⟨(.mv 35 (.t 8)), (some (31, true))⟩, ⟨(.ix 36 (.t 34) (.t 35) 2), (some (31, true))⟩, ⟨(.fad 37 (.t 36) 1 0), (some (31, true))⟩, ⟨(.load 38 (.t 37) 0), (some (31, true))⟩, ⟨(.call 39 k_ref04_Value [(.t 32), (.t 38)] none), (some (31, true))⟩, {i := .pick 40 (.t 31) (.t 39) (.c (.d true (.bool false)))}, {i := .bsl 41 4 1 1 (.k (.bool false)) [(0, (.t 40))]}, {i := .app 42 5 1 (.t 22) (.t 41)}, {i := .mv 7 (.t 42)}] []))
def c_ref04_Frame_l1 : C :=
(.seq (.seq (.rg 4 false [] [{i := .mv 15 (.t 8)}, {i := .fad 16 (.t 3) 2 0}, {i := .load 17 (.t 16) 0}, {i := .len 18 (.t 17)}, {i := .bin 19 .lss (.t 15) (.t 18)}] [])
 (.cond (.t 19) .skip (.exit 0)))
 (.seq c_ref04_Frame_p1
 (.rg 5 false [] [{i := .mv 20 (.t 8)}, {i := .bin 21 .add (.t 20) (.c (.d true (.int .i64 1)))}, {i := .mv 8 (.t 21)}] [])))
def c_ref04_Frame : C :=
(.seq (.rg 0 false [] [{i := .box 3 0 (.t 0) 6}, {i := .mv 6 (.c (.nil 1))}] [])
 (.seq (.rg 1 false [] [{i := .bsl 9 1 1 1 (.k (.bool false)) [(0, (.c (.d true (.bool false))))]}, {i := .mv 10 (.t 2)}, {i := .app 11 2 1 (.t 9) (.t 10)}, {i := .mv 7 (.t 11)}] [])
 (.seq (.rg 2 false [] [{i := .mv 12 (.t 7)}, {i := .mv 13 (.t 1)}, {i := .app 14 3 1 (.t 12) (.t 13)}, {i := .mv 7 (.t 14)}] [])
 (.seq (.seq (.rg 3 false [] [{i := .mv 8 (.c (.d true (.int .i64 0)))}] [])
 (.block 0 (.loop c_ref04_Frame_l1)))
 (.seq (.rg 7 false [] [{i := .mv 43 (.t 7)}, {i := .mv 6 (.t 43)}] [])
 .ret)))))
def n_ref04_Frame : Fn := ⟨c_ref04_Frame, [.s 6], (some [false, false, false])⟩
def c_ref04_Value : C :=
(.seq (.rg 0 false [] [{i := .mv 4 (.c (.d true (.bool false)))}] [])
 (.seq (.rg 1 false [] [{i := .mv 5 (.t 0)}, {i := .mv 6 (.t 1)}, {i := .bin 7 .quo (.t 6) (.c (.d true (.int .i64 2)))}, {i := .ix 8 (.t 5) (.t 7) 1}, {i := .load 9 (.t 8) 0}, {i := .mv 10 (.t 1)}, {i := .bin 11 .rem (.t 10) (.c (.d true (.int .i64 2)))}, {i := .bin 12 .eql (.t 11) (.c (.d true (.int .i64 1)))}, {i := .beq 13 true (.t 9) (.t 12)}, {i := .mv 4 (.t 13)}] [])
 .ret))
def n_ref04_Value : Fn := ⟨c_ref04_Value, [.s 4], (some [false, false])⟩
def c_traces_Check_p1 : C :=
(.rg 7 false [] [{i := .fad 17 (.t 3) 1 0}, {i := .load 18 (.t 17) 0}, {i := .len 19 (.t 18)}, {i := .bin 20 .eql (.t 19) (.c (.d true (.int .i64 0)))}, {i := .mv 21 (.t 20)}, ⟨(.fad 22 (.t 3) 0 0), (some (21, false))⟩, ⟨(.load 23 (.t 22) 0), (some (21, false))⟩, ⟨(.len 24 (.t 23)), (some (21, false))⟩, ⟨(.fad 25 (.t 2) 1 0), (some (21, false))⟩, ⟨(.load 26 (.t 25) 0), (some (21, false))⟩, ⟨(.len 27 (.t 26)), (some (21, false))⟩, ⟨(.bin 28 .neq (.t 24) (.t 27)), (some (21, false))⟩, {i := .pick 29 (.t 21) (.c (.d true (.bool true))) (.t 28)}, {i := .mv 30 (.t 29)}, ⟨(.load 31 (.t 2) 6), (some (30, false))⟩, ⟨(.fad 32 (.t 3) 0 0), (some (30, false))⟩, ⟨(.load 33 (.t 32) 0), (some (30, false))⟩, ⟨(.call 34 k_traces_starts [(.t 31), (.t 33)] none), (some (30, false))⟩, ⟨(.un 35 .not (.t 34)), (some (30, false))⟩, {i := .pick 36 (.t 30) (.c (.d true (.bool true))) (.t 35)}, {i := .mv 37 (.t 36)}, ⟨(.fad 38 (.t 3) 1 0), (some (37, false))⟩, ⟨(.load 39 (.t 38) 0), (some (37, false))⟩, ⟨(.mv 40 (.t 6)), (some (37, false))⟩, ⟨(.call 41 k_slices_ContainsFunc_of_Lbool [(.t 39), (.t 40)] none), (some (37, false))⟩, {i := .pick 42 (.t 37) (.c (.d true (.bool true))) (.t 41)}] [])
def c_traces_Check : C :=
(.seq (.rg 0 false [] [{i := .box 2 0 (.t 0) 6}, {i := .box 3 1 (.t 1) 3}, {i := .mv 4 (.c (.d true (.int .i64 0)))}] [])
 (.seq (.seq (.rg 1 false [] [{i := .load 7 (.t 2) 6}, {i := .call 8 k_gates_Check [(.t 7)] none}, {i := .mv 5 (.t 8)}] [])
 (.seq (.rg 2 false [] [{i := .mv 9 (.t 5)}, {i := .bin 10 .neq (.t 9) (.c (.d true (.int .i64 0)))}] [])
 (.cond (.t 10) (.seq (.rg 3 false [] [{i := .mv 11 (.t 5)}, {i := .mv 4 (.t 11)}] [])
 .ret) .skip)))
 (.seq (.seq (.rg 4 false [] [{i := .fad 12 (.t 3) 1 0}, {i := .load 13 (.t 12) 0}, {i := .len 14 (.t 13)}, {i := .bin 15 .gtr (.t 14) (.c (.d true (.int .i64 100)))}] [])
 (.cond (.t 15) (.seq (.rg 5 false [] [{i := .mv 4 (.c (.d true (.int .i64 4)))}] [])
 .ret) .skip))
 (.seq (.rg 6 false [] [{i := .fn 16 k_traces_Check_1 [(.t 2)]}, {i := .mv 6 (.t 16)}] [])
 (.seq (.seq c_traces_Check_p1
 (.cond (.t 42) (.seq (.rg 8 false [] [{i := .mv 4 (.c (.d true (.int .i64 8)))}] [])
 .ret) .skip))
 (.seq (.rg 9 false [] [{i := .mv 4 (.c (.d true (.int .i64 0)))}] [])
 .ret))))))
def n_traces_Check : Fn := ⟨c_traces_Check, [.s 4], (some [false, false])⟩
def c_values_Next : C :=
(.seq (.rg 0 false [] [{i := .box 3 0 (.t 0) 6}, {i := .mv 6 (.c (.nil 1))}, {i := .mv 7 (.c (.d true (.int .i64 0)))}] [])
 (.seq (.rg 1 false [] [{i := .load 8 (.t 3) 6}, {i := .mv 9 (.t 1)}, {i := .mv 10 (.t 2)}, {i := .fad 11 (.t 3) 1 0}, {i := .load 12 (.t 11) 0}, {i := .len 13 (.t 12)}, {i := .fn 14 k_values_Next_1 [(.t 3)]}, {i := .call 15 k_values_list [(.t 8), (.t 9), (.t 10), (.t 13), (.t 14)] none}, {i := .xt 16 (.t 15) 0}, {i := .xt 17 (.t 15) 1}, {i := .mv 6 (.t 16)}, {i := .mv 7 (.t 17)}] [])
 .ret))
def n_values_Next : Fn := ⟨c_values_Next, [.s 6, .s 7], (some [false, false, false])⟩
def c_queue_Check_l1 : C :=
(.seq (.rg 4 false [] [{i := .bin 11 .lss (.t 10) (.t 9)}] [])
 (.seq (.cond (.t 11) .skip (.exit 0))
 (.seq (.block 1 (.seq (.rg 5 false [(.kill 0 1)] [{i := .ix 12 (.t 8) (.t 10) 2}, {i := .load 13 (.t 12) 3}, {i := .alloc 4 0 [(.k (.int .i64 0)), (.k (.int .i64 0))]}, {i := .store (.t 4) (.t 13) 3}] [])
 (.seq (.rg 6 false [] [{i := .load 14 (.t 4) 3}, {i := .call 15 k_queue_may [(.t 14)] none}, {i := .un 16 .not (.t 15)}] [])
 (.cond (.t 16) (.seq (.rg 7 false [] [{i := .mv 2 (.c (.d true (.int .i64 8)))}] [])
 .ret) .skip))))
 (.rg 8 false [] [{i := .bin 17 .add (.t 10) (.c (.d true (.int .i64 1)))}, {i := .mv 10 (.t 17)}] []))))
def c_queue_Check_p1 : C :=
(.rg 9 false [] [{i := .mv 18 (.t 0)}, {i := .call 19 k_slices_IsSortedFunc_of_api_Wait [(.t 18), (.c (.cl k_queue_order []))] none}, {i := .un 20 .not (.t 19)}] [])
def c_queue_Check : C :=
(.seq (.rg 0 false [] [{i := .mv 2 (.c (.d true (.int .i64 0)))}] [])
 (.seq (.seq (.rg 1 false [] [{i := .mv 5 (.t 0)}, {i := .len 6 (.t 5)}, {i := .bin 7 .gtr (.t 6) (.c (.d true (.int .i64 1000)))}] [])
 (.cond (.t 7) (.seq (.rg 2 false [] [{i := .mv 2 (.c (.d true (.int .i64 4)))}] [])
 .ret) .skip))
 (.seq (.seq (.rg 3 false [] [{i := .mv 8 (.t 0)}, {i := .len 9 (.t 8)}, {i := .mv 10 (.c (.d true (.int .i64 0)))}] [])
 (.block 0 (.loop c_queue_Check_l1)))
 (.seq (.seq c_queue_Check_p1
 (.cond (.t 20) (.seq (.rg 10 false [] [{i := .mv 2 (.c (.d true (.int .i64 8)))}] [])
 .ret) .skip))
 (.seq (.rg 11 false [] [{i := .mv 2 (.c (.d true (.int .i64 0)))}] [])
 .ret)))))
def n_queue_Check : Fn := ⟨c_queue_Check, [.s 2], (some [false])⟩
def c_queue_may_p1 : C :=
(.rg 1 false [] [{i := .fad 3 (.t 1) 0 0}, {i := .load 4 (.t 3) 0}, {i := .bin 5 .geq (.t 4) (.c (.d true (.int .i64 0)))}, {i := .mv 6 (.t 5)}, ⟨(.fad 7 (.t 1) 0 0), (some (6, true))⟩, ⟨(.load 8 (.t 7) 0), (some (6, true))⟩, ⟨(.bin 9 .leq (.t 8) (.c (.d true (.int .i64 60)))), (some (6, true))⟩, {i := .pick 10 (.t 6) (.t 9) (.c (.d true (.bool false)))}, {i := .mv 11 (.t 10)}, ⟨(.fad 12 (.t 1) 1 0), (some (11, true))⟩, ⟨(.load 13 (.t 12) 0), (some (11, true))⟩, ⟨(.bin 14 .geq (.t 13) (.c (.d true (.int .i64 0)))), (some (11, true))⟩, {i := .pick 15 (.t 11) (.t 14) (.c (.d true (.bool false)))}, {i := .mv 16 (.t 15)}, ⟨(.fad 17 (.t 1) 1 0), (some (16, true))⟩, ⟨(.load 18 (.t 17) 0), (some (16, true))⟩, ⟨(.bin 19 .lss (.t 18) (.c (.d true (.int .i64 1000)))), (some (16, true))⟩, {i := .pick 20 (.t 16) (.t 19) (.c (.d true (.bool false)))}, {i := .mv 2 (.t 20)}] [])
def c_queue_may : C :=
(.seq (.rg 0 false [] [{i := .box 1 0 (.t 0) 3}, {i := .mv 2 (.c (.d true (.bool false)))}] [])
 (.seq c_queue_may_p1
 .ret))
def n_queue_may : Fn := ⟨c_queue_may, [.s 2], (some [false])⟩
def c_queue_order : C :=
(.seq (.rg 0 false [] [{i := .box 2 0 (.t 0) 3}, {i := .box 3 1 (.t 1) 3}, {i := .mv 4 (.c (.d true (.int .i64 0)))}] [])
 (.seq (.rg 1 true [] [{i := .fad 5 (.t 2) 0 0}, {i := .load 6 (.t 5) 0}, {i := .fad 7 (.t 3) 0 0}, {i := .load 8 (.t 7) 0}, {i := .call 9 k_cmp_Compare_of_int [(.t 6), (.t 8)] none}, {i := .fad 10 (.t 2) 1 0}, {i := .load 11 (.t 10) 0}, {i := .fad 12 (.t 3) 1 0}, {i := .load 13 (.t 12) 0}, {i := .call 14 k_cmp_Compare_of_int [(.t 11), (.t 13)] none}, {i := .bsl 15 2 1 2 (.k (.int .i64 0)) [(0, (.t 9)), (1, (.t 14))]}, {i := .call 16 k_cmp_Or_of_int [(.t 15)] none}, {i := .mv 4 (.t 16)}] [])
 .ret))
def n_queue_order : Fn := ⟨c_queue_order, [.s 4], none⟩
def c_clause_known_p1 : C :=
(.rg 1 false [] [{i := .mv 5 (.t 1)}, {i := .bin 6 .geq (.t 5) (.c (.d true (.int .i64 2)))}, {i := .mv 7 (.t 6)}, ⟨(.mv 8 (.t 1)), (some (7, true))⟩, ⟨(.bin 9 .quo (.t 8) (.c (.d true (.int .i64 2)))), (some (7, true))⟩, ⟨(.mv 10 (.t 0)), (some (7, true))⟩, ⟨(.bin 11 .leq (.t 9) (.t 10)), (some (7, true))⟩, {i := .pick 12 (.t 7) (.t 11) (.c (.d true (.bool false)))}, {i := .mv 4 (.t 12)}] [])
def c_clause_known : C :=
(.seq (.rg 0 false [] [{i := .mv 4 (.c (.d true (.bool false)))}] [])
 (.seq c_clause_known_p1
 .ret))
def n_clause_known : Fn := ⟨c_clause_known, [.s 4], (some [false, false])⟩
def c_slices_IndexFunc_of_int_l1 : C :=
(.seq (.rg 2 false [] [{i := .bin 9 .lss (.t 8) (.t 7)}] [])
 (.seq (.cond (.t 9) .skip (.exit 0))
 (.seq (.block 1 (.seq (.rg 3 false [] [{i := .mv 10 (.t 8)}, {i := .mv 5 (.t 10)}] [])
 (.seq (.rg 4 false [] [{i := .mv 11 (.t 1)}, {i := .mv 12 (.t 0)}, {i := .mv 13 (.t 5)}, {i := .ix 14 (.t 12) (.t 13) 1}, {i := .load 15 (.t 14) 0}, {i := .callv 16 (.t 11) [(.t 15)] none}] [])
 (.cond (.t 16) (.seq (.rg 5 false [] [{i := .mv 17 (.t 5)}, {i := .mv 4 (.t 17)}] [])
 .ret) .skip))))
 (.rg 6 false [] [{i := .bin 18 .add (.t 8) (.c (.d true (.int .i64 1)))}, {i := .mv 8 (.t 18)}] []))))
def c_slices_IndexFunc_of_int : C :=
(.seq (.rg 0 false [] [{i := .mv 4 (.c (.d true (.int .i64 0)))}] [])
 (.seq (.seq (.rg 1 false [] [{i := .mv 6 (.t 0)}, {i := .len 7 (.t 6)}, {i := .mv 8 (.c (.d true (.int .i64 0)))}] [])
 (.block 0 (.loop c_slices_IndexFunc_of_int_l1)))
 (.seq (.rg 7 false [] [{i := .mv 4 (.c (.d true (.int .i64 (-1))))}] [])
 .ret)))
def n_slices_IndexFunc_of_int : Fn := ⟨c_slices_IndexFunc_of_int, [.s 4], none⟩
def c_slices_IndexFunc_of_api_Latch_l1 : C :=
(.seq (.rg 2 false [] [{i := .bin 9 .lss (.t 8) (.t 7)}] [])
 (.seq (.cond (.t 9) .skip (.exit 0))
 (.seq (.block 1 (.seq (.rg 3 false [] [{i := .mv 10 (.t 8)}, {i := .mv 5 (.t 10)}] [])
 (.seq (.rg 4 false [] [{i := .mv 11 (.t 1)}, {i := .mv 12 (.t 0)}, {i := .mv 13 (.t 5)}, {i := .ix 14 (.t 12) (.t 13) 2}, {i := .load 15 (.t 14) 3}, {i := .callv 16 (.t 11) [(.t 15)] none}] [])
 (.cond (.t 16) (.seq (.rg 5 false [] [{i := .mv 17 (.t 5)}, {i := .mv 4 (.t 17)}] [])
 .ret) .skip))))
 (.rg 6 false [] [{i := .bin 18 .add (.t 8) (.c (.d true (.int .i64 1)))}, {i := .mv 8 (.t 18)}] []))))
def c_slices_IndexFunc_of_api_Latch : C :=
(.seq (.rg 0 false [] [{i := .mv 4 (.c (.d true (.int .i64 0)))}] [])
 (.seq (.seq (.rg 1 false [] [{i := .mv 6 (.t 0)}, {i := .len 7 (.t 6)}, {i := .mv 8 (.c (.d true (.int .i64 0)))}] [])
 (.block 0 (.loop c_slices_IndexFunc_of_api_Latch_l1)))
 (.seq (.rg 7 false [] [{i := .mv 4 (.c (.d true (.int .i64 (-1))))}] [])
 .ret)))
def n_slices_IndexFunc_of_api_Latch : Fn := ⟨c_slices_IndexFunc_of_api_Latch, [.s 4], none⟩
def c_gates_Vars : C :=
(.seq (.rg 0 false [] [{i := .box 1 0 (.t 0) 6}, {i := .mv 2 (.c (.d true (.int .i64 0)))}, {i := .mv 3 (.c (.d true (.int .i64 0)))}] [])
 (.seq (.seq (.rg 1 false [] [{i := .load 5 (.t 1) 6}, {i := .call 6 k_gates_Check [(.t 5)] none}, {i := .mv 4 (.t 6)}] [])
 (.seq (.rg 2 false [] [{i := .mv 7 (.t 4)}, {i := .bin 8 .neq (.t 7) (.c (.d true (.int .i64 0)))}] [])
 (.cond (.t 8) (.seq (.rg 3 false [] [{i := .mv 9 (.t 4)}, {i := .mv 2 (.c (.d true (.int .i64 0)))}, {i := .mv 3 (.t 9)}] [])
 .ret) .skip)))
 (.seq (.rg 4 false [] [{i := .load 10 (.t 1) 6}, {i := .call 11 k_gates_starts [(.t 10)] none}, {i := .ixa 12 (.t 11) (.c (.d true (.int .i64 3))) 4 0}, {i := .bin 13 .sub (.t 12) (.c (.d true (.int .i64 1)))}, {i := .mv 2 (.t 13)}, {i := .mv 3 (.c (.d true (.int .i64 0)))}] [])
 .ret)))
def n_gates_Vars : Fn := ⟨c_gates_Vars, [.s 2, .s 3], (some [false])⟩
def c_traces_Check_1 : C :=
(.seq (.rg 0 false [] [{i := .mv 3 (.c (.d true (.bool false)))}] [])
 (.seq (.rg 1 false [] [{i := .mv 4 (.t 0)}, {i := .len 5 (.t 4)}, {i := .fad 6 (.t 1) 0 0}, {i := .load 7 (.t 6) 0}, {i := .bin 8 .neq (.t 5) (.t 7)}, {i := .mv 3 (.t 8)}] [])
 .ret))
def n_traces_Check_1 : Fn := ⟨c_traces_Check_1, [.s 3], none⟩
def c_slices_ContainsFunc_of_Lbool_p1 : C :=
(.rg 1 false [] [{i := .mv 5 (.t 0)}, {i := .mv 6 (.t 1)}, {i := .call 7 k_slices_IndexFunc_of_Lbool [(.t 5), (.t 6)] none}, {i := .bin 8 .geq (.t 7) (.c (.d true (.int .i64 0)))}, {i := .mv 4 (.t 8)}] [])
def c_slices_ContainsFunc_of_Lbool : C :=
(.seq (.rg 0 false [] [{i := .mv 4 (.c (.d true (.bool false)))}] [])
 (.seq c_slices_ContainsFunc_of_Lbool_p1
 .ret))
def n_slices_ContainsFunc_of_Lbool : Fn := ⟨c_slices_ContainsFunc_of_Lbool, [.s 4], none⟩
def c_values_Next_1 : C :=
(.seq (.rg 0 false [] [{i := .mv 3 (.c (.d true (.int .i64 0)))}] [])
 (.seq (.rg 1 false [] [{i := .fad 4 (.t 1) 1 0}, {i := .load 5 (.t 4) 0}, {i := .mv 6 (.t 0)}, {i := .ix 7 (.t 5) (.t 6) 2}, {i := .fad 8 (.t 7) 0 0}, {i := .load 9 (.t 8) 0}, {i := .mv 3 (.t 9)}] [])
 .ret))
def n_values_Next_1 : Fn := ⟨c_values_Next_1, [.s 3], none⟩
def c_slices_IsSortedFunc_of_api_Wait_l1 : C :=
(.seq (.seq (.rg 2 false [] [{i := .mv 9 (.t 5)}, {i := .bin 10 .gtr (.t 9) (.c (.d true (.int .i64 0)))}] [])
 (.cond (.t 10) .skip (.exit 0)))
 (.seq (.block 1 (.seq (.rg 4 true [] [{i := .mv 13 (.t 1)}, {i := .mv 14 (.t 0)}, {i := .mv 15 (.t 5)}, {i := .ix 16 (.t 14) (.t 15) 2}, {i := .load 17 (.t 16) 3}, {i := .mv 18 (.t 0)}, {i := .mv 19 (.t 5)}, {i := .bin 20 .sub (.t 19) (.c (.d true (.int .i64 1)))}, {i := .ix 21 (.t 18) (.t 20) 2}, {i := .load 22 (.t 21) 3}, {i := .callv 23 (.t 13) [(.t 17), (.t 22)] none}, {i := .bin 24 .lss (.t 23) (.c (.d true (.int .i64 0)))}] [])
 (.cond (.t 24) (.seq (.rg 5 false [] [{i := .mv 4 (.c (.d true (.bool false)))}] [])
 .ret) .skip)))
 (.rg 3 false [] [{i := .mv 11 (.t 5)}, {i := .bin 12 .sub (.t 11) (.c (.d true (.int .i64 1)))}, {i := .mv 5 (.t 12)}] [])))
def c_slices_IsSortedFunc_of_api_Wait : C :=
(.seq (.rg 0 false [] [{i := .mv 4 (.c (.d true (.bool false)))}] [])
 (.seq (.seq (.rg 1 false [] [{i := .mv 6 (.t 0)}, {i := .len 7 (.t 6)}, {i := .bin 8 .sub (.t 7) (.c (.d true (.int .i64 1)))}, {i := .mv 5 (.t 8)}] [])
 (.block 0 (.loop c_slices_IsSortedFunc_of_api_Wait_l1)))
 (.seq (.rg 6 false [] [{i := .mv 4 (.c (.d true (.bool true)))}] [])
 .ret)))
def n_slices_IsSortedFunc_of_api_Wait : Fn := ⟨c_slices_IsSortedFunc_of_api_Wait, [.s 4], none⟩
def c_cmp_Or_of_int_l1 : C :=
(.seq (.rg 3 false [] [{i := .bin 9 .lss (.t 8) (.t 7)}] [])
 (.seq (.cond (.t 9) .skip (.exit 0))
 (.seq (.block 1 (.seq (.rg 4 false [] [{i := .ix 10 (.t 6) (.t 8) 1}, {i := .load 11 (.t 10) 0}, {i := .mv 5 (.t 11)}] [])
 (.seq (.rg 5 false [] [{i := .mv 12 (.t 5)}, {i := .mv 13 (.t 3)}, {i := .bin 14 .neq (.t 12) (.t 13)}] [])
 (.cond (.t 14) (.seq (.rg 6 false [] [{i := .mv 15 (.t 5)}, {i := .mv 2 (.t 15)}] [])
 .ret) .skip))))
 (.rg 7 false [] [{i := .bin 16 .add (.t 8) (.c (.d true (.int .i64 1)))}, {i := .mv 8 (.t 16)}] []))))
def c_cmp_Or_of_int : C :=
(.seq (.rg 0 false [] [{i := .mv 2 (.c (.d true (.int .i64 0)))}] [])
 (.seq (.rg 1 false [] [{i := .mv 3 (.c (.d true (.int .i64 0)))}] [])
 (.seq (.seq (.rg 2 false [] [{i := .mv 6 (.t 0)}, {i := .len 7 (.t 6)}, {i := .mv 8 (.c (.d true (.int .i64 0)))}] [])
 (.block 0 (.loop c_cmp_Or_of_int_l1)))
 (.seq (.rg 8 false [] [{i := .mv 17 (.t 3)}, {i := .mv 2 (.t 17)}] [])
 .ret))))
def n_cmp_Or_of_int : Fn := ⟨c_cmp_Or_of_int, [.s 2], (some [false])⟩
def c_cmp_Compare_of_int : C :=
(.seq (.rg 0 false [] [{i := .mv 4 (.c (.d true (.int .i64 0)))}] [])
 (.seq (.rg 1 false [] [{i := .mv 7 (.t 0)}, {i := .call 8 k_cmp_isNaN_of_int [(.t 7)] none}, {i := .mv 5 (.t 8)}] [])
 (.seq (.rg 2 false [] [{i := .mv 9 (.t 1)}, {i := .call 10 k_cmp_isNaN_of_int [(.t 9)] none}, {i := .mv 6 (.t 10)}] [])
 (.seq (.seq (.rg 3 false [] [{i := .mv 11 (.t 5)}] [])
 (.cond (.t 11) (.seq (.seq (.rg 4 false [] [{i := .mv 12 (.t 6)}] [])
 (.cond (.t 12) (.seq (.rg 5 false [] [{i := .mv 4 (.c (.d true (.int .i64 0)))}] [])
 .ret) .skip))
 (.seq (.rg 6 false [] [{i := .mv 4 (.c (.d true (.int .i64 (-1))))}] [])
 .ret)) .skip))
 (.seq (.seq (.rg 7 false [] [{i := .mv 13 (.t 6)}] [])
 (.cond (.t 13) (.seq (.rg 8 false [] [{i := .mv 4 (.c (.d true (.int .i64 1)))}] [])
 .ret) .skip))
 (.seq (.seq (.rg 9 false [] [{i := .mv 14 (.t 0)}, {i := .mv 15 (.t 1)}, {i := .bin 16 .lss (.t 14) (.t 15)}] [])
 (.cond (.t 16) (.seq (.rg 10 false [] [{i := .mv 4 (.c (.d true (.int .i64 (-1))))}] [])
 .ret) .skip))
 (.seq (.seq (.rg 11 false [] [{i := .mv 17 (.t 0)}, {i := .mv 18 (.t 1)}, {i := .bin 19 .gtr (.t 17) (.t 18)}] [])
 (.cond (.t 19) (.seq (.rg 12 false [] [{i := .mv 4 (.c (.d true (.int .i64 1)))}] [])
 .ret) .skip))
 (.seq (.rg 13 false [] [{i := .mv 4 (.c (.d true (.int .i64 0)))}] [])
 .ret))))))))
def n_cmp_Compare_of_int : Fn := ⟨c_cmp_Compare_of_int, [.s 4], (some [false, false])⟩
def c_slices_IndexFunc_of_Lbool_l1 : C :=
(.seq (.rg 2 false [] [{i := .bin 9 .lss (.t 8) (.t 7)}] [])
 (.seq (.cond (.t 9) .skip (.exit 0))
 (.seq (.block 1 (.seq (.rg 3 false [] [{i := .mv 10 (.t 8)}, {i := .mv 5 (.t 10)}] [])
 (.seq (.rg 4 false [] [{i := .mv 11 (.t 1)}, {i := .mv 12 (.t 0)}, {i := .mv 13 (.t 5)}, {i := .ix 14 (.t 12) (.t 13) 1}, {i := .load 15 (.t 14) 0}, {i := .callv 16 (.t 11) [(.t 15)] none}] [])
 (.cond (.t 16) (.seq (.rg 5 false [] [{i := .mv 17 (.t 5)}, {i := .mv 4 (.t 17)}] [])
 .ret) .skip))))
 (.rg 6 false [] [{i := .bin 18 .add (.t 8) (.c (.d true (.int .i64 1)))}, {i := .mv 8 (.t 18)}] []))))
def c_slices_IndexFunc_of_Lbool : C :=
(.seq (.rg 0 false [] [{i := .mv 4 (.c (.d true (.int .i64 0)))}] [])
 (.seq (.seq (.rg 1 false [] [{i := .mv 6 (.t 0)}, {i := .len 7 (.t 6)}, {i := .mv 8 (.c (.d true (.int .i64 0)))}] [])
 (.block 0 (.loop c_slices_IndexFunc_of_Lbool_l1)))
 (.seq (.rg 7 false [] [{i := .mv 4 (.c (.d true (.int .i64 (-1))))}] [])
 .ret)))
def n_slices_IndexFunc_of_Lbool : Fn := ⟨c_slices_IndexFunc_of_Lbool, [.s 4], none⟩
def c_cmp_isNaN_of_int : C :=
(.seq (.rg 0 false [] [{i := .mv 2 (.c (.d true (.bool false)))}] [])
 (.seq (.rg 1 false [] [{i := .mv 3 (.t 0)}, {i := .mv 4 (.t 0)}, {i := .bin 5 .neq (.t 3) (.t 4)}, {i := .mv 2 (.t 5)}] [])
 .ret))
def n_cmp_isNaN_of_int : Fn := ⟨c_cmp_isNaN_of_int, [.s 2], (some [false])⟩
def fnList : List (Nat × Fn) := [(k_law38_QueueWitness, n_law38_QueueWitness),
 (k_law38_alive, n_law38_alive),
 (k_ref36_Great, n_ref36_Great),
 (k_ref02_Check, n_ref02_Check),
 (k_ref38_Right, n_ref38_Right),
 (k_queue_Trace, n_queue_Trace),
 (k_queue_Chain, n_queue_Chain),
 (k_ref04_Same, n_ref04_Same),
 (k_traces_First, n_traces_First),
 (k_values_Props, n_values_Props),
 (k_law38_so, n_law38_so),
 (k_ref06_All, n_ref06_All),
 (k_traces_Witness, n_traces_Witness),
 (k_law38_pushed, n_law38_pushed),
 (k_law38_popped, n_law38_popped),
 (k_ref38_Same, n_ref38_Same),
 (k_ref13_Same, n_ref13_Same),
 (k_ref02_Great, n_ref02_Great),
 (k_ref02_Size, n_ref02_Size),
 (k_ref02_literals, n_ref02_literals),
 (k_ref13_Valid, n_ref13_Valid),
 (k_queue_chain, n_queue_chain),
 (k_queue_Right, n_queue_Right),
 (k_slices_Collect_of_int, n_slices_Collect_of_int),
 (k_gates_Check, n_gates_Check),
 (k_traces_starts, n_traces_starts),
 (k_values_list, n_values_list),
 (k_values_Props_1, n_values_Props_1),
 (k_values_Props_2, n_values_Props_2),
 (k_slices_Contains_of_bool, n_slices_Contains_of_bool),
 (k_ref37_In, n_ref37_In),
 (k_ref04_Holds, n_ref04_Holds),
 (k_ref04_Bad, n_ref04_Bad),
 (k_ref04_After, n_ref04_After),
 (k_traces_walk, n_traces_walk),
 (k_traces_Witness_1, n_traces_Witness_1),
 (k_slices_Index_of_bool, n_slices_Index_of_bool),
 (k_queue_Push, n_queue_Push),
 (k_queue_Pop, n_queue_Pop),
 (k_ref13_Lit, n_ref13_Lit),
 (k_queue_chain_1, n_queue_chain_1),
 (k_clause_Check, n_clause_Check),
 (k_slices_AppendSeq_of_int, n_slices_AppendSeq_of_int),
 (k_gates_starts, n_gates_starts),
 (k_gates_Check_1, n_gates_Check_1),
 (k_gates_Check_2, n_gates_Check_2),
 (k_slices_ContainsFunc_of_int, n_slices_ContainsFunc_of_int),
 (k_slices_ContainsFunc_of_api_Latch, n_slices_ContainsFunc_of_api_Latch),
 (k_values_All, n_values_All),
 (k_values_of, n_values_of),
 (k_ref04_Frame, n_ref04_Frame),
 (k_ref04_Value, n_ref04_Value),
 (k_traces_Check, n_traces_Check),
 (k_values_Next, n_values_Next),
 (k_queue_Check, n_queue_Check),
 (k_queue_may, n_queue_may),
 (k_queue_order, n_queue_order),
 (k_clause_known, n_clause_known),
 (k_slices_IndexFunc_of_int, n_slices_IndexFunc_of_int),
 (k_slices_IndexFunc_of_api_Latch, n_slices_IndexFunc_of_api_Latch),
 (k_gates_Vars, n_gates_Vars),
 (k_traces_Check_1, n_traces_Check_1),
 (k_slices_ContainsFunc_of_Lbool, n_slices_ContainsFunc_of_Lbool),
 (k_values_Next_1, n_values_Next_1),
 (k_slices_IsSortedFunc_of_api_Wait, n_slices_IsSortedFunc_of_api_Wait),
 (k_cmp_Or_of_int, n_cmp_Or_of_int),
 (k_cmp_Compare_of_int, n_cmp_Compare_of_int),
 (k_slices_IndexFunc_of_Lbool, n_slices_IndexFunc_of_Lbool),
 (k_cmp_isNaN_of_int, n_cmp_isNaN_of_int)]
def fnOf (f : Nat) : Option Fn := lk fnList f
theorem fn_law38_QueueWitness : fnOf k_law38_QueueWitness = some n_law38_QueueWitness := by kernel_rfl
theorem fn_law38_alive : fnOf k_law38_alive = some n_law38_alive := by kernel_rfl
theorem fn_ref36_Great : fnOf k_ref36_Great = some n_ref36_Great := by kernel_rfl
theorem fn_ref02_Check : fnOf k_ref02_Check = some n_ref02_Check := by kernel_rfl
theorem fn_ref38_Right : fnOf k_ref38_Right = some n_ref38_Right := by kernel_rfl
theorem fn_queue_Trace : fnOf k_queue_Trace = some n_queue_Trace := by kernel_rfl
theorem fn_queue_Chain : fnOf k_queue_Chain = some n_queue_Chain := by kernel_rfl
theorem fn_ref04_Same : fnOf k_ref04_Same = some n_ref04_Same := by kernel_rfl
theorem fn_traces_First : fnOf k_traces_First = some n_traces_First := by kernel_rfl
theorem fn_values_Props : fnOf k_values_Props = some n_values_Props := by kernel_rfl
theorem fn_law38_so : fnOf k_law38_so = some n_law38_so := by kernel_rfl
theorem fn_ref06_All : fnOf k_ref06_All = some n_ref06_All := by kernel_rfl
theorem fn_traces_Witness : fnOf k_traces_Witness = some n_traces_Witness := by kernel_rfl
theorem fn_law38_pushed : fnOf k_law38_pushed = some n_law38_pushed := by kernel_rfl
theorem fn_law38_popped : fnOf k_law38_popped = some n_law38_popped := by kernel_rfl
theorem fn_ref38_Same : fnOf k_ref38_Same = some n_ref38_Same := by kernel_rfl
theorem fn_ref13_Same : fnOf k_ref13_Same = some n_ref13_Same := by kernel_rfl
theorem fn_ref02_Great : fnOf k_ref02_Great = some n_ref02_Great := by kernel_rfl
theorem fn_ref02_Size : fnOf k_ref02_Size = some n_ref02_Size := by kernel_rfl
theorem fn_ref02_literals : fnOf k_ref02_literals = some n_ref02_literals := by kernel_rfl
theorem fn_ref13_Valid : fnOf k_ref13_Valid = some n_ref13_Valid := by kernel_rfl
theorem fn_queue_chain : fnOf k_queue_chain = some n_queue_chain := by kernel_rfl
theorem fn_queue_Right : fnOf k_queue_Right = some n_queue_Right := by kernel_rfl
theorem fn_slices_Collect_of_int : fnOf k_slices_Collect_of_int = some n_slices_Collect_of_int := by kernel_rfl
theorem fn_gates_Check : fnOf k_gates_Check = some n_gates_Check := by kernel_rfl
theorem fn_traces_starts : fnOf k_traces_starts = some n_traces_starts := by kernel_rfl
theorem fn_values_list : fnOf k_values_list = some n_values_list := by kernel_rfl
theorem fn_values_Props_1 : fnOf k_values_Props_1 = some n_values_Props_1 := by kernel_rfl
theorem fn_values_Props_2 : fnOf k_values_Props_2 = some n_values_Props_2 := by kernel_rfl
theorem fn_slices_Contains_of_bool : fnOf k_slices_Contains_of_bool = some n_slices_Contains_of_bool := by kernel_rfl
theorem fn_ref37_In : fnOf k_ref37_In = some n_ref37_In := by kernel_rfl
theorem fn_ref04_Holds : fnOf k_ref04_Holds = some n_ref04_Holds := by kernel_rfl
theorem fn_ref04_Bad : fnOf k_ref04_Bad = some n_ref04_Bad := by kernel_rfl
theorem fn_ref04_After : fnOf k_ref04_After = some n_ref04_After := by kernel_rfl
theorem fn_traces_walk : fnOf k_traces_walk = some n_traces_walk := by kernel_rfl
theorem fn_traces_Witness_1 : fnOf k_traces_Witness_1 = some n_traces_Witness_1 := by kernel_rfl
theorem fn_slices_Index_of_bool : fnOf k_slices_Index_of_bool = some n_slices_Index_of_bool := by kernel_rfl
theorem fn_queue_Push : fnOf k_queue_Push = some n_queue_Push := by kernel_rfl
theorem fn_queue_Pop : fnOf k_queue_Pop = some n_queue_Pop := by kernel_rfl
theorem fn_ref13_Lit : fnOf k_ref13_Lit = some n_ref13_Lit := by kernel_rfl
theorem fn_queue_chain_1 : fnOf k_queue_chain_1 = some n_queue_chain_1 := by kernel_rfl
theorem fn_clause_Check : fnOf k_clause_Check = some n_clause_Check := by kernel_rfl
theorem fn_slices_AppendSeq_of_int : fnOf k_slices_AppendSeq_of_int = some n_slices_AppendSeq_of_int := by kernel_rfl
theorem fn_gates_starts : fnOf k_gates_starts = some n_gates_starts := by kernel_rfl
theorem fn_gates_Check_1 : fnOf k_gates_Check_1 = some n_gates_Check_1 := by kernel_rfl
theorem fn_gates_Check_2 : fnOf k_gates_Check_2 = some n_gates_Check_2 := by kernel_rfl
theorem fn_slices_ContainsFunc_of_int : fnOf k_slices_ContainsFunc_of_int = some n_slices_ContainsFunc_of_int := by kernel_rfl
theorem fn_slices_ContainsFunc_of_api_Latch : fnOf k_slices_ContainsFunc_of_api_Latch = some n_slices_ContainsFunc_of_api_Latch := by kernel_rfl
theorem fn_values_All : fnOf k_values_All = some n_values_All := by kernel_rfl
theorem fn_values_of : fnOf k_values_of = some n_values_of := by kernel_rfl
theorem fn_ref04_Frame : fnOf k_ref04_Frame = some n_ref04_Frame := by kernel_rfl
theorem fn_ref04_Value : fnOf k_ref04_Value = some n_ref04_Value := by kernel_rfl
theorem fn_traces_Check : fnOf k_traces_Check = some n_traces_Check := by kernel_rfl
theorem fn_values_Next : fnOf k_values_Next = some n_values_Next := by kernel_rfl
theorem fn_queue_Check : fnOf k_queue_Check = some n_queue_Check := by kernel_rfl
theorem fn_queue_may : fnOf k_queue_may = some n_queue_may := by kernel_rfl
theorem fn_queue_order : fnOf k_queue_order = some n_queue_order := by kernel_rfl
theorem fn_clause_known : fnOf k_clause_known = some n_clause_known := by kernel_rfl
theorem fn_slices_IndexFunc_of_int : fnOf k_slices_IndexFunc_of_int = some n_slices_IndexFunc_of_int := by kernel_rfl
theorem fn_slices_IndexFunc_of_api_Latch : fnOf k_slices_IndexFunc_of_api_Latch = some n_slices_IndexFunc_of_api_Latch := by kernel_rfl
theorem fn_gates_Vars : fnOf k_gates_Vars = some n_gates_Vars := by kernel_rfl
theorem fn_traces_Check_1 : fnOf k_traces_Check_1 = some n_traces_Check_1 := by kernel_rfl
theorem fn_slices_ContainsFunc_of_Lbool : fnOf k_slices_ContainsFunc_of_Lbool = some n_slices_ContainsFunc_of_Lbool := by kernel_rfl
theorem fn_values_Next_1 : fnOf k_values_Next_1 = some n_values_Next_1 := by kernel_rfl
theorem fn_slices_IsSortedFunc_of_api_Wait : fnOf k_slices_IsSortedFunc_of_api_Wait = some n_slices_IsSortedFunc_of_api_Wait := by kernel_rfl
theorem fn_cmp_Or_of_int : fnOf k_cmp_Or_of_int = some n_cmp_Or_of_int := by kernel_rfl
theorem fn_cmp_Compare_of_int : fnOf k_cmp_Compare_of_int = some n_cmp_Compare_of_int := by kernel_rfl
theorem fn_slices_IndexFunc_of_Lbool : fnOf k_slices_IndexFunc_of_Lbool = some n_slices_IndexFunc_of_Lbool := by kernel_rfl
theorem fn_cmp_isNaN_of_int : fnOf k_cmp_isNaN_of_int = some n_cmp_isNaN_of_int := by kernel_rfl
theorem fn_slices_Clone_of_bool : fnOf k_slices_Clone_of_bool = none := by kernel_rfl
theorem fn_slices_Insert_of_api_Wait : fnOf k_slices_Insert_of_api_Wait = none := by kernel_rfl
theorem fn_slices_Clone_of_api_Wait : fnOf k_slices_Clone_of_api_Wait = none := by kernel_rfl
end Go.Proofs.Ytkhgnkfdpabflab.Vm
