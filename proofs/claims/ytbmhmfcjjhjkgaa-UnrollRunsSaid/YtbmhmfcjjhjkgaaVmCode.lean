/- The functions, as the machine's code. Printed. -/
import Derived.Test.YtbmhmfcjjhjkgaaVmP1
import Derived.KernelRfl
namespace Go.Proofs.Ytbmhmfcjjhjkgaa.Vm
open Go
def k_law23_UnrollRuns : Nat := 10
def k_ref13_SameAll : Nat := 21
def k_ref13_Same : Nat := 30
def k_law23_great : Nat := 31
def k_unroll_Of : Nat := 32
def k_unroll_Free : Nat := 34
def k_ref22_Same : Nat := 36
def k_law23_alive : Nat := 37
def k_ref02_Check : Nat := 38
def k_unroll_Trace : Nat := 43
def k_law23_turns : Nat := 44
def k_ref06_Same : Nat := 45
def k_values_Next : Nat := 46
def k_ref22_Check : Nat := 47
def k_law23_named : Nat := 48
def k_solve_Model : Nat := 49
def k_ref06_Check : Nat := 50
def k_traces_States : Nat := 51
def k_clause_Check : Nat := 58
def k_slices_Clone_of_int : Nat := 62
def k_ref13_Valid : Nat := 64
def k_slices_ContainsFunc_of_int : Nat := 66
def k_ref02_Great : Nat := 69
def k_ref02_Size : Nat := 70
def k_gates_Check : Nat := 79
def k_unroll_made : Nat := 82
def k_ref02_literals : Nat := 84
def k_gates_Vars : Nat := 90
def k_tseitin_Check : Nat := 91
def k_unroll_value : Nat := 92
def k_ref04_Same : Nat := 93
def k_ref06_SameAll : Nat := 94
def k_values_list : Nat := 95
def k_values_Next_1 : Nat := 96
def k_ref13_Vars : Nat := 97
def k_ref15_Wrong : Nat := 98
def k_values_All : Nat := 99
def k_ref22_True : Nat := 100
def k_solve_check : Nat := 101
def k_clause_True : Nat := 102
def k_ref06_Starts : Nat := 103
def k_traces_walk : Nat := 104
def k_traces_States_1 : Nat := 105
def k_clause_known : Nat := 106
def k_ref13_Lit : Nat := 109
def k_slices_IndexFunc_of_int : Nat := 111
def k_gates_starts : Nat := 119
def k_gates_Check_1 : Nat := 120
def k_gates_Check_2 : Nat := 121
def k_slices_ContainsFunc_of_api_Latch : Nat := 122
def k_unroll_frames_frame : Nat := 124
def k_unroll_lit : Nat := 125
def k_slices_Sort_of_int : Nat := 127
def k_slices_Compact_of_int : Nat := 128
def k_values_of : Nat := 132
def k_ref13_Check : Nat := 133
def k_ref13_Truth : Nat := 134
def k_traces_Check : Nat := 135
def k_values_Props : Nat := 136
def k_cmp_Less_of_int : Nat := 137
def k_slices_IndexFunc_of_api_Latch : Nat := 146
def k_unroll_frames_fresh : Nat := 147
def k_unroll_frames_add : Nat := 148
def k_slices_pdqsortOrdered_of_int : Nat := 152
def k_bits_Len : Nat := 153
def k_traces_Check_1 : Nat := 158
def k_traces_starts : Nat := 159
def k_slices_ContainsFunc_of_Lbool : Nat := 160
def k_values_Props_1 : Nat := 161
def k_values_Props_2 : Nat := 162
def k_slices_Contains_of_bool : Nat := 163
def k_cmp_isNaN_of_int : Nat := 164
def k_clause_Make : Nat := 171
def k_slices_insertionSortOrdered_of_int : Nat := 174
def k_slices_heapSortOrdered_of_int : Nat := 175
def k_slices_breakPatternsOrdered_of_int : Nat := 176
def k_slices_choosePivotOrdered_of_int : Nat := 177
def k_slices_reverseRangeOrdered_of_int : Nat := 178
def k_slices_partialInsertionSortOrdered_of_int : Nat := 179
def k_slices_partitionEqualOrdered_of_int : Nat := 180
def k_slices_partitionOrdered_of_int : Nat := 181
def k_bits_Len32 : Nat := 182
def k_bits_Len64 : Nat := 183
def k_slices_IndexFunc_of_Lbool : Nat := 186
def k_slices_Index_of_bool : Nat := 187
def c_law23_UnrollRuns_p1 : C :=
(.rg 2 false [] [{i := .load 17 (.t 2) 6}, {i := .call 18 k_law23_great [(.t 17)] none}, {i := .mv 19 (.t 18)}, ⟨(.load 20 (.t 2) 6), (some (19, false))⟩, ⟨(.call 21 k_ref02_Check [(.t 20)] none), (some (19, false))⟩, ⟨(.bin 22 .neq (.t 21) (.c (.d true (.int .i64 0)))), (some (19, false))⟩, {i := .pick 23 (.t 19) (.c (.d true (.bool true))) (.t 22)}, {i := .mv 24 (.t 23)}, ⟨(.fad 25 (.t 3) 1 0), (some (24, false))⟩, ⟨(.load 26 (.t 25) 0), (some (24, false))⟩, ⟨(.len 27 (.t 26)), (some (24, false))⟩, ⟨(.bin 28 .gtr (.t 27) (.c (.d true (.int .i64 8)))), (some (24, false))⟩, {i := .pick 29 (.t 24) (.c (.d true (.bool true))) (.t 28)}, {i := .mv 30 (.t 29)}, ⟨(.load 31 (.t 2) 6), (some (30, false))⟩, ⟨(.load 32 (.t 3) 3), (some (30, false))⟩, ⟨(.call 33 k_ref06_Check [(.t 31), (.t 32)] none), (some (30, false))⟩, ⟨(.bin 34 .neq (.t 33) (.c (.d true (.int .i64 0)))), (some (30, false))⟩, {i := .pick 35 (.t 30) (.c (.d true (.bool true))) (.t 34)}, {i := .mv 36 (.t 35)}, ⟨(.mv 37 (.t 5)), (some (36, false))⟩, ⟨(.un 38 .not (.t 37)), (some (36, false))⟩, {i := .pick 39 (.t 36) (.c (.d true (.bool true))) (.t 38)}] [])
def c_law23_UnrollRuns_p2 : C :=
(.rg 6 false [] [{i := .mv 55 (.t 7)}, {i := .bin 56 .neq (.t 55) (.c (.d true (.int .i64 0)))}, {i := .mv 57 (.t 56)}, ⟨(.mv 58 (.t 9)), (some (57, false))⟩, ⟨(.bin 59 .neq (.t 58) (.c (.d true (.int .i64 0)))), (some (57, false))⟩, {i := .pick 60 (.t 57) (.c (.d true (.bool true))) (.t 59)}, {i := .mv 61 (.t 60)}, ⟨(.load 62 (.t 6) 4), (some (61, false))⟩, ⟨(.call 63 k_ref22_Check [(.t 62)] none), (some (61, false))⟩, ⟨(.bin 64 .neq (.t 63) (.c (.d true (.int .i64 0)))), (some (61, false))⟩, {i := .pick 65 (.t 61) (.c (.d true (.bool true))) (.t 64)}, {i := .mv 66 (.t 65)}, ⟨(.fad 67 (.t 6) 1 0), (some (66, false))⟩, ⟨(.load 68 (.t 67) 0), (some (66, false))⟩, ⟨(.len 69 (.t 68)), (some (66, false))⟩, ⟨(.fad 70 (.t 3) 1 0), (some (66, false))⟩, ⟨(.load 71 (.t 70) 0), (some (66, false))⟩, ⟨(.len 72 (.t 71)), (some (66, false))⟩, ⟨(.bin 73 .neq (.t 69) (.t 72)), (some (66, false))⟩, {i := .pick 74 (.t 66) (.c (.d true (.bool true))) (.t 73)}, {i := .mv 75 (.t 74)}, ⟨(.mv 76 (.t 8)), (some (75, false))⟩, ⟨(.len 77 (.t 76)), (some (75, false))⟩, ⟨(.fad 78 (.t 3) 1 0), (some (75, false))⟩, ⟨(.load 79 (.t 78) 0), (some (75, false))⟩, ⟨(.len 80 (.t 79)), (some (75, false))⟩, ⟨(.bin 81 .neq (.t 77) (.t 80)), (some (75, false))⟩, {i := .pick 82 (.t 75) (.c (.d true (.bool true))) (.t 81)}] [])
def c_law23_UnrollRuns_p3 : C :=
(.rg 13 false [] [{i := .mv 110 (.t 5)}, {i := .mv 111 (.t 110)}, ⟨(.mv 112 (.t 13)), (some (111, true))⟩, ⟨(.bin 113 .eql (.t 112) (.c (.d true (.int .i64 0)))), (some (111, true))⟩, {i := .pick 114 (.t 111) (.t 113) (.c (.d true (.bool false)))}, {i := .mv 115 (.t 114)}, ⟨(.mv 116 (.t 12)), (some (115, true))⟩, {i := .pick 117 (.t 115) (.t 116) (.c (.d true (.bool false)))}, {i := .mv 118 (.t 117)}, ⟨(.mv 119 (.t 15)), (some (118, true))⟩, ⟨(.bin 120 .eql (.t 119) (.c (.d true (.int .i64 0)))), (some (118, true))⟩, {i := .pick 121 (.t 118) (.t 120) (.c (.d true (.bool false)))}, {i := .mv 122 (.t 121)}, ⟨(.load 123 (.t 14) 3), (some (122, true))⟩, ⟨(.load 124 (.t 3) 3), (some (122, true))⟩, ⟨(.call 125 k_ref06_Same [(.t 123), (.t 124)] none), (some (122, true))⟩, {i := .pick 126 (.t 122) (.t 125) (.c (.d true (.bool false)))}, {i := .mv 4 (.t 126)}] [])
def c_law23_UnrollRuns : C :=
(.seq (.rg 0 false [] [{i := .box 2 0 (.t 0) 6}, {i := .box 3 1 (.t 1) 3}, {i := .mv 4 (.c (.d true (.bool false)))}] [])
 (.seq (.rg 1 false [] [{i := .call 16 k_law23_alive [] none}, {i := .mv 5 (.t 16)}] [])
 (.seq (.seq c_law23_UnrollRuns_p1
 (.cond (.t 39) (.seq (.rg 3 false [] [{i := .mv 40 (.t 5)}, {i := .mv 4 (.t 40)}] [])
 .ret) .skip))
 (.seq (.rg 4 false [] [{i := .load 42 (.t 2) 6}, {i := .fad 43 (.t 3) 1 0}, {i := .load 44 (.t 43) 0}, {i := .len 45 (.t 44)}, {i := .call 46 k_unroll_Of [(.t 42), (.t 45)] none}, {i := .mv 41 (.t 46)}, {i := .xt 47 (.t 41) 0}, {i := .xt 48 (.t 41) 1}, {i := .alloc 6 2 [(.k (.int .i64 0)), (.n 1), (.n 1)]}, {i := .store (.t 6) (.t 47) 4}, {i := .mv 7 (.t 48)}] [])
 (.seq (.rg 5 false [] [{i := .load 50 (.t 2) 6}, {i := .load 51 (.t 3) 3}, {i := .call 52 k_traces_States [(.t 50), (.t 51)] none}, {i := .mv 49 (.t 52)}, {i := .xt 53 (.t 49) 0}, {i := .xt 54 (.t 49) 1}, {i := .mv 8 (.t 53)}, {i := .mv 9 (.t 54)}] [])
 (.seq (.seq c_law23_UnrollRuns_p2
 (.cond (.t 82) (.seq (.rg 7 false [] [{i := .mv 4 (.c (.d true (.bool false)))}] [])
 .ret) .skip))
 (.seq (.rg 8 false [] [{i := .load 84 (.t 2) 6}, {i := .load 85 (.t 6) 4}, {i := .mv 86 (.t 8)}, {i := .fad 87 (.t 3) 1 0}, {i := .load 88 (.t 87) 0}, {i := .call 89 k_law23_named [(.t 84), (.t 85), (.t 86), (.t 88)] none}, {i := .mv 83 (.t 89)}, {i := .xt 90 (.t 83) 0}, {i := .xt 91 (.t 83) 1}, {i := .mv 10 (.t 90)}, {i := .mv 11 (.t 91)}] [])
 (.seq (.seq (.rg 9 false [] [{i := .mv 92 (.t 11)}, {i := .un 93 .not (.t 92)}] [])
 (.cond (.t 93) (.seq (.rg 10 false [] [{i := .mv 4 (.c (.d true (.bool false)))}] [])
 .ret) .skip))
 (.seq (.rg 11 false [] [{i := .fad 95 (.t 6) 0 0}, {i := .load 96 (.t 95) 0}, {i := .fad 97 (.t 6) 2 0}, {i := .load 98 (.t 97) 0}, {i := .mv 99 (.t 10)}, {i := .call 100 k_solve_Model [(.t 96), (.t 98), (.t 99)] none}, {i := .mv 94 (.t 100)}, {i := .xt 101 (.t 94) 0}, {i := .xt 102 (.t 94) 1}, {i := .mv 12 (.t 101)}, {i := .mv 13 (.t 102)}] [])
 (.seq (.rg 12 false [] [{i := .load 104 (.t 2) 6}, {i := .load 105 (.t 6) 4}, {i := .mv 106 (.t 10)}, {i := .call 107 k_unroll_Trace [(.t 104), (.t 105), (.t 106)] none}, {i := .mv 103 (.t 107)}, {i := .xt 108 (.t 103) 0}, {i := .xt 109 (.t 103) 1}, {i := .alloc 14 3 [(.n 1), (.n 1)]}, {i := .store (.t 14) (.t 108) 3}, {i := .mv 15 (.t 109)}] [])
 (.seq c_law23_UnrollRuns_p3
 .ret)))))))))))
def n_law23_UnrollRuns : Fn := ⟨c_law23_UnrollRuns, [.s 4], (some [false, false])⟩
def c_ref13_SameAll_l1 : C :=
(.seq (.seq (.rg 4 false [] [{i := .mv 11 (.t 5)}, {i := .mv 12 (.t 0)}, {i := .len 13 (.t 12)}, {i := .bin 14 .lss (.t 11) (.t 13)}] [])
 (.cond (.t 14) .skip (.exit 0)))
 (.seq (.block 1 (.seq (.rg 6 true [] [{i := .mv 17 (.t 0)}, {i := .mv 18 (.t 5)}, {i := .ix 19 (.t 17) (.t 18) 1}, {i := .load 20 (.t 19) 0}, {i := .mv 21 (.t 1)}, {i := .mv 22 (.t 5)}, {i := .ix 23 (.t 21) (.t 22) 1}, {i := .load 24 (.t 23) 0}, {i := .call 25 k_ref13_Same [(.t 20), (.t 24)] none}, {i := .un 26 .not (.t 25)}] [])
 (.cond (.t 26) (.seq (.rg 7 false [] [{i := .mv 4 (.c (.d true (.bool false)))}] [])
 .ret) .skip)))
 (.rg 5 false [] [{i := .mv 15 (.t 5)}, {i := .bin 16 .add (.t 15) (.c (.d true (.int .i64 1)))}, {i := .mv 5 (.t 16)}] [])))
def c_ref13_SameAll : C :=
(.seq (.rg 0 false [] [{i := .mv 4 (.c (.d true (.bool false)))}] [])
 (.seq (.seq (.rg 1 false [] [{i := .mv 6 (.t 0)}, {i := .len 7 (.t 6)}, {i := .mv 8 (.t 1)}, {i := .len 9 (.t 8)}, {i := .bin 10 .neq (.t 7) (.t 9)}] [])
 (.cond (.t 10) (.seq (.rg 2 false [] [{i := .mv 4 (.c (.d true (.bool false)))}] [])
 .ret) .skip))
 (.seq (.seq (.rg 3 false [] [{i := .mv 5 (.c (.d true (.int .i64 0)))}] [])
 (.block 0 (.loop c_ref13_SameAll_l1)))
 (.seq (.rg 8 false [] [{i := .mv 4 (.c (.d true (.bool true)))}] [])
 .ret))))
def n_ref13_SameAll : Fn := ⟨c_ref13_SameAll, [.s 4], (some [false, false])⟩
def c_ref13_Same_l1 : C :=
(.seq (.seq (.rg 4 false [] [{i := .mv 11 (.t 5)}, {i := .mv 12 (.t 0)}, {i := .len 13 (.t 12)}, {i := .bin 14 .lss (.t 11) (.t 13)}] [])
 (.cond (.t 14) .skip (.exit 0)))
 (.seq (.block 1 (.seq (.rg 6 true [] [{i := .mv 17 (.t 0)}, {i := .mv 18 (.t 5)}, {i := .ix 19 (.t 17) (.t 18) 1}, {i := .load 20 (.t 19) 0}, {i := .mv 21 (.t 1)}, {i := .mv 22 (.t 5)}, {i := .ix 23 (.t 21) (.t 22) 1}, {i := .load 24 (.t 23) 0}, {i := .bin 25 .neq (.t 20) (.t 24)}] [])
 (.cond (.t 25) (.seq (.rg 7 false [] [{i := .mv 4 (.c (.d true (.bool false)))}] [])
 .ret) .skip)))
 (.rg 5 false [] [{i := .mv 15 (.t 5)}, {i := .bin 16 .add (.t 15) (.c (.d true (.int .i64 1)))}, {i := .mv 5 (.t 16)}] [])))
def c_ref13_Same : C :=
(.seq (.rg 0 false [] [{i := .mv 4 (.c (.d true (.bool false)))}] [])
 (.seq (.seq (.rg 1 false [] [{i := .mv 6 (.t 0)}, {i := .len 7 (.t 6)}, {i := .mv 8 (.t 1)}, {i := .len 9 (.t 8)}, {i := .bin 10 .neq (.t 7) (.t 9)}] [])
 (.cond (.t 10) (.seq (.rg 2 false [] [{i := .mv 4 (.c (.d true (.bool false)))}] [])
 .ret) .skip))
 (.seq (.seq (.rg 3 false [] [{i := .mv 5 (.c (.d true (.int .i64 0)))}] [])
 (.block 0 (.loop c_ref13_Same_l1)))
 (.seq (.rg 8 false [] [{i := .mv 4 (.c (.d true (.bool true)))}] [])
 .ret))))
def n_ref13_Same : Fn := ⟨c_ref13_Same, [.s 4], (some [false, false])⟩
def c_law23_great_p1 : C :=
(.rg 1 false [] [{i := .load 3 (.t 1) 6}, {i := .call 4 k_ref02_Great [(.t 3)] none}, {i := .mv 5 (.t 4)}, ⟨(.load 6 (.t 1) 6), (some (5, false))⟩, ⟨(.call 7 k_ref02_Size [(.t 6)] none), (some (5, false))⟩, ⟨(.bin 8 .gtr (.t 7) (.c (.d true (.int .i64 60)))), (some (5, false))⟩, {i := .pick 9 (.t 5) (.c (.d true (.bool true))) (.t 8)}, {i := .mv 2 (.t 9)}] [])
def c_law23_great : C :=
(.seq (.rg 0 false [] [{i := .box 1 0 (.t 0) 6}, {i := .mv 2 (.c (.d true (.bool false)))}] [])
 (.seq c_law23_great_p1
 .ret))
def n_law23_great : Fn := ⟨c_law23_great, [.s 2], (some [false])⟩
def c_unroll_Of_p1 : C :=
(.seq (.rg 9 false [] [{i := .fad 26 (.t 9) 1 0}, {i := .load 27 (.t 26) 0}, {i := .bin 28 .eql (.t 27) (.c (.d true (.int .i64 2)))}] [])
 (.cond (.t 28) (.rg 10 false [] [{i := .mv 10 (.c (.d true (.int .i64 (-1))))}] []) .skip))
def c_unroll_Of_l1 : C :=
(.seq (.rg 6 false [] [{i := .bin 21 .lss (.t 20) (.t 19)}] [])
 (.seq (.cond (.t 21) .skip (.exit 0))
 (.seq (.block 1 (.seq (.rg 7 false [(.kill 5 6)] [{i := .ix 22 (.t 18) (.t 20) 2}, {i := .load 23 (.t 22) 3}, {i := .alloc 9 5 [(.k (.int .i64 0)), (.k (.int .i64 0))]}, {i := .store (.t 9) (.t 23) 3}] [])
 (.seq (.rg 8 false [] [{i := .fad 24 (.t 9) 1 0}, {i := .load 25 (.t 24) 0}, {i := .mv 10 (.t 25)}] [])
 (.seq c_unroll_Of_p1
 (.rg 11 false [(.kill 6 7)] [{i := .mv 29 (.t 7)}, {i := .mv 30 (.t 10)}, {i := .bsl 31 6 1 1 (.k (.int .i64 0)) [(0, (.t 30))]}, {i := .app 32 7 1 (.t 29) (.t 31)}, {i := .mv 7 (.t 32)}] [])))))
 (.rg 12 false [] [{i := .bin 33 .add (.t 20) (.c (.d true (.int .i64 1)))}, {i := .mv 20 (.t 33)}] []))))
def c_unroll_Of : C :=
(.seq (.rg 0 false [] [{i := .box 2 0 (.t 0) 6}, {i := .alloc 4 1 [(.k (.int .i64 0)), (.r 2 1), (.r 3 1)]}, {i := .mv 5 (.c (.d true (.int .i64 0)))}] [])
 (.seq (.seq (.rg 1 false [] [{i := .load 11 (.t 2) 6}, {i := .call 12 k_gates_Check [(.t 11)] none}, {i := .mv 6 (.t 12)}] [])
 (.seq (.rg 2 false [] [{i := .mv 13 (.t 6)}, {i := .bin 14 .neq (.t 13) (.c (.d true (.int .i64 0)))}] [])
 (.cond (.t 14) (.seq (.rg 3 false [] [{i := .bld 15 [(.k (.int .i64 0)), (.n 1), (.n 1)] []}, {i := .mv 16 (.t 6)}, {i := .store (.t 4) (.t 15) 4}, {i := .mv 5 (.t 16)}] [])
 .ret) .skip)))
 (.seq (.rg 4 false [] [{i := .nilr 7 4 1}] [])
 (.seq (.seq (.rg 5 false [] [{i := .fad 17 (.t 2) 1 0}, {i := .load 18 (.t 17) 0}, {i := .len 19 (.t 18)}, {i := .mv 20 (.c (.d true (.int .i64 0)))}] [])
 (.block 0 (.loop c_unroll_Of_l1)))
 (.seq (.rg 13 false [] [{i := .load 34 (.t 2) 6}, {i := .mv 35 (.t 1)}, {i := .mv 36 (.t 7)}, {i := .call 37 k_unroll_made [(.t 34), (.t 35), (.t 36)] none}, {i := .xt 38 (.t 37) 0}, {i := .xt 39 (.t 37) 1}, {i := .store (.t 4) (.t 38) 4}, {i := .mv 5 (.t 39)}] [])
 .ret)))))
def n_unroll_Of : Fn := ⟨c_unroll_Of, [.c 4 4, .s 5], (some [false, false])⟩
def c_unroll_Free_l1 : C :=
(.seq (.rg 6 false [] [{i := .bin 18 .lss (.t 17) (.t 16)}] [])
 (.seq (.cond (.t 18) .skip (.exit 0))
 (.seq (.block 1 (.rg 7 false [.kill 5 6] [{i := .mv 19 (.t 7)}, {i := .bsl 20 5 1 1 (.k (.int .i64 0)) [(0, (.c (.d true (.int .i64 (-1)))))]}, {i := .app 21 6 1 (.t 19) (.t 20)}, {i := .mv 7 (.t 21)}] []))
 (.rg 8 false [] [{i := .bin 22 .add (.t 17) (.c (.d true (.int .i64 1)))}, {i := .mv 17 (.t 22)}] []))))
def c_unroll_Free : C :=
(.seq (.rg 0 false [] [{i := .box 2 0 (.t 0) 6}, {i := .alloc 4 1 [.k (.int .i64 0), .r 2 1, .r 3 1]}, {i := .mv 5 (.c (.d true (.int .i64 0)))}] [])
 (.seq (.seq (.rg 1 false [] [{i := .load 8 (.t 2) 6}, {i := .call 9 k_gates_Check [(.t 8)] none}, {i := .mv 6 (.t 9)}] [])
 (.seq (.rg 2 false [] [{i := .mv 10 (.t 6)}, {i := .bin 11 .neq (.t 10) (.c (.d true (.int .i64 0)))}] [])
 (.cond (.t 11) (.seq (.rg 3 false [] [{i := .bld 12 [.k (.int .i64 0), .n 1, .n 1] []}, {i := .mv 13 (.t 6)}, {i := .store (.t 4) (.t 12) 4}, {i := .mv 5 (.t 13)}] [])
 .ret) .skip)))
 (.seq (.rg 4 false [] [{i := .nilr 7 4 1}] [])
 (.seq (.seq (.rg 5 false [] [{i := .fad 14 (.t 2) 1 0}, {i := .load 15 (.t 14) 0}, {i := .len 16 (.t 15)}, {i := .mv 17 (.c (.d true (.int .i64 0)))}] [])
 (.block 0 (.loop c_unroll_Free_l1)))
 (.seq (.rg 9 false [] [{i := .load 23 (.t 2) 6}, {i := .mv 24 (.t 1)}, {i := .mv 25 (.t 7)}, {i := .call 26 k_unroll_made [(.t 23), (.t 24), (.t 25)] none}, {i := .xt 27 (.t 26) 0}, {i := .xt 28 (.t 26) 1}, {i := .store (.t 4) (.t 27) 4}, {i := .mv 5 (.t 28)}] [])
 .ret)))))
def n_unroll_Free : Fn := ⟨c_unroll_Free, [.c 4 4, .s 5], (some [false, false])⟩
def c_ref22_Same_p1 : C :=
(.rg 1 false [] [{i := .fad 5 (.t 2) 0 0}, {i := .load 6 (.t 5) 0}, {i := .fad 7 (.t 3) 0 0}, {i := .load 8 (.t 7) 0}, {i := .bin 9 .eql (.t 6) (.t 8)}, {i := .mv 10 (.t 9)}, ⟨(.fad 11 (.t 2) 1 0), (some (10, true))⟩, ⟨(.load 12 (.t 11) 0), (some (10, true))⟩, ⟨(.fad 13 (.t 3) 1 0), (some (10, true))⟩, ⟨(.load 14 (.t 13) 0), (some (10, true))⟩, ⟨(.call 15 k_ref13_SameAll [(.t 12), (.t 14)] none), (some (10, true))⟩, {i := .pick 16 (.t 10) (.t 15) (.c (.d true (.bool false)))}, {i := .mv 17 (.t 16)}, ⟨(.fad 18 (.t 2) 2 0), (some (17, true))⟩, ⟨(.load 19 (.t 18) 0), (some (17, true))⟩, ⟨(.fad 20 (.t 3) 2 0), (some (17, true))⟩, ⟨(.load 21 (.t 20) 0), (some (17, true))⟩, ⟨(.call 22 k_ref13_SameAll [(.t 19), (.t 21)] none), (some (17, true))⟩, {i := .pick 23 (.t 17) (.t 22) (.c (.d true (.bool false)))}, {i := .mv 4 (.t 23)}] [])
def c_ref22_Same : C :=
(.seq (.rg 0 false [] [{i := .box 2 0 (.t 0) 4}, {i := .box 3 1 (.t 1) 4}, {i := .mv 4 (.c (.d true (.bool false)))}] [])
 (.seq c_ref22_Same_p1
 .ret))
def n_ref22_Same : Fn := ⟨c_ref22_Same, [.s 4], (some [false, false])⟩
def c_law23_alive_p1 : C :=
(.rg 4 false [] [{i := .mv 24 (.t 2)}, {i := .bin 25 .eql (.t 24) (.c (.d true (.int .i64 0)))}, {i := .mv 26 (.t 25)}, ⟨(.load 27 (.t 1) 4), (some (26, true))⟩, ⟨(.bsl 28 4 1 2 (.k (.int .i64 0)) [(0, (.c (.d true (.int .i64 0)))), (1, (.c (.d true (.int .i64 0))))]), (some (26, true))⟩, ⟨(.bsl 29 5 1 2 (.k (.int .i64 0)) [(0, (.c (.d true (.int .i64 0)))), (1, (.c (.d true (.int .i64 1))))]), (some (26, true))⟩, ⟨(.bsl 30 6 1 2 (.k (.int .i64 0)) [(0, (.c (.d true (.int .i64 0)))), (1, (.c (.d true (.int .i64 0))))]), (some (26, true))⟩, ⟨(.bsl 31 7 1 3 (.k (.lst 1 [])) [(0, (.t 28)), (1, (.t 29)), (2, (.t 30))]), (some (26, true))⟩, ⟨(.bld 32 [(.k (.int .i64 0)), (.n 1), (.n 1)] [(1, 0, (.t 31))]), (some (26, true))⟩, ⟨(.call 33 k_ref22_Same [(.t 27), (.t 32)] none), (some (26, true))⟩, {i := .pick 34 (.t 26) (.t 33) (.c (.d true (.bool false)))}, {i := .mv 35 (.t 34)}, ⟨(.mv 36 (.t 4)), (some (35, true))⟩, ⟨(.bin 37 .eql (.t 36) (.c (.d true (.int .i64 0)))), (some (35, true))⟩, {i := .pick 38 (.t 35) (.t 37) (.c (.d true (.bool false)))}, {i := .mv 39 (.t 38)}, ⟨(.load 40 (.t 3) 4), (some (39, true))⟩, ⟨(.bsl 41 8 1 2 (.k (.int .i64 0)) [(0, (.c (.d true (.int .i64 0)))), (1, (.c (.d true (.int .i64 2))))]), (some (39, true))⟩, ⟨(.bsl 42 9 1 2 (.k (.int .i64 0)) [(0, (.c (.d true (.int .i64 0)))), (1, (.c (.d true (.int .i64 3))))]), (some (39, true))⟩, ⟨(.bsl 43 10 1 2 (.k (.int .i64 0)) [(0, (.c (.d true (.int .i64 0)))), (1, (.c (.d true (.int .i64 2))))]), (some (39, true))⟩, ⟨(.bsl 44 11 1 3 (.k (.lst 1 [])) [(0, (.t 41)), (1, (.t 42)), (2, (.t 43))]), (some (39, true))⟩, ⟨(.bld 45 [(.k (.int .i64 0)), (.n 1), (.n 1)] [(0, 0, (.c (.d true (.int .i64 1)))), (1, 0, (.t 44))]), (some (39, true))⟩, ⟨(.call 46 k_ref22_Same [(.t 40), (.t 45)] none), (some (39, true))⟩, {i := .pick 47 (.t 39) (.t 46) (.c (.d true (.bool false)))}, {i := .mv 48 (.t 47)}, ⟨(.mv 49 (.t 6)), (some (48, true))⟩, ⟨(.bin 50 .eql (.t 49) (.c (.d true (.int .i64 0)))), (some (48, true))⟩, {i := .pick 51 (.t 48) (.t 50) (.c (.d true (.bool false)))}, {i := .mv 52 (.t 51)}, ⟨(.load 53 (.t 5) 4), (some (52, true))⟩, ⟨(.bsl 54 12 1 3 (.k (.int .i64 0)) [(0, (.c (.d true (.int .i64 0)))), (1, (.c (.d true (.int .i64 2)))), (2, (.c (.d true (.int .i64 0))))]), (some (52, true))⟩, ⟨(.bsl 55 13 1 3 (.k (.int .i64 0)) [(0, (.c (.d true (.int .i64 0)))), (1, (.c (.d true (.int .i64 4)))), (2, (.c (.d true (.int .i64 2))))]), (some (52, true))⟩, ⟨(.bsl 56 14 1 3 (.k (.int .i64 0)) [(0, (.c (.d true (.int .i64 0)))), (1, (.c (.d true (.int .i64 6)))), (2, (.c (.d true (.int .i64 4))))]), (some (52, true))⟩, ⟨(.bsl 57 15 1 3 (.k (.lst 1 [])) [(0, (.t 54)), (1, (.t 55)), (2, (.t 56))]), (some (52, true))⟩, ⟨(.bld 58 [(.k (.int .i64 0)), (.n 1), (.n 1)] [(0, 0, (.c (.d true (.int .i64 3)))), (1, 0, (.t 57))]), (some (52, true))⟩, ⟨(.call 59 k_ref22_Same [(.t 53), (.t 58)] none), (some (52, true))⟩, {i := .pick 60 (.t 52) (.t 59) (.c (.d true (.bool false)))}, {i := .mv 0 (.t 60)}] [])
def c_law23_alive : C :=
(.seq (.rg 0 false [] [{i := .mv 0 (.c (.d true (.bool false)))}] [])
 (.seq (.rg 1 false [] [{i := .call 8 k_law23_turns [] none}, {i := .call 9 k_unroll_Of [(.t 8), (.c (.d true (.int .i64 3)))] none}, {i := .mv 7 (.t 9)}, {i := .xt 10 (.t 7) 0}, {i := .xt 11 (.t 7) 1}, {i := .alloc 1 0 [(.k (.int .i64 0)), (.n 1), (.n 1)]}, {i := .store (.t 1) (.t 10) 4}, {i := .mv 2 (.t 11)}] [])
 (.seq (.rg 2 false [] [{i := .call 13 k_law23_turns [] none}, {i := .call 14 k_unroll_Free [(.t 13), (.c (.d true (.int .i64 3)))] none}, {i := .mv 12 (.t 14)}, {i := .xt 15 (.t 12) 0}, {i := .xt 16 (.t 12) 1}, {i := .alloc 3 1 [(.k (.int .i64 0)), (.n 1), (.n 1)]}, {i := .store (.t 3) (.t 15) 4}, {i := .mv 4 (.t 16)}] [])
 (.seq (.rg 3 false [] [{i := .bld 18 [(.k (.int .i64 0)), (.k (.int .i64 0))] [(0, 0, (.c (.d true (.int .i64 2))))]}, {i := .bsl 19 2 2 1 (.k (.agg [(.int .i64 0), (.int .i64 0)])) [(0, (.t 18))]}, {i := .bld 20 [(.k (.int .i64 0)), (.n 2), (.n 2), (.n 1), (.n 1)] [(0, 0, (.c (.d true (.int .i64 1)))), (1, 0, (.t 19))]}, {i := .call 21 k_unroll_Of [(.t 20), (.c (.d true (.int .i64 3)))] none}, {i := .mv 17 (.t 21)}, {i := .xt 22 (.t 17) 0}, {i := .xt 23 (.t 17) 1}, {i := .alloc 5 3 [(.k (.int .i64 0)), (.n 1), (.n 1)]}, {i := .store (.t 5) (.t 22) 4}, {i := .mv 6 (.t 23)}] [])
 (.seq c_law23_alive_p1
 .ret)))))
def n_law23_alive : Fn := ⟨c_law23_alive, [.s 0], (some [])⟩
def c_ref02_Check_p1 : C :=
(.rg 3 false [] [{i := .fad 10 (.t 1) 0 0}, {i := .load 11 (.t 10) 0}, {i := .bin 12 .gtr (.t 11) (.c (.d true (.int .i64 1000)))}, {i := .mv 13 (.t 12)}, ⟨(.load 14 (.t 1) 6), (some (13, false))⟩, ⟨(.call 15 k_ref02_Size [(.t 14)] none), (some (13, false))⟩, ⟨(.bin 16 .gtr (.t 15) (.c (.d true (.int .i64 1000)))), (some (13, false))⟩, {i := .pick 17 (.t 13) (.c (.d true (.bool true))) (.t 16)}, {i := .mv 18 (.t 17)}, ⟨(.fad 19 (.t 1) 3 0), (some (18, false))⟩, ⟨(.load 20 (.t 19) 0), (some (18, false))⟩, ⟨(.len 21 (.t 20)), (some (18, false))⟩, ⟨(.bin 22 .gtr (.t 21) (.c (.d true (.int .i64 100)))), (some (18, false))⟩, {i := .pick 23 (.t 18) (.c (.d true (.bool true))) (.t 22)}, {i := .mv 24 (.t 23)}, ⟨(.fad 25 (.t 1) 4 0), (some (24, false))⟩, ⟨(.load 26 (.t 25) 0), (some (24, false))⟩, ⟨(.len 27 (.t 26)), (some (24, false))⟩, ⟨(.bin 28 .gtr (.t 27) (.c (.d true (.int .i64 100)))), (some (24, false))⟩, {i := .pick 29 (.t 24) (.c (.d true (.bool true))) (.t 28)}] [])
def c_ref02_Check_p2 : C :=
(.rg 6 false [] [{i := .fad 32 (.t 1) 3 0}, {i := .load 33 (.t 32) 0}, {i := .mv 34 (.t 3)}, {i := .call 35 k_ref02_literals [(.t 33), (.t 34)] none}, {i := .un 36 .not (.t 35)}, {i := .mv 37 (.t 36)}, ⟨(.fad 38 (.t 1) 4 0), (some (37, false))⟩, ⟨(.load 39 (.t 38) 0), (some (37, false))⟩, ⟨(.mv 40 (.t 3)), (some (37, false))⟩, ⟨(.call 41 k_ref02_literals [(.t 39), (.t 40)] none), (some (37, false))⟩, ⟨(.un 42 .not (.t 41)), (some (37, false))⟩, {i := .pick 43 (.t 37) (.c (.d true (.bool true))) (.t 42)}] [])
def c_ref02_Check_p3 : C :=
(.rg 11 false [(.kill 1 2)] [{i := .fad 51 (.t 1) 1 0}, {i := .load 52 (.t 51) 0}, {i := .mv 53 (.t 4)}, {i := .ix 54 (.t 52) (.t 53) 2}, {i := .fad 55 (.t 54) 0 0}, {i := .load 56 (.t 55) 0}, {i := .bsl 57 1 1 1 (.k (.int .i64 0)) [(0, (.t 56))]}, {i := .mv 58 (.t 3)}, {i := .call 59 k_ref02_literals [(.t 57), (.t 58)] none}, {i := .un 60 .not (.t 59)}, {i := .mv 61 (.t 60)}, ⟨(.fad 62 (.t 1) 1 0), (some (61, false))⟩, ⟨(.load 63 (.t 62) 0), (some (61, false))⟩, ⟨(.mv 64 (.t 4)), (some (61, false))⟩, ⟨(.ix 65 (.t 63) (.t 64) 2), (some (61, false))⟩, ⟨(.fad 66 (.t 65) 1 0), (some (61, false))⟩, ⟨(.load 67 (.t 66) 0), (some (61, false))⟩, ⟨(.bin 68 .lss (.t 67) (.c (.d true (.int .i64 0)))), (some (61, false))⟩, {i := .pick 69 (.t 61) (.c (.d true (.bool true))) (.t 68)}, {i := .mv 70 (.t 69)}, ⟨(.fad 71 (.t 1) 1 0), (some (70, false))⟩, ⟨(.load 72 (.t 71) 0), (some (70, false))⟩, ⟨(.mv 73 (.t 4)), (some (70, false))⟩, ⟨(.ix 74 (.t 72) (.t 73) 2), (some (70, false))⟩, ⟨(.fad 75 (.t 74) 1 0), (some (70, false))⟩, ⟨(.load 76 (.t 75) 0), (some (70, false))⟩, ⟨(.bin 77 .gtr (.t 76) (.c (.d true (.int .i64 2)))), (some (70, false))⟩, {i := .pick 78 (.t 70) (.c (.d true (.bool true))) (.t 77)}] [])
def c_ref02_Check_l1 : C :=
(.seq (.seq (.rg 9 false [] [{i := .mv 44 (.t 4)}, {i := .fad 45 (.t 1) 1 0}, {i := .load 46 (.t 45) 0}, {i := .len 47 (.t 46)}, {i := .bin 48 .lss (.t 44) (.t 47)}] [])
 (.cond (.t 48) .skip (.exit 0)))
 (.seq (.block 1 (.seq c_ref02_Check_p3
 (.cond (.t 78) (.seq (.rg 12 false [] [{i := .mv 2 (.c (.d true (.int .i64 8)))}] [])
 .ret) .skip)))
 (.rg 10 false [] [{i := .mv 49 (.t 4)}, {i := .bin 50 .add (.t 49) (.c (.d true (.int .i64 1)))}, {i := .mv 4 (.t 50)}] [])))
def c_ref02_Check_p4 : C :=
(.rg 17 false [] [{i := .fad 91 (.t 6) 1 0}, {i := .load 92 (.t 91) 0}, {i := .bin 93 .lss (.t 92) (.c (.d true (.int .i64 0)))}, {i := .mv 94 (.t 93)}, ⟨(.fad 95 (.t 6) 0 0), (some (94, false))⟩, ⟨(.load 96 (.t 95) 0), (some (94, false))⟩, ⟨(.fad 97 (.t 6) 1 0), (some (94, false))⟩, ⟨(.load 98 (.t 97) 0), (some (94, false))⟩, ⟨(.bin 99 .lss (.t 96) (.t 98)), (some (94, false))⟩, {i := .pick 100 (.t 94) (.c (.d true (.bool true))) (.t 99)}, {i := .mv 101 (.t 100)}, ⟨(.fad 102 (.t 6) 0 0), (some (101, false))⟩, ⟨(.load 103 (.t 102) 0), (some (101, false))⟩, ⟨(.bin 104 .quo (.t 103) (.c (.d true (.int .i64 2)))), (some (101, false))⟩, ⟨(.fad 105 (.t 1) 0 0), (some (101, false))⟩, ⟨(.load 106 (.t 105) 0), (some (101, false))⟩, ⟨(.fad 107 (.t 1) 1 0), (some (101, false))⟩, ⟨(.load 108 (.t 107) 0), (some (101, false))⟩, ⟨(.len 109 (.t 108)), (some (101, false))⟩, ⟨(.bin 110 .add (.t 106) (.t 109)), (some (101, false))⟩, ⟨(.mv 111 (.t 5)), (some (101, false))⟩, ⟨(.bin 112 .add (.t 110) (.t 111)), (some (101, false))⟩, ⟨(.bin 113 .gtr (.t 104) (.t 112)), (some (101, false))⟩, {i := .pick 114 (.t 101) (.c (.d true (.bool true))) (.t 113)}] [])
def c_ref02_Check_l2 : C :=
(.seq (.seq (.rg 14 false [] [{i := .mv 79 (.t 5)}, {i := .fad 80 (.t 1) 2 0}, {i := .load 81 (.t 80) 0}, {i := .len 82 (.t 81)}, {i := .bin 83 .lss (.t 79) (.t 82)}] [])
 (.cond (.t 83) .skip (.exit 2)))
 (.seq (.block 3 (.seq (.rg 16 false [(.kill 2 3)] [{i := .fad 86 (.t 1) 2 0}, {i := .load 87 (.t 86) 0}, {i := .mv 88 (.t 5)}, {i := .ix 89 (.t 87) (.t 88) 2}, {i := .load 90 (.t 89) 3}, {i := .alloc 6 2 [(.k (.int .i64 0)), (.k (.int .i64 0))]}, {i := .store (.t 6) (.t 90) 3}] [])
 (.seq c_ref02_Check_p4
 (.cond (.t 114) (.seq (.rg 18 false [] [{i := .mv 2 (.c (.d true (.int .i64 8)))}] [])
 .ret) .skip))))
 (.rg 15 false [] [{i := .mv 84 (.t 5)}, {i := .bin 85 .add (.t 84) (.c (.d true (.int .i64 1)))}, {i := .mv 5 (.t 85)}] [])))
def c_ref02_Check : C :=
(.seq (.rg 0 false [] [{i := .box 1 0 (.t 0) 6}, {i := .mv 2 (.c (.d true (.int .i64 0)))}] [])
 (.seq (.seq (.rg 1 false [] [{i := .fad 7 (.t 1) 0 0}, {i := .load 8 (.t 7) 0}, {i := .bin 9 .lss (.t 8) (.c (.d true (.int .i64 0)))}] [])
 (.cond (.t 9) (.seq (.rg 2 false [] [{i := .mv 2 (.c (.d true (.int .i64 8)))}] [])
 .ret) .skip))
 (.seq (.seq c_ref02_Check_p1
 (.cond (.t 29) (.seq (.rg 4 false [] [{i := .mv 2 (.c (.d true (.int .i64 4)))}] [])
 .ret) .skip))
 (.seq (.rg 5 false [] [{i := .load 30 (.t 1) 6}, {i := .call 31 k_ref02_Size [(.t 30)] none}, {i := .mv 3 (.t 31)}] [])
 (.seq (.seq c_ref02_Check_p2
 (.cond (.t 43) (.seq (.rg 7 false [] [{i := .mv 2 (.c (.d true (.int .i64 8)))}] [])
 .ret) .skip))
 (.seq (.seq (.rg 8 false [] [{i := .mv 4 (.c (.d true (.int .i64 0)))}] [])
 (.block 0 (.loop c_ref02_Check_l1)))
 (.seq (.seq (.rg 13 false [] [{i := .mv 5 (.c (.d true (.int .i64 0)))}] [])
 (.block 2 (.loop c_ref02_Check_l2)))
 (.seq (.rg 19 false [] [{i := .mv 2 (.c (.d true (.int .i64 0)))}] [])
 .ret))))))))
def n_ref02_Check : Fn := ⟨c_ref02_Check, [.s 2], (some [false])⟩
def c_unroll_Trace_p1 : C :=
(.rg 18 false [] [{i := .mv 67 (.t 13)}, {i := .mv 68 (.t 14)}, {i := .ix 69 (.t 67) (.t 68) 1}, {i := .load 70 (.t 69) 0}, {i := .bin 71 .lss (.t 70) (.c (.d true (.int .i64 0)))}, {i := .mv 72 (.t 71)}, ⟨(.mv 73 (.t 14)), (some (72, true))⟩, ⟨(.mv 74 (.t 11)), (some (72, true))⟩, ⟨(.bin 75 .lss (.t 73) (.t 74)), (some (72, true))⟩, ⟨(.mv 76 (.t 75)), (some (72, true))⟩, ⟨(.mv 77 (.t 12)), (some (76, false))⟩, ⟨(.bin 78 .eql (.t 77) (.c (.d true (.int .i64 0)))), (some (76, false))⟩, ⟨(.pick 79 (.t 76) (.c (.d true (.bool true))) (.t 78)), (some (72, true))⟩, {i := .pick 80 (.t 72) (.t 79) (.c (.d true (.bool false)))}] [])
def c_unroll_Trace_l1 : C :=
(.seq (.seq (.rg 16 false [] [{i := .mv 58 (.t 14)}, {i := .mv 59 (.t 11)}, {i := .fad 60 (.t 3) 1 0}, {i := .load 61 (.t 60) 0}, {i := .len 62 (.t 61)}, {i := .bin 63 .add (.t 59) (.t 62)}, {i := .bin 64 .lss (.t 58) (.t 63)}] [])
 (.cond (.t 64) .skip (.exit 2)))
 (.seq (.block 3 (.seq c_unroll_Trace_p1
 (.cond (.t 80) (.seq (.rg 19 false [] [{i := .bld 81 [(.n 1), (.n 1)] []}, {i := .store (.t 6) (.t 81) 3}, {i := .mv 7 (.c (.d true (.int .i64 8)))}] [])
 .ret) .skip)))
 (.rg 17 false [] [{i := .mv 65 (.t 14)}, {i := .bin 66 .add (.t 65) (.c (.d true (.int .i64 1)))}, {i := .mv 14 (.t 66)}] [])))
def c_unroll_Trace_l2 : C :=
(.seq (.rg 11 false [] [{i := .bin 48 .lss (.t 47) (.t 46)}] [])
 (.seq (.cond (.t 48) .skip (.exit 0))
 (.seq (.block 1 (.seq (.rg 12 false [] [{i := .mv 49 (.t 47)}, {i := .ix 50 (.t 45) (.t 47) 1}, {i := .load 51 (.t 50) 0}, {i := .mv 12 (.t 49)}, {i := .mv 13 (.t 51)}] [])
 (.seq (.seq (.rg 13 false [] [{i := .mv 52 (.t 13)}, {i := .len 53 (.t 52)}, {i := .mv 54 (.t 8)}, {i := .bin 55 .add (.t 54) (.c (.d true (.int .i64 1)))}, {i := .bin 56 .neq (.t 53) (.t 55)}] [])
 (.cond (.t 56) (.seq (.rg 14 false [] [{i := .bld 57 [(.n 1), (.n 1)] []}, {i := .store (.t 6) (.t 57) 3}, {i := .mv 7 (.c (.d true (.int .i64 8)))}] [])
 .ret) .skip))
 (.seq (.rg 15 false [] [{i := .mv 14 (.c (.d true (.int .i64 1)))}] [])
 (.block 2 (.loop c_unroll_Trace_l1))))))
 (.rg 20 false [] [{i := .bin 82 .add (.t 47) (.c (.d true (.int .i64 1)))}, {i := .mv 47 (.t 82)}] []))))
def c_unroll_Trace_l3 : C :=
(.seq (.rg 25 false [] [{i := .bin 93 .lss (.t 92) (.t 91)}] [])
 (.seq (.cond (.t 93) .skip (.exit 4))
 (.seq (.block 5 (.seq (.rg 26 false [] [{i := .mv 94 (.t 92)}, {i := .mv 16 (.t 94)}] [])
 (.rg 27 true [(.kill 8 9)] [{i := .fad 95 (.t 15) 0 0}, {i := .load 96 (.t 95) 0}, {i := .fad 97 (.t 4) 1 0}, {i := .load 98 (.t 97) 0}, {i := .ix 99 (.t 98) (.c (.d true (.int .i64 0))) 1}, {i := .load 100 (.t 99) 0}, {i := .mv 101 (.t 11)}, {i := .mv 102 (.t 16)}, {i := .bin 103 .add (.t 101) (.t 102)}, {i := .ix 104 (.t 100) (.t 103) 1}, {i := .load 105 (.t 104) 0}, {i := .mv 106 (.t 2)}, {i := .call 107 k_unroll_value [(.t 105), (.t 106)] none}, {i := .bsl 108 8 1 1 (.k (.bool false)) [(0, (.t 107))]}, {i := .app 109 9 1 (.t 96) (.t 108)}, {i := .fad 110 (.t 15) 0 0}, {i := .store (.t 110) (.t 109) 0}] [])))
 (.rg 28 false [] [{i := .bin 111 .add (.t 92) (.c (.d true (.int .i64 1)))}, {i := .mv 92 (.t 111)}] []))))
def c_unroll_Trace_l4 : C :=
(.seq (.seq (.rg 34 false [] [{i := .mv 119 (.t 20)}, {i := .mv 120 (.t 11)}, {i := .bin 121 .lss (.t 119) (.t 120)}] [])
 (.cond (.t 121) .skip (.exit 8)))
 (.seq (.block 9 (.rg 36 false [(.kill 11 12)] [{i := .mv 124 (.t 19)}, {i := .mv 125 (.t 18)}, {i := .mv 126 (.t 20)}, {i := .ix 127 (.t 125) (.t 126) 1}, {i := .load 128 (.t 127) 0}, {i := .mv 129 (.t 2)}, {i := .call 130 k_unroll_value [(.t 128), (.t 129)] none}, {i := .bsl 131 11 1 1 (.k (.bool false)) [(0, (.t 130))]}, {i := .app 132 12 1 (.t 124) (.t 131)}, {i := .mv 19 (.t 132)}] []))
 (.rg 35 false [] [{i := .mv 122 (.t 20)}, {i := .bin 123 .add (.t 122) (.c (.d true (.int .i64 1)))}, {i := .mv 20 (.t 123)}] [])))
def c_unroll_Trace_l5 : C :=
(.seq (.rg 30 false [] [{i := .bin 116 .lss (.t 115) (.t 114)}] [])
 (.seq (.cond (.t 116) .skip (.exit 6))
 (.seq (.block 7 (.seq (.rg 31 false [] [{i := .ix 117 (.t 113) (.t 115) 1}, {i := .load 118 (.t 117) 0}, {i := .mv 18 (.t 118)}] [])
 (.seq (.rg 32 false [(.kill 10 11)] [{i := .nilr 19 10 1}] [])
 (.seq (.seq (.rg 33 false [] [{i := .mv 20 (.c (.d true (.int .i64 1)))}] [])
 (.block 8 (.loop c_unroll_Trace_l4)))
 (.rg 37 false [(.kill 13 14)] [{i := .fad 133 (.t 15) 1 0}, {i := .load 134 (.t 133) 0}, {i := .mv 135 (.t 19)}, {i := .bsl 136 13 1 1 (.k (.lst 1 [])) [(0, (.t 135))]}, {i := .app 137 14 1 (.t 134) (.t 136)}, {i := .fad 138 (.t 15) 1 0}, {i := .store (.t 138) (.t 137) 0}] [])))))
 (.rg 38 false [] [{i := .bin 139 .add (.t 115) (.c (.d true (.int .i64 1)))}, {i := .mv 115 (.t 139)}] []))))
def c_unroll_Trace : C :=
(.seq (.rg 0 false [] [{i := .box 3 0 (.t 0) 6}, {i := .box 4 1 (.t 1) 4}, {i := .alloc 6 2 [(.r 3 1), (.r 4 1)]}, {i := .mv 7 (.c (.d true (.int .i64 0)))}] [])
 (.seq (.rg 1 false [] [{i := .load 22 (.t 3) 6}, {i := .call 23 k_gates_Vars [(.t 22)] none}, {i := .mv 21 (.t 23)}, {i := .xt 24 (.t 21) 0}, {i := .xt 25 (.t 21) 1}, {i := .mv 8 (.t 24)}, {i := .mv 9 (.t 25)}] [])
 (.seq (.seq (.rg 2 false [] [{i := .mv 26 (.t 9)}, {i := .bin 27 .neq (.t 26) (.c (.d true (.int .i64 0)))}] [])
 (.cond (.t 27) (.seq (.rg 3 false [] [{i := .bld 28 [(.n 1), (.n 1)] []}, {i := .mv 29 (.t 9)}, {i := .store (.t 6) (.t 28) 3}, {i := .mv 7 (.t 29)}] [])
 .ret) .skip))
 (.seq (.seq (.rg 4 false [] [{i := .load 30 (.t 4) 4}, {i := .call 31 k_tseitin_Check [(.t 30)] none}, {i := .mv 10 (.t 31)}] [])
 (.seq (.rg 5 false [] [{i := .mv 32 (.t 10)}, {i := .bin 33 .neq (.t 32) (.c (.d true (.int .i64 0)))}] [])
 (.cond (.t 33) (.seq (.rg 6 false [] [{i := .bld 34 [(.n 1), (.n 1)] []}, {i := .mv 35 (.t 10)}, {i := .store (.t 6) (.t 34) 3}, {i := .mv 7 (.t 35)}] [])
 .ret) .skip)))
 (.seq (.seq (.rg 7 false [] [{i := .fad 36 (.t 4) 1 0}, {i := .load 37 (.t 36) 0}, {i := .len 38 (.t 37)}, {i := .bin 39 .eql (.t 38) (.c (.d true (.int .i64 0)))}] [])
 (.cond (.t 39) (.seq (.rg 8 false [] [{i := .bld 40 [(.n 1), (.n 1)] []}, {i := .store (.t 6) (.t 40) 3}, {i := .mv 7 (.c (.d true (.int .i64 8)))}] [])
 .ret) .skip))
 (.seq (.rg 9 false [] [{i := .fad 41 (.t 3) 0 0}, {i := .load 42 (.t 41) 0}, {i := .bin 43 .add (.c (.d true (.int .i64 1))) (.t 42)}, {i := .mv 11 (.t 43)}] [])
 (.seq (.seq (.rg 10 false [] [{i := .fad 44 (.t 4) 1 0}, {i := .load 45 (.t 44) 0}, {i := .len 46 (.t 45)}, {i := .mv 47 (.c (.d true (.int .i64 0)))}] [])
 (.block 0 (.loop c_unroll_Trace_l2)))
 (.seq (.seq (.rg 21 false [] [{i := .mv 83 (.t 2)}, {i := .len 84 (.t 83)}, {i := .fad 85 (.t 4) 0 0}, {i := .load 86 (.t 85) 0}, {i := .bin 87 .neq (.t 84) (.t 86)}] [])
 (.cond (.t 87) (.seq (.rg 22 false [] [{i := .bld 88 [(.n 1), (.n 1)] []}, {i := .store (.t 6) (.t 88) 3}, {i := .mv 7 (.c (.d true (.int .i64 2)))}] [])
 .ret) .skip))
 (.seq (.rg 23 false [] [{i := .alloc 15 5 [(.r 6 1), (.r 7 1)]}] [])
 (.seq (.seq (.rg 24 false [] [{i := .fad 89 (.t 3) 1 0}, {i := .load 90 (.t 89) 0}, {i := .len 91 (.t 90)}, {i := .mv 92 (.c (.d true (.int .i64 0)))}] [])
 (.block 4 (.loop c_unroll_Trace_l3)))
 (.seq (.seq (.rg 29 false [] [{i := .fad 112 (.t 4) 1 0}, {i := .load 113 (.t 112) 0}, {i := .len 114 (.t 113)}, {i := .mv 115 (.c (.d true (.int .i64 0)))}] [])
 (.block 6 (.loop c_unroll_Trace_l5)))
 (.seq (.rg 39 false [] [{i := .load 140 (.t 15) 3}, {i := .store (.t 6) (.t 140) 3}, {i := .mv 7 (.c (.d true (.int .i64 0)))}] [])
 .ret))))))))))))
def n_unroll_Trace : Fn := ⟨c_unroll_Trace, [.c 6 3, .s 7], (some [false, false, false])⟩
def c_law23_turns : C :=
(.seq (.rg 0 false [] [{i := .alloc 0 0 [.k (.int .i64 0), .r 1 2, .r 2 2, .r 3 1, .r 4 1]}] [])
 (.seq (.rg 1 false [] [{i := .bld 1 [.k (.int .i64 0), .k (.int .i64 0)] [(0, 0, (.c (.d true (.int .i64 3))))]}, {i := .bsl 2 5 2 1 (.k (.agg [(.int .i64 0), (.int .i64 0)])) [(0, (.t 1))]}, {i := .bld 3 [.k (.int .i64 0), .n 2, .n 2, .n 1, .n 1] [(1, 0, (.t 2))]}, {i := .store (.t 0) (.t 3) 6}] [])
 .ret))
def n_law23_turns : Fn := ⟨c_law23_turns, [.c 0 6], (some [])⟩
def c_ref06_Same_p1 : C :=
(.rg 1 false [] [{i := .fad 5 (.t 2) 0 0}, {i := .load 6 (.t 5) 0}, {i := .fad 7 (.t 3) 0 0}, {i := .load 8 (.t 7) 0}, {i := .call 9 k_ref04_Same [(.t 6), (.t 8)] none}, {i := .mv 10 (.t 9)}, ⟨(.fad 11 (.t 2) 1 0), (some (10, true))⟩, ⟨(.load 12 (.t 11) 0), (some (10, true))⟩, ⟨(.fad 13 (.t 3) 1 0), (some (10, true))⟩, ⟨(.load 14 (.t 13) 0), (some (10, true))⟩, ⟨(.call 15 k_ref06_SameAll [(.t 12), (.t 14)] none), (some (10, true))⟩, {i := .pick 16 (.t 10) (.t 15) (.c (.d true (.bool false)))}, {i := .mv 4 (.t 16)}] [])
def c_ref06_Same : C :=
(.seq (.rg 0 false [] [{i := .box 2 0 (.t 0) 3}, {i := .box 3 1 (.t 1) 3}, {i := .mv 4 (.c (.d true (.bool false)))}] [])
 (.seq c_ref06_Same_p1
 .ret))
def n_ref06_Same : Fn := ⟨c_ref06_Same, [.s 4], (some [false, false])⟩
def c_values_Next : C :=
(.seq (.rg 0 false [] [{i := .box 3 0 (.t 0) 6}, {i := .mv 6 (.c (.nil 1))}, {i := .mv 7 (.c (.d true (.int .i64 0)))}] [])
 (.seq (.rg 1 false [] [{i := .load 8 (.t 3) 6}, {i := .mv 9 (.t 1)}, {i := .mv 10 (.t 2)}, {i := .fad 11 (.t 3) 1 0}, {i := .load 12 (.t 11) 0}, {i := .len 13 (.t 12)}, {i := .fn 14 k_values_Next_1 [(.t 3)]}, {i := .call 15 k_values_list [(.t 8), (.t 9), (.t 10), (.t 13), (.t 14)] none}, {i := .xt 16 (.t 15) 0}, {i := .xt 17 (.t 15) 1}, {i := .mv 6 (.t 16)}, {i := .mv 7 (.t 17)}] [])
 .ret))
def n_values_Next : Fn := ⟨c_values_Next, [.s 6, .s 7], (some [false, false, false])⟩
def c_ref22_Check_p1 : C :=
(.rg 3 false [] [{i := .fad 10 (.t 1) 0 0}, {i := .load 11 (.t 10) 0}, {i := .call 12 k_ref13_Vars [(.t 11)] none}, {i := .un 13 .not (.t 12)}, {i := .mv 14 (.t 13)}, ⟨(.fad 15 (.t 1) 0 0), (some (14, false))⟩, ⟨(.load 16 (.t 15) 0), (some (14, false))⟩, ⟨(.fad 17 (.t 1) 2 0), (some (14, false))⟩, ⟨(.load 18 (.t 17) 0), (some (14, false))⟩, ⟨(.call 19 k_ref15_Wrong [(.t 16), (.t 18)] none), (some (14, false))⟩, ⟨(.bin 20 .neq (.t 19) (.c (.d true (.int .i64 0)))), (some (14, false))⟩, {i := .pick 21 (.t 14) (.c (.d true (.bool true))) (.t 20)}] [])
def c_ref22_Check_p2 : C :=
(.rg 8 true [] [{i := .fad 29 (.t 1) 1 0}, {i := .load 30 (.t 29) 0}, {i := .mv 31 (.t 3)}, {i := .ix 32 (.t 30) (.t 31) 1}, {i := .load 33 (.t 32) 0}, {i := .len 34 (.t 33)}, {i := .bin 35 .eql (.t 34) (.c (.d true (.int .i64 0)))}, {i := .mv 36 (.t 35)}, ⟨(.fad 37 (.t 1) 1 0), (some (36, false))⟩, ⟨(.load 38 (.t 37) 0), (some (36, false))⟩, ⟨(.mv 39 (.t 3)), (some (36, false))⟩, ⟨(.ix 40 (.t 38) (.t 39) 1), (some (36, false))⟩, ⟨(.load 41 (.t 40) 0), (some (36, false))⟩, ⟨(.len 42 (.t 41)), (some (36, false))⟩, ⟨(.fad 43 (.t 1) 1 0), (some (36, false))⟩, ⟨(.load 44 (.t 43) 0), (some (36, false))⟩, ⟨(.ix 45 (.t 44) (.c (.d true (.int .i64 0))) 1), (some (36, false))⟩, ⟨(.load 46 (.t 45) 0), (some (36, false))⟩, ⟨(.len 47 (.t 46)), (some (36, false))⟩, ⟨(.bin 48 .neq (.t 42) (.t 47)), (some (36, false))⟩, {i := .pick 49 (.t 36) (.c (.d true (.bool true))) (.t 48)}, {i := .mv 50 (.t 49)}, ⟨(.fad 51 (.t 1) 1 0), (some (50, false))⟩, ⟨(.load 52 (.t 51) 0), (some (50, false))⟩, ⟨(.mv 53 (.t 3)), (some (50, false))⟩, ⟨(.ix 54 (.t 52) (.t 53) 1), (some (50, false))⟩, ⟨(.load 55 (.t 54) 0), (some (50, false))⟩, ⟨(.ix 56 (.t 55) (.c (.d true (.int .i64 0))) 1), (some (50, false))⟩, ⟨(.load 57 (.t 56) 0), (some (50, false))⟩, ⟨(.bin 58 .neq (.t 57) (.c (.d true (.int .i64 0)))), (some (50, false))⟩, {i := .pick 59 (.t 50) (.c (.d true (.bool true))) (.t 58)}] [])
def c_ref22_Check_p3 : C :=
(.rg 14 false [] [{i := .mv 78 (.t 5)}, {i := .bin 79 .lss (.t 78) (.c (.d true (.int .i64 (-1))))}, {i := .mv 80 (.t 79)}, ⟨(.mv 81 (.t 5)), (some (80, false))⟩, ⟨(.fad 82 (.t 1) 0 0), (some (80, false))⟩, ⟨(.load 83 (.t 82) 0), (some (80, false))⟩, ⟨(.bin 84 .mul (.c (.d true (.int .i64 2))) (.t 83)), (some (80, false))⟩, ⟨(.bin 85 .add (.t 84) (.c (.d true (.int .i64 1)))), (some (80, false))⟩, ⟨(.bin 86 .gtr (.t 81) (.t 85)), (some (80, false))⟩, {i := .pick 87 (.t 80) (.c (.d true (.bool true))) (.t 86)}] [])
def c_ref22_Check_l1 : C :=
(.seq (.seq (.rg 11 false [] [{i := .mv 60 (.t 4)}, {i := .fad 61 (.t 1) 1 0}, {i := .load 62 (.t 61) 0}, {i := .mv 63 (.t 3)}, {i := .ix 64 (.t 62) (.t 63) 1}, {i := .load 65 (.t 64) 0}, {i := .len 66 (.t 65)}, {i := .bin 67 .lss (.t 60) (.t 66)}] [])
 (.cond (.t 67) .skip (.exit 2)))
 (.seq (.block 3 (.seq (.rg 13 false [] [{i := .fad 70 (.t 1) 1 0}, {i := .load 71 (.t 70) 0}, {i := .mv 72 (.t 3)}, {i := .ix 73 (.t 71) (.t 72) 1}, {i := .load 74 (.t 73) 0}, {i := .mv 75 (.t 4)}, {i := .ix 76 (.t 74) (.t 75) 1}, {i := .load 77 (.t 76) 0}, {i := .mv 5 (.t 77)}] [])
 (.seq c_ref22_Check_p3
 (.cond (.t 87) (.seq (.rg 15 false [] [{i := .mv 2 (.c (.d true (.int .i64 8)))}] [])
 .ret) .skip))))
 (.rg 12 false [] [{i := .mv 68 (.t 4)}, {i := .bin 69 .add (.t 68) (.c (.d true (.int .i64 1)))}, {i := .mv 4 (.t 69)}] [])))
def c_ref22_Check_l2 : C :=
(.seq (.seq (.rg 6 false [] [{i := .mv 22 (.t 3)}, {i := .fad 23 (.t 1) 1 0}, {i := .load 24 (.t 23) 0}, {i := .len 25 (.t 24)}, {i := .bin 26 .lss (.t 22) (.t 25)}] [])
 (.cond (.t 26) .skip (.exit 0)))
 (.seq (.block 1 (.seq (.seq c_ref22_Check_p2
 (.cond (.t 59) (.seq (.rg 9 false [] [{i := .mv 2 (.c (.d true (.int .i64 8)))}] [])
 .ret) .skip))
 (.seq (.rg 10 false [] [{i := .mv 4 (.c (.d true (.int .i64 0)))}] [])
 (.block 2 (.loop c_ref22_Check_l1)))))
 (.rg 7 false [] [{i := .mv 27 (.t 3)}, {i := .bin 28 .add (.t 27) (.c (.d true (.int .i64 1)))}, {i := .mv 3 (.t 28)}] [])))
def c_ref22_Check : C :=
(.seq (.rg 0 false [] [{i := .box 1 0 (.t 0) 4}, {i := .mv 2 (.c (.d true (.int .i64 0)))}] [])
 (.seq (.seq (.rg 1 false [] [{i := .fad 6 (.t 1) 2 0}, {i := .load 7 (.t 6) 0}, {i := .len 8 (.t 7)}, {i := .bin 9 .gtr (.t 8) (.c (.d true (.int .i64 20000)))}] [])
 (.cond (.t 9) (.seq (.rg 2 false [] [{i := .mv 2 (.c (.d true (.int .i64 4)))}] [])
 .ret) .skip))
 (.seq (.seq c_ref22_Check_p1
 (.cond (.t 21) (.seq (.rg 4 false [] [{i := .mv 2 (.c (.d true (.int .i64 8)))}] [])
 .ret) .skip))
 (.seq (.seq (.rg 5 false [] [{i := .mv 3 (.c (.d true (.int .i64 0)))}] [])
 (.block 0 (.loop c_ref22_Check_l2)))
 (.seq (.rg 16 false [] [{i := .mv 2 (.c (.d true (.int .i64 0)))}] [])
 .ret)))))
def n_ref22_Check : Fn := ⟨c_ref22_Check, [.s 2], (some [false])⟩
def c_law23_named_p1 : C :=
(.rg 6 false [] [{i := .mv 43 (.t 14)}, {i := .bin 44 .neq (.t 43) (.c (.d true (.int .i64 0)))}, {i := .mv 45 (.t 44)}, ⟨(.mv 46 (.t 13)), (some (45, false))⟩, ⟨(.len 47 (.t 46)), (some (45, false))⟩, ⟨(.fad 48 (.t 5) 1 0), (some (45, false))⟩, ⟨(.load 49 (.t 48) 0), (some (45, false))⟩, ⟨(.mv 50 (.t 12)), (some (45, false))⟩, ⟨(.ix 51 (.t 49) (.t 50) 1), (some (45, false))⟩, ⟨(.load 52 (.t 51) 0), (some (45, false))⟩, ⟨(.len 53 (.t 52)), (some (45, false))⟩, ⟨(.bin 54 .neq (.t 47) (.t 53)), (some (45, false))⟩, {i := .pick 55 (.t 45) (.c (.d true (.bool true))) (.t 54)}] [])
def c_law23_named_p2 : C :=
(.rg 12 false [] [{i := .mv 70 (.t 16)}, {i := .bin 71 .geq (.t 70) (.c (.d true (.int .i64 2)))}, {i := .mv 72 (.t 71)}, ⟨(.mv 73 (.t 11)), (some (72, true))⟩, ⟨(.mv 74 (.t 16)), (some (72, true))⟩, ⟨(.bin 75 .quo (.t 74) (.c (.d true (.int .i64 2)))), (some (72, true))⟩, ⟨(.bin 76 .sub (.t 75) (.c (.d true (.int .i64 1)))), (some (72, true))⟩, ⟨(.ix 77 (.t 73) (.t 76) 1), (some (72, true))⟩, ⟨(.load 78 (.t 77) 0), (some (72, true))⟩, ⟨(.un 79 .not (.t 78)), (some (72, true))⟩, {i := .pick 80 (.t 72) (.t 79) (.c (.d true (.bool false)))}] [])
def c_law23_named_p3 : C :=
(.seq c_law23_named_p2
 (.cond (.t 80) (.seq (.rg 13 false [] [{i := .mv 81 (.t 11)}, {i := .mv 82 (.t 16)}, {i := .bin 83 .quo (.t 82) (.c (.d true (.int .i64 2)))}, {i := .bin 84 .sub (.t 83) (.c (.d true (.int .i64 1)))}, {i := .ix 85 (.t 81) (.t 84) 1}, {i := .store (.t 85) (.c (.d true (.bool true))) 0}] [])
 (.rg 14 false [] [{i := .mv 86 (.t 10)}, {i := .mv 87 (.t 16)}, {i := .bin 88 .quo (.t 87) (.c (.d true (.int .i64 2)))}, {i := .bin 89 .sub (.t 88) (.c (.d true (.int .i64 1)))}, {i := .mv 90 (.t 13)}, {i := .mv 91 (.t 15)}, {i := .ix 92 (.t 90) (.t 91) 1}, {i := .load 93 (.t 92) 0}, {i := .mv 94 (.t 16)}, {i := .bin 95 .rem (.t 94) (.c (.d true (.int .i64 2)))}, {i := .bin 96 .eql (.t 95) (.c (.d true (.int .i64 0)))}, {i := .beq 97 false (.t 93) (.t 96)}, {i := .ix 98 (.t 86) (.t 89) 1}, {i := .store (.t 98) (.t 97) 0}] [])) .skip))
def c_law23_named_p4 : C :=
(.rg 15 true [] [{i := .mv 99 (.t 16)}, {i := .bin 100 .lss (.t 99) (.c (.d true (.int .i64 0)))}, {i := .mv 101 (.t 100)}, ⟨(.mv 102 (.t 16)), (some (101, false))⟩, ⟨(.mv 103 (.t 10)), (some (101, false))⟩, ⟨(.call 104 k_ref22_True [(.t 102), (.t 103)] none), (some (101, false))⟩, ⟨(.mv 105 (.t 13)), (some (101, false))⟩, ⟨(.mv 106 (.t 15)), (some (101, false))⟩, ⟨(.ix 107 (.t 105) (.t 106) 1), (some (101, false))⟩, ⟨(.load 108 (.t 107) 0), (some (101, false))⟩, ⟨(.beq 109 true (.t 104) (.t 108)), (some (101, false))⟩, {i := .pick 110 (.t 101) (.c (.d true (.bool true))) (.t 109)}] [])
def c_law23_named_l1 : C :=
(.seq (.seq (.rg 9 false [] [{i := .mv 56 (.t 15)}, {i := .mv 57 (.t 13)}, {i := .len 58 (.t 57)}, {i := .bin 59 .lss (.t 56) (.t 58)}] [])
 (.cond (.t 59) .skip (.exit 2)))
 (.seq (.block 3 (.seq (.rg 11 false [] [{i := .fad 62 (.t 5) 1 0}, {i := .load 63 (.t 62) 0}, {i := .mv 64 (.t 12)}, {i := .ix 65 (.t 63) (.t 64) 1}, {i := .load 66 (.t 65) 0}, {i := .mv 67 (.t 15)}, {i := .ix 68 (.t 66) (.t 67) 1}, {i := .load 69 (.t 68) 0}, {i := .mv 16 (.t 69)}] [])
 (.seq c_law23_named_p3
 (.seq c_law23_named_p4
 (.cond (.t 110) (.seq (.rg 16 false [] [{i := .mv 8 (.c (.nil 1))}, {i := .mv 9 (.c (.d true (.bool false)))}] [])
 .ret) .skip)))))
 (.rg 10 false [] [{i := .mv 60 (.t 15)}, {i := .bin 61 .add (.t 60) (.c (.d true (.int .i64 1)))}, {i := .mv 15 (.t 61)}] [])))
def c_law23_named_l2 : C :=
(.seq (.seq (.rg 3 false [] [{i := .mv 23 (.t 12)}, {i := .fad 24 (.t 5) 1 0}, {i := .load 25 (.t 24) 0}, {i := .len 26 (.t 25)}, {i := .bin 27 .lss (.t 23) (.t 26)}] [])
 (.cond (.t 27) .skip (.exit 0)))
 (.seq (.block 1 (.seq (.rg 5 true [] [{i := .load 31 (.t 4) 6}, {i := .mv 32 (.t 2)}, {i := .mv 33 (.t 12)}, {i := .ix 34 (.t 32) (.t 33) 1}, {i := .load 35 (.t 34) 0}, {i := .mv 36 (.t 3)}, {i := .mv 37 (.t 12)}, {i := .ix 38 (.t 36) (.t 37) 1}, {i := .load 39 (.t 38) 0}, {i := .call 40 k_values_All [(.t 31), (.t 35), (.t 39)] none}, {i := .mv 30 (.t 40)}, {i := .xt 41 (.t 30) 0}, {i := .xt 42 (.t 30) 1}, {i := .mv 13 (.t 41)}, {i := .mv 14 (.t 42)}] [])
 (.seq (.seq c_law23_named_p1
 (.cond (.t 55) (.seq (.rg 7 false [] [{i := .mv 8 (.c (.nil 1))}, {i := .mv 9 (.c (.d true (.bool false)))}] [])
 .ret) .skip))
 (.seq (.rg 8 false [] [{i := .mv 15 (.c (.d true (.int .i64 0)))}] [])
 (.block 2 (.loop c_law23_named_l1))))))
 (.rg 4 false [] [{i := .mv 28 (.t 12)}, {i := .bin 29 .add (.t 28) (.c (.d true (.int .i64 1)))}, {i := .mv 12 (.t 29)}] [])))
def c_law23_named : C :=
(.seq (.rg 0 false [] [{i := .box 4 0 (.t 0) 6}, {i := .box 5 1 (.t 1) 4}, {i := .mv 8 (.c (.nil 1))}, {i := .mv 9 (.c (.d true (.bool false)))}] [])
 (.seq (.rg 1 true [] [{i := .fad 17 (.t 5) 0 0}, {i := .load 18 (.t 17) 0}, {i := .mks 19 2 1 (.t 18) (.t 18) (.k (.bool false))}, {i := .fad 20 (.t 5) 0 0}, {i := .load 21 (.t 20) 0}, {i := .mks 22 3 1 (.t 21) (.t 21) (.k (.bool false))}, {i := .mv 10 (.t 19)}, {i := .mv 11 (.t 22)}] [])
 (.seq (.seq (.rg 2 false [] [{i := .mv 12 (.c (.d true (.int .i64 0)))}] [])
 (.block 0 (.loop c_law23_named_l2)))
 (.seq (.rg 17 false [] [{i := .mv 111 (.t 10)}, {i := .mv 8 (.t 111)}, {i := .mv 9 (.c (.d true (.bool true)))}] [])
 .ret))))
def n_law23_named : Fn := ⟨c_law23_named, [.s 8, .s 9], (some [false, false, false, false])⟩
def c_solve_Model_p1 : C :=
(.rg 1 false [] [{i := .mv 13 (.t 0)}, {i := .bin 14 .lss (.t 13) (.c (.d true (.int .i64 0)))}, {i := .mv 15 (.t 14)}, ⟨(.mv 16 (.t 0)), (some (15, false))⟩, ⟨(.bin 17 .gtr (.t 16) (.c (.d true (.int .i64 4000)))), (some (15, false))⟩, {i := .pick 18 (.t 15) (.c (.d true (.bool true))) (.t 17)}, {i := .mv 19 (.t 18)}, ⟨(.mv 20 (.t 2)), (some (19, false))⟩, ⟨(.len 21 (.t 20)), (some (19, false))⟩, ⟨(.mv 22 (.t 0)), (some (19, false))⟩, ⟨(.bin 23 .neq (.t 21) (.t 22)), (some (19, false))⟩, {i := .pick 24 (.t 19) (.c (.d true (.bool true))) (.t 23)}] [])
def c_solve_Model_p2 : C :=
(.rg 10 false [] [{i := .mv 43 (.t 12)}, {i := .bin 44 .neq (.t 43) (.c (.d true (.int .i64 0)))}, {i := .mv 45 (.t 44)}, ⟨(.mv 46 (.t 11)), (some (45, false))⟩, ⟨(.un 47 .not (.t 46)), (some (45, false))⟩, {i := .pick 48 (.t 45) (.c (.d true (.bool true))) (.t 47)}] [])
def c_solve_Model_l1 : C :=
(.seq (.rg 7 false [] [{i := .bin 34 .lss (.t 33) (.t 32)}] [])
 (.seq (.cond (.t 34) .skip (.exit 0))
 (.seq (.block 1 (.seq (.rg 8 false [] [{i := .ix 35 (.t 31) (.t 33) 1}, {i := .load 36 (.t 35) 0}, {i := .mv 10 (.t 36)}] [])
 (.seq (.rg 9 false [] [{i := .mv 38 (.t 10)}, {i := .mv 39 (.t 2)}, {i := .call 40 k_clause_True [(.t 38), (.t 39)] none}, {i := .mv 37 (.t 40)}, {i := .xt 41 (.t 37) 0}, {i := .xt 42 (.t 37) 1}, {i := .mv 11 (.t 41)}, {i := .mv 12 (.t 42)}] [])
 (.seq c_solve_Model_p2
 (.cond (.t 48) (.seq (.rg 11 false [] [{i := .mv 49 (.t 12)}, {i := .mv 6 (.c (.d true (.bool false)))}, {i := .mv 7 (.t 49)}] [])
 .ret) .skip)))))
 (.rg 12 false [] [{i := .bin 50 .add (.t 33) (.c (.d true (.int .i64 1)))}, {i := .mv 33 (.t 50)}] []))))
def c_solve_Model : C :=
(.seq (.rg 0 false [] [{i := .mv 6 (.c (.d true (.bool false)))}, {i := .mv 7 (.c (.d true (.int .i64 0)))}] [])
 (.seq (.seq c_solve_Model_p1
 (.cond (.t 24) (.seq (.rg 2 false [] [{i := .mv 6 (.c (.d true (.bool false)))}, {i := .mv 7 (.c (.d true (.int .i64 2)))}] [])
 .ret) .skip))
 (.seq (.seq (.rg 3 false [] [{i := .mv 25 (.t 0)}, {i := .mv 26 (.t 1)}, {i := .call 27 k_solve_check [(.t 25), (.t 26)] none}, {i := .mv 8 (.t 27)}] [])
 (.seq (.rg 4 false [] [{i := .mv 28 (.t 8)}, {i := .bin 29 .neq (.t 28) (.c (.d true (.int .i64 0)))}] [])
 (.cond (.t 29) (.seq (.rg 5 false [] [{i := .mv 30 (.t 8)}, {i := .mv 6 (.c (.d true (.bool false)))}, {i := .mv 7 (.t 30)}] [])
 .ret) .skip)))
 (.seq (.seq (.rg 6 false [] [{i := .mv 31 (.t 1)}, {i := .len 32 (.t 31)}, {i := .mv 33 (.c (.d true (.int .i64 0)))}] [])
 (.block 0 (.loop c_solve_Model_l1)))
 (.seq (.rg 13 false [] [{i := .mv 6 (.c (.d true (.bool true)))}, {i := .mv 7 (.c (.d true (.int .i64 0)))}] [])
 .ret)))))
def n_solve_Model : Fn := ⟨c_solve_Model, [.s 6, .s 7], (some [false, false, false])⟩
def c_ref06_Check_p1 : C :=
(.rg 5 false [] [{i := .fad 15 (.t 3) 1 0}, {i := .load 16 (.t 15) 0}, {i := .len 17 (.t 16)}, {i := .bin 18 .eql (.t 17) (.c (.d true (.int .i64 0)))}, {i := .mv 19 (.t 18)}, ⟨(.fad 20 (.t 3) 0 0), (some (19, false))⟩, ⟨(.load 21 (.t 20) 0), (some (19, false))⟩, ⟨(.len 22 (.t 21)), (some (19, false))⟩, ⟨(.fad 23 (.t 2) 1 0), (some (19, false))⟩, ⟨(.load 24 (.t 23) 0), (some (19, false))⟩, ⟨(.len 25 (.t 24)), (some (19, false))⟩, ⟨(.bin 26 .neq (.t 22) (.t 25)), (some (19, false))⟩, {i := .pick 27 (.t 19) (.c (.d true (.bool true))) (.t 26)}, {i := .mv 28 (.t 27)}, ⟨(.load 29 (.t 2) 6), (some (28, false))⟩, ⟨(.fad 30 (.t 3) 0 0), (some (28, false))⟩, ⟨(.load 31 (.t 30) 0), (some (28, false))⟩, ⟨(.call 32 k_ref06_Starts [(.t 29), (.t 31)] none), (some (28, false))⟩, ⟨(.un 33 .not (.t 32)), (some (28, false))⟩, {i := .pick 34 (.t 28) (.c (.d true (.bool true))) (.t 33)}] [])
def c_ref06_Check_l1 : C :=
(.seq (.seq (.rg 8 false [] [{i := .mv 35 (.t 5)}, {i := .fad 36 (.t 3) 1 0}, {i := .load 37 (.t 36) 0}, {i := .len 38 (.t 37)}, {i := .bin 39 .lss (.t 35) (.t 38)}] [])
 (.cond (.t 39) .skip (.exit 0)))
 (.seq (.block 1 (.seq (.rg 10 true [] [{i := .fad 42 (.t 3) 1 0}, {i := .load 43 (.t 42) 0}, {i := .mv 44 (.t 5)}, {i := .ix 45 (.t 43) (.t 44) 1}, {i := .load 46 (.t 45) 0}, {i := .len 47 (.t 46)}, {i := .fad 48 (.t 2) 0 0}, {i := .load 49 (.t 48) 0}, {i := .bin 50 .neq (.t 47) (.t 49)}] [])
 (.cond (.t 50) (.seq (.rg 11 false [] [{i := .mv 4 (.c (.d true (.int .i64 8)))}] [])
 .ret) .skip)))
 (.rg 9 false [] [{i := .mv 40 (.t 5)}, {i := .bin 41 .add (.t 40) (.c (.d true (.int .i64 1)))}, {i := .mv 5 (.t 41)}] [])))
def c_ref06_Check : C :=
(.seq (.rg 0 false [] [{i := .box 2 0 (.t 0) 6}, {i := .box 3 1 (.t 1) 3}, {i := .mv 4 (.c (.d true (.int .i64 0)))}] [])
 (.seq (.seq (.rg 1 false [] [{i := .load 6 (.t 2) 6}, {i := .call 7 k_ref02_Check [(.t 6)] none}, {i := .bin 8 .neq (.t 7) (.c (.d true (.int .i64 0)))}] [])
 (.cond (.t 8) (.seq (.rg 2 false [] [{i := .load 9 (.t 2) 6}, {i := .call 10 k_ref02_Check [(.t 9)] none}, {i := .mv 4 (.t 10)}] [])
 .ret) .skip))
 (.seq (.seq (.rg 3 false [] [{i := .fad 11 (.t 3) 1 0}, {i := .load 12 (.t 11) 0}, {i := .len 13 (.t 12)}, {i := .bin 14 .gtr (.t 13) (.c (.d true (.int .i64 100)))}] [])
 (.cond (.t 14) (.seq (.rg 4 false [] [{i := .mv 4 (.c (.d true (.int .i64 4)))}] [])
 .ret) .skip))
 (.seq (.seq c_ref06_Check_p1
 (.cond (.t 34) (.seq (.rg 6 false [] [{i := .mv 4 (.c (.d true (.int .i64 8)))}] [])
 .ret) .skip))
 (.seq (.seq (.rg 7 false [] [{i := .mv 5 (.c (.d true (.int .i64 0)))}] [])
 (.block 0 (.loop c_ref06_Check_l1)))
 (.seq (.rg 12 false [] [{i := .mv 4 (.c (.d true (.int .i64 0)))}] [])
 .ret))))))
def n_ref06_Check : Fn := ⟨c_ref06_Check, [.s 4], (some [false, false])⟩
def c_traces_States_p1 : C :=
(.rg 2 false [] [{i := .load 8 (.t 2) 6}, {i := .load 9 (.t 3) 3}, {i := .fn 10 k_traces_States_1 [(.t 6)]}, {i := .call 11 k_traces_walk [(.t 8), (.t 9), (.t 10)] none}, {i := .mv 7 (.t 11)}] [])
def c_traces_States : C :=
(.seq (.rg 0 false [] [{i := .box 2 0 (.t 0) 6}, {i := .box 3 1 (.t 1) 3}, {i := .mv 4 (.c (.nil 1))}, {i := .mv 5 (.c (.d true (.int .i64 0)))}] [])
 (.seq (.rg 1 false [] [{i := .alloc 6 2 [(.r 3 1)]}] [])
 (.seq c_traces_States_p1
 (.seq (.rg 3 false [] [{i := .load 12 (.t 6) 0}, {i := .mv 13 (.t 7)}, {i := .mv 4 (.t 12)}, {i := .mv 5 (.t 13)}] [])
 .ret))))
def n_traces_States : Fn := ⟨c_traces_States, [.s 4, .s 5], (some [false, false])⟩
def c_clause_Check_p1 : C :=
(.rg 1 false [] [{i := .mv 7 (.t 0)}, {i := .bin 8 .lss (.t 7) (.c (.d true (.int .i64 0)))}, {i := .mv 9 (.t 8)}, ⟨(.mv 10 (.t 0)), (some (9, false))⟩, ⟨(.bin 11 .gtr (.t 10) (.c (.d true (.int .i64 4000)))), (some (9, false))⟩, {i := .pick 12 (.t 9) (.c (.d true (.bool true))) (.t 11)}] [])
def c_clause_Check_p2 : C :=
(.rg 6 false [] [{i := .mv 20 (.t 0)}, {i := .mv 21 (.t 6)}, {i := .call 22 k_clause_known [(.t 20), (.t 21)] none}, {i := .un 23 .not (.t 22)}, {i := .mv 24 (.t 23)}, ⟨(.mv 25 (.t 5)), (some (24, false))⟩, ⟨(.bin 26 .gtr (.t 25) (.c (.d true (.int .i64 0)))), (some (24, false))⟩, ⟨(.mv 27 (.t 26)), (some (24, false))⟩, ⟨(.mv 28 (.t 6)), (some (27, true))⟩, ⟨(.mv 29 (.t 1)), (some (27, true))⟩, ⟨(.mv 30 (.t 5)), (some (27, true))⟩, ⟨(.bin 31 .sub (.t 30) (.c (.d true (.int .i64 1)))), (some (27, true))⟩, ⟨(.ix 32 (.t 29) (.t 31) 1), (some (27, true))⟩, ⟨(.load 33 (.t 32) 0), (some (27, true))⟩, ⟨(.bin 34 .leq (.t 28) (.t 33)), (some (27, true))⟩, ⟨(.mv 35 (.t 34)), (some (27, true))⟩, ⟨(.mv 36 (.t 6)), (some (35, false))⟩, ⟨(.bin 37 .quo (.t 36) (.c (.d true (.int .i64 2)))), (some (35, false))⟩, ⟨(.mv 38 (.t 1)), (some (35, false))⟩, ⟨(.mv 39 (.t 5)), (some (35, false))⟩, ⟨(.bin 40 .sub (.t 39) (.c (.d true (.int .i64 1)))), (some (35, false))⟩, ⟨(.ix 41 (.t 38) (.t 40) 1), (some (35, false))⟩, ⟨(.load 42 (.t 41) 0), (some (35, false))⟩, ⟨(.bin 43 .quo (.t 42) (.c (.d true (.int .i64 2)))), (some (35, false))⟩, ⟨(.bin 44 .eql (.t 37) (.t 43)), (some (35, false))⟩, ⟨(.pick 45 (.t 35) (.c (.d true (.bool true))) (.t 44)), (some (27, true))⟩, ⟨(.pick 46 (.t 27) (.t 45) (.c (.d true (.bool false)))), (some (24, false))⟩, {i := .pick 47 (.t 24) (.c (.d true (.bool true))) (.t 46)}] [])
def c_clause_Check_l1 : C :=
(.seq (.rg 4 false [] [{i := .bin 16 .lss (.t 15) (.t 14)}] [])
 (.seq (.cond (.t 16) .skip (.exit 0))
 (.seq (.block 1 (.seq (.rg 5 false [] [{i := .mv 17 (.t 15)}, {i := .ix 18 (.t 13) (.t 15) 1}, {i := .load 19 (.t 18) 0}, {i := .mv 5 (.t 17)}, {i := .mv 6 (.t 19)}] [])
 (.seq c_clause_Check_p2
 (.cond (.t 47) (.seq (.rg 7 false [] [{i := .mv 4 (.c (.d true (.int .i64 8)))}] [])
 .ret) .skip))))
 (.rg 8 false [] [{i := .bin 48 .add (.t 15) (.c (.d true (.int .i64 1)))}, {i := .mv 15 (.t 48)}] []))))
def c_clause_Check : C :=
(.seq (.rg 0 false [] [{i := .mv 4 (.c (.d true (.int .i64 0)))}] [])
 (.seq (.seq c_clause_Check_p1
 (.cond (.t 12) (.seq (.rg 2 false [] [{i := .mv 4 (.c (.d true (.int .i64 2)))}] [])
 .ret) .skip))
 (.seq (.seq (.rg 3 false [] [{i := .mv 13 (.t 1)}, {i := .len 14 (.t 13)}, {i := .mv 15 (.c (.d true (.int .i64 0)))}] [])
 (.block 0 (.loop c_clause_Check_l1)))
 (.seq (.rg 9 false [] [{i := .mv 4 (.c (.d true (.int .i64 0)))}] [])
 .ret))))
def n_clause_Check : Fn := ⟨c_clause_Check, [.s 4], (some [false, false])⟩
def c_ref13_Valid_p1 : C :=
(.rg 4 true [] [{i := .mv 12 (.t 0)}, {i := .mv 13 (.t 1)}, {i := .mv 14 (.t 5)}, {i := .ix 15 (.t 13) (.t 14) 1}, {i := .load 16 (.t 15) 0}, {i := .call 17 k_ref13_Lit [(.t 12), (.t 16)] none}, {i := .un 18 .not (.t 17)}, {i := .mv 19 (.t 18)}, ⟨(.mv 20 (.t 5)), (some (19, false))⟩, ⟨(.bin 21 .gtr (.t 20) (.c (.d true (.int .i64 0)))), (some (19, false))⟩, ⟨(.mv 22 (.t 21)), (some (19, false))⟩, ⟨(.mv 23 (.t 1)), (some (22, true))⟩, ⟨(.mv 24 (.t 5)), (some (22, true))⟩, ⟨(.ix 25 (.t 23) (.t 24) 1), (some (22, true))⟩, ⟨(.load 26 (.t 25) 0), (some (22, true))⟩, ⟨(.mv 27 (.t 1)), (some (22, true))⟩, ⟨(.mv 28 (.t 5)), (some (22, true))⟩, ⟨(.bin 29 .sub (.t 28) (.c (.d true (.int .i64 1)))), (some (22, true))⟩, ⟨(.ix 30 (.t 27) (.t 29) 1), (some (22, true))⟩, ⟨(.load 31 (.t 30) 0), (some (22, true))⟩, ⟨(.bin 32 .sub (.t 26) (.t 31)), (some (22, true))⟩, ⟨(.bin 33 .lss (.t 32) (.c (.d true (.int .i64 1)))), (some (22, true))⟩, ⟨(.pick 34 (.t 22) (.t 33) (.c (.d true (.bool false)))), (some (19, false))⟩, {i := .pick 35 (.t 19) (.c (.d true (.bool true))) (.t 34)}, {i := .mv 36 (.t 35)}, ⟨(.mv 37 (.t 5)), (some (36, false))⟩, ⟨(.bin 38 .gtr (.t 37) (.c (.d true (.int .i64 0)))), (some (36, false))⟩, ⟨(.mv 39 (.t 38)), (some (36, false))⟩, ⟨(.mv 40 (.t 1)), (some (39, true))⟩, ⟨(.mv 41 (.t 5)), (some (39, true))⟩, ⟨(.bin 42 .sub (.t 41) (.c (.d true (.int .i64 1)))), (some (39, true))⟩, ⟨(.ix 43 (.t 40) (.t 42) 1), (some (39, true))⟩, ⟨(.load 44 (.t 43) 0), (some (39, true))⟩, ⟨(.bin 45 .rem (.t 44) (.c (.d true (.int .i64 2)))), (some (39, true))⟩, ⟨(.bin 46 .eql (.t 45) (.c (.d true (.int .i64 0)))), (some (39, true))⟩, ⟨(.pick 47 (.t 39) (.t 46) (.c (.d true (.bool false)))), (some (36, false))⟩, ⟨(.mv 48 (.t 47)), (some (36, false))⟩, ⟨(.mv 49 (.t 1)), (some (48, true))⟩, ⟨(.mv 50 (.t 5)), (some (48, true))⟩, ⟨(.ix 51 (.t 49) (.t 50) 1), (some (48, true))⟩, ⟨(.load 52 (.t 51) 0), (some (48, true))⟩, ⟨(.mv 53 (.t 1)), (some (48, true))⟩, ⟨(.mv 54 (.t 5)), (some (48, true))⟩, ⟨(.bin 55 .sub (.t 54) (.c (.d true (.int .i64 1)))), (some (48, true))⟩, ⟨(.ix 56 (.t 53) (.t 55) 1), (some (48, true))⟩, ⟨(.load 57 (.t 56) 0), (some (48, true))⟩, ⟨(.bin 58 .add (.t 57) (.c (.d true (.int .i64 1)))), (some (48, true))⟩, ⟨(.bin 59 .eql (.t 52) (.t 58)), (some (48, true))⟩, ⟨(.pick 60 (.t 48) (.t 59) (.c (.d true (.bool false)))), (some (36, false))⟩, {i := .pick 61 (.t 36) (.c (.d true (.bool true))) (.t 60)}] [])
def c_ref13_Valid_l1 : C :=
(.seq (.seq (.rg 2 false [] [{i := .mv 6 (.t 5)}, {i := .mv 7 (.t 1)}, {i := .len 8 (.t 7)}, {i := .bin 9 .lss (.t 6) (.t 8)}] [])
 (.cond (.t 9) .skip (.exit 0)))
 (.seq (.block 1 (.seq c_ref13_Valid_p1
 (.cond (.t 61) (.seq (.rg 5 false [] [{i := .mv 4 (.c (.d true (.bool false)))}] [])
 .ret) .skip)))
 (.rg 3 false [] [{i := .mv 10 (.t 5)}, {i := .bin 11 .add (.t 10) (.c (.d true (.int .i64 1)))}, {i := .mv 5 (.t 11)}] [])))
def c_ref13_Valid : C :=
(.seq (.rg 0 false [] [{i := .mv 4 (.c (.d true (.bool false)))}] [])
 (.seq (.seq (.rg 1 false [] [{i := .mv 5 (.c (.d true (.int .i64 0)))}] [])
 (.block 0 (.loop c_ref13_Valid_l1)))
 (.seq (.rg 6 false [] [{i := .mv 4 (.c (.d true (.bool true)))}] [])
 .ret)))
def n_ref13_Valid : Fn := ⟨c_ref13_Valid, [.s 4], (some [false, false])⟩
def c_slices_ContainsFunc_of_int_p1 : C :=
(.rg 1 false [] [{i := .mv 5 (.t 0)}, {i := .mv 6 (.t 1)}, {i := .call 7 k_slices_IndexFunc_of_int [(.t 5), (.t 6)] none}, {i := .bin 8 .geq (.t 7) (.c (.d true (.int .i64 0)))}, {i := .mv 4 (.t 8)}] [])
def c_slices_ContainsFunc_of_int : C :=
(.seq (.rg 0 false [] [{i := .mv 4 (.c (.d true (.bool false)))}] [])
 (.seq c_slices_ContainsFunc_of_int_p1
 .ret))
def n_slices_ContainsFunc_of_int : Fn := ⟨c_slices_ContainsFunc_of_int, [.s 4], none⟩
def c_ref02_Great_p1 : C :=
(.rg 1 false [] [{i := .fad 3 (.t 1) 1 0}, {i := .load 4 (.t 3) 0}, {i := .len 5 (.t 4)}, {i := .bin 6 .gtr (.t 5) (.c (.d true (.int .i64 60)))}, {i := .mv 7 (.t 6)}, ⟨(.fad 8 (.t 1) 2 0), (some (7, false))⟩, ⟨(.load 9 (.t 8) 0), (some (7, false))⟩, ⟨(.len 10 (.t 9)), (some (7, false))⟩, ⟨(.bin 11 .gtr (.t 10) (.c (.d true (.int .i64 120)))), (some (7, false))⟩, {i := .pick 12 (.t 7) (.c (.d true (.bool true))) (.t 11)}, {i := .mv 13 (.t 12)}, ⟨(.fad 14 (.t 1) 3 0), (some (13, false))⟩, ⟨(.load 15 (.t 14) 0), (some (13, false))⟩, ⟨(.len 16 (.t 15)), (some (13, false))⟩, ⟨(.bin 17 .gtr (.t 16) (.c (.d true (.int .i64 110)))), (some (13, false))⟩, {i := .pick 18 (.t 13) (.c (.d true (.bool true))) (.t 17)}, {i := .mv 19 (.t 18)}, ⟨(.fad 20 (.t 1) 4 0), (some (19, false))⟩, ⟨(.load 21 (.t 20) 0), (some (19, false))⟩, ⟨(.len 22 (.t 21)), (some (19, false))⟩, ⟨(.bin 23 .gtr (.t 22) (.c (.d true (.int .i64 110)))), (some (19, false))⟩, {i := .pick 24 (.t 19) (.c (.d true (.bool true))) (.t 23)}, {i := .mv 25 (.t 24)}, ⟨(.fad 26 (.t 1) 0 0), (some (25, false))⟩, ⟨(.load 27 (.t 26) 0), (some (25, false))⟩, ⟨(.bin 28 .gtr (.t 27) (.c (.d true (.int .i64 40)))), (some (25, false))⟩, ⟨(.mv 29 (.t 28)), (some (25, false))⟩, ⟨(.fad 30 (.t 1) 0 0), (some (29, true))⟩, ⟨(.load 31 (.t 30) 0), (some (29, true))⟩, ⟨(.bin 32 .lss (.t 31) (.c (.d true (.int .i64 996)))), (some (29, true))⟩, ⟨(.pick 33 (.t 29) (.t 32) (.c (.d true (.bool false)))), (some (25, false))⟩, {i := .pick 34 (.t 25) (.c (.d true (.bool true))) (.t 33)}, {i := .mv 2 (.t 34)}] [])
def c_ref02_Great : C :=
(.seq (.rg 0 false [] [{i := .box 1 0 (.t 0) 6}, {i := .mv 2 (.c (.d true (.bool false)))}] [])
 (.seq c_ref02_Great_p1
 .ret))
def n_ref02_Great : Fn := ⟨c_ref02_Great, [.s 2], (some [false])⟩
def c_ref02_Size : C :=
(.seq (.rg 0 false [] [{i := .box 1 0 (.t 0) 6}, {i := .mv 2 (.c (.d true (.int .i64 0)))}] [])
 (.seq (.rg 1 false [] [{i := .fad 3 (.t 1) 0 0}, {i := .load 4 (.t 3) 0}, {i := .fad 5 (.t 1) 1 0}, {i := .load 6 (.t 5) 0}, {i := .len 7 (.t 6)}, {i := .bin 8 .add (.t 4) (.t 7)}, {i := .fad 9 (.t 1) 2 0}, {i := .load 10 (.t 9) 0}, {i := .len 11 (.t 10)}, {i := .bin 12 .add (.t 8) (.t 11)}, {i := .mv 2 (.t 12)}] [])
 .ret))
def n_ref02_Size : Fn := ⟨c_ref02_Size, [.s 2], (some [false])⟩
def c_gates_Check_p1 : C :=
(.rg 3 false [] [{i := .fad 11 (.t 1) 0 0}, {i := .load 12 (.t 11) 0}, {i := .bin 13 .gtr (.t 12) (.c (.d true (.int .i64 1000)))}, {i := .mv 14 (.t 13)}, ⟨(.load 15 (.t 1) 6), (some (14, false))⟩, ⟨(.call 16 k_gates_starts [(.t 15)] none), (some (14, false))⟩, ⟨(.ixa 17 (.t 16) (.c (.d true (.int .i64 3))) 4 0), (some (14, false))⟩, ⟨(.bin 18 .sub (.t 17) (.c (.d true (.int .i64 1)))), (some (14, false))⟩, ⟨(.bin 19 .gtr (.t 18) (.c (.d true (.int .i64 1000)))), (some (14, false))⟩, {i := .pick 20 (.t 14) (.c (.d true (.bool true))) (.t 19)}, {i := .mv 21 (.t 20)}, ⟨(.fad 22 (.t 1) 3 0), (some (21, false))⟩, ⟨(.load 23 (.t 22) 0), (some (21, false))⟩, ⟨(.len 24 (.t 23)), (some (21, false))⟩, ⟨(.fad 25 (.t 1) 4 0), (some (21, false))⟩, ⟨(.load 26 (.t 25) 0), (some (21, false))⟩, ⟨(.len 27 (.t 26)), (some (21, false))⟩, ⟨(.mx 28 (.t 24) [(.t 27)]), (some (21, false))⟩, ⟨(.bin 29 .gtr (.t 28) (.c (.d true (.int .i64 100)))), (some (21, false))⟩, {i := .pick 30 (.t 21) (.c (.d true (.bool true))) (.t 29)}] [])
def c_gates_Check_p2 : C :=
(.rg 8 false [] [{i := .fad 35 (.t 1) 3 0}, {i := .load 36 (.t 35) 0}, {i := .load 37 (.t 4) 0}, {i := .call 38 k_slices_ContainsFunc_of_int [(.t 36), (.t 37)] none}, {i := .mv 39 (.t 38)}, ⟨(.fad 40 (.t 1) 4 0), (some (39, false))⟩, ⟨(.load 41 (.t 40) 0), (some (39, false))⟩, ⟨(.load 42 (.t 4) 0), (some (39, false))⟩, ⟨(.call 43 k_slices_ContainsFunc_of_int [(.t 41), (.t 42)] none), (some (39, false))⟩, {i := .pick 44 (.t 39) (.c (.d true (.bool true))) (.t 43)}, {i := .mv 45 (.t 44)}, ⟨(.fad 46 (.t 1) 1 0), (some (45, false))⟩, ⟨(.load 47 (.t 46) 0), (some (45, false))⟩, ⟨(.mv 48 (.t 5)), (some (45, false))⟩, ⟨(.call 49 k_slices_ContainsFunc_of_api_Latch [(.t 47), (.t 48)] none), (some (45, false))⟩, {i := .pick 50 (.t 45) (.c (.d true (.bool true))) (.t 49)}] [])
def c_gates_Check_p3 : C :=
(.rg 13 false [] [{i := .fad 59 (.t 7) 1 0}, {i := .load 60 (.t 59) 0}, {i := .bin 61 .lss (.t 60) (.c (.d true (.int .i64 0)))}, {i := .mv 62 (.t 61)}, ⟨(.fad 63 (.t 7) 0 0), (some (62, false))⟩, ⟨(.load 64 (.t 63) 0), (some (62, false))⟩, ⟨(.fad 65 (.t 7) 1 0), (some (62, false))⟩, ⟨(.load 66 (.t 65) 0), (some (62, false))⟩, ⟨(.bin 67 .lss (.t 64) (.t 66)), (some (62, false))⟩, {i := .pick 68 (.t 62) (.c (.d true (.bool true))) (.t 67)}, {i := .mv 69 (.t 68)}, ⟨(.fad 70 (.t 7) 0 0), (some (69, false))⟩, ⟨(.load 71 (.t 70) 0), (some (69, false))⟩, ⟨(.ixb 72 (.t 3) (.c (.d true (.int .i64 2))) 4 1), (some (69, false))⟩, ⟨(.load 73 (.t 72) 0), (some (69, false))⟩, ⟨(.mv 74 (.t 6)), (some (69, false))⟩, ⟨(.bin 75 .add (.t 73) (.t 74)), (some (69, false))⟩, ⟨(.bin 76 .mul (.c (.d true (.int .i64 2))) (.t 75)), (some (69, false))⟩, ⟨(.bin 77 .geq (.t 71) (.t 76)), (some (69, false))⟩, {i := .pick 78 (.t 69) (.c (.d true (.bool true))) (.t 77)}] [])
def c_gates_Check_l1 : C :=
(.seq (.rg 11 false [] [{i := .bin 55 .lss (.t 54) (.t 53)}] [])
 (.seq (.cond (.t 55) .skip (.exit 0))
 (.seq (.block 1 (.seq (.rg 12 false [(.kill 3 4)] [{i := .mv 56 (.t 54)}, {i := .ix 57 (.t 52) (.t 54) 2}, {i := .load 58 (.t 57) 3}, {i := .alloc 7 3 [(.k (.int .i64 0)), (.k (.int .i64 0))]}, {i := .mv 6 (.t 56)}, {i := .store (.t 7) (.t 58) 3}] [])
 (.seq c_gates_Check_p3
 (.cond (.t 78) (.seq (.rg 14 false [] [{i := .mv 2 (.c (.d true (.int .i64 8)))}] [])
 .ret) .skip))))
 (.rg 15 false [] [{i := .bin 79 .add (.t 54) (.c (.d true (.int .i64 1)))}, {i := .mv 54 (.t 79)}] []))))
def c_gates_Check : C :=
(.seq (.rg 0 false [] [{i := .box 1 0 (.t 0) 6}, {i := .mv 2 (.c (.d true (.int .i64 0)))}] [])
 (.seq (.seq (.rg 1 false [] [{i := .fad 8 (.t 1) 0 0}, {i := .load 9 (.t 8) 0}, {i := .bin 10 .lss (.t 9) (.c (.d true (.int .i64 0)))}] [])
 (.cond (.t 10) (.seq (.rg 2 false [] [{i := .mv 2 (.c (.d true (.int .i64 8)))}] [])
 .ret) .skip))
 (.seq (.seq c_gates_Check_p1
 (.cond (.t 30) (.seq (.rg 4 false [] [{i := .mv 2 (.c (.d true (.int .i64 4)))}] [])
 .ret) .skip))
 (.seq (.rg 5 false [] [{i := .load 31 (.t 1) 6}, {i := .call 32 k_gates_starts [(.t 31)] none}, {i := .alloc 3 1 [(.k (.int .i64 0)), (.k (.int .i64 0)), (.k (.int .i64 0)), (.k (.int .i64 0))]}, {i := .store (.t 3) (.t 32) 5}] [])
 (.seq (.rg 6 false [] [{i := .fn 33 k_gates_Check_1 [(.t 3)]}, {i := .alloc 4 2 [.u]}, {i := .store (.t 4) (.t 33) 0}] [])
 (.seq (.rg 7 false [] [{i := .fn 34 k_gates_Check_2 [(.t 4)]}, {i := .mv 5 (.t 34)}] [])
 (.seq (.seq c_gates_Check_p2
 (.cond (.t 50) (.seq (.rg 9 false [] [{i := .mv 2 (.c (.d true (.int .i64 8)))}] [])
 .ret) .skip))
 (.seq (.seq (.rg 10 false [] [{i := .fad 51 (.t 1) 2 0}, {i := .load 52 (.t 51) 0}, {i := .len 53 (.t 52)}, {i := .mv 54 (.c (.d true (.int .i64 0)))}] [])
 (.block 0 (.loop c_gates_Check_l1)))
 (.seq (.rg 16 false [] [{i := .mv 2 (.c (.d true (.int .i64 0)))}] [])
 .ret)))))))))
def n_gates_Check : Fn := ⟨c_gates_Check, [.s 2], (some [false])⟩
def c_unroll_made_p1 : C :=
(.rg 1 false [] [{i := .mv 12 (.t 1)}, {i := .bin 13 .lss (.t 12) (.c (.d true (.int .i64 1)))}, {i := .mv 14 (.t 13)}, ⟨(.mv 15 (.t 1)), (some (14, false))⟩, ⟨(.bin 16 .gtr (.t 15) (.c (.d true (.int .i64 100)))), (some (14, false))⟩, {i := .pick 17 (.t 14) (.c (.d true (.bool true))) (.t 16)}] [])
def c_unroll_made_l1 : C :=
(.seq (.rg 11 false [] [{i := .bin 41 .lss (.t 40) (.t 39)}] [])
 (.seq (.cond (.t 41) .skip (.exit 2))
 (.seq (.block 3 (.seq (.rg 12 false [(.kill 8 9)] [{i := .ix 42 (.t 38) (.t 40) 2}, {i := .load 43 (.t 42) 3}, {i := .alloc 11 8 [(.k (.int .i64 0)), (.k (.int .i64 0))]}, {i := .store (.t 11) (.t 43) 3}] [])
 (.rg 13 false [(.kill 9 10)] [{i := .mv 44 (.t 2)}, {i := .mv 45 (.t 9)}, {i := .fad 46 (.t 11) 0 0}, {i := .load 47 (.t 46) 0}, {i := .call 48 k_unroll_lit [(.t 45), (.t 47)] none}, {i := .bsl 49 9 1 1 (.k (.int .i64 0)) [(0, (.t 48))]}, {i := .app 50 10 1 (.t 44) (.t 49)}, {i := .mv 2 (.t 50)}] [])))
 (.rg 14 false [] [{i := .bin 51 .add (.t 40) (.c (.d true (.int .i64 1)))}, {i := .mv 40 (.t 51)}] []))))
def c_unroll_made_l2 : C :=
(.seq (.rg 5 false [] [{i := .bin 21 .lss (.t 20) (.t 19)}] [])
 (.seq (.cond (.t 21) .skip (.exit 0))
 (.seq (.block 1 (.seq (.seq (.rg 6 false [] [{i := .load 22 (.t 3) 6}, {i := .mv 23 (.t 2)}, {i := .call 24 k_unroll_frames_frame [(.t 8), (.t 22), (.t 23)] none}, {i := .un 25 .not (.t 24)}] [])
 (.cond (.t 25) (.seq (.rg 7 false [] [{i := .bld 26 [(.k (.int .i64 0)), (.n 1), (.n 1)] []}, {i := .store (.t 6) (.t 26) 4}, {i := .mv 7 (.c (.d true (.int .i64 4)))}] [])
 .ret) .skip))
 (.seq (.rg 8 false [] [{i := .fad 27 (.t 8) 0 4}, {i := .fad 28 (.t 27) 1 0}, {i := .load 29 (.t 28) 0}, {i := .fad 30 (.t 8) 0 4}, {i := .fad 31 (.t 30) 1 0}, {i := .load 32 (.t 31) 0}, {i := .len 33 (.t 32)}, {i := .bin 34 .sub (.t 33) (.c (.d true (.int .i64 1)))}, {i := .ix 35 (.t 29) (.t 34) 1}, {i := .load 36 (.t 35) 0}, {i := .mv 9 (.t 36)}] [])
 (.seq (.rg 9 false [(.kill 7 8)] [{i := .nilr 2 7 1}] [])
 (.seq (.rg 10 false [] [{i := .fad 37 (.t 3) 1 0}, {i := .load 38 (.t 37) 0}, {i := .len 39 (.t 38)}, {i := .mv 40 (.c (.d true (.int .i64 0)))}] [])
 (.block 2 (.loop c_unroll_made_l1)))))))
 (.rg 15 false [] [{i := .bin 52 .add (.t 20) (.c (.d true (.int .i64 1)))}, {i := .mv 20 (.t 52)}] []))))
def c_unroll_made : C :=
(.seq (.rg 0 false [] [{i := .box 3 0 (.t 0) 6}, {i := .alloc 6 1 [(.k (.int .i64 0)), (.r 2 1), (.r 3 1)]}, {i := .mv 7 (.c (.d true (.int .i64 0)))}] [])
 (.seq (.seq c_unroll_made_p1
 (.cond (.t 17) (.seq (.rg 2 false [] [{i := .bld 18 [(.k (.int .i64 0)), (.n 1), (.n 1)] []}, {i := .store (.t 6) (.t 18) 4}, {i := .mv 7 (.c (.d true (.int .i64 2)))}] [])
 .ret) .skip))
 (.seq (.rg 3 false [] [{i := .alloc 8 4 [(.k (.int .i64 0)), (.r 5 1), (.r 6 1)]}] [])
 (.seq (.seq (.rg 4 false [] [{i := .mv 19 (.t 1)}, {i := .mv 20 (.c (.d true (.int .i64 0)))}] [])
 (.block 0 (.loop c_unroll_made_l2)))
 (.seq (.rg 16 false [] [{i := .fad 53 (.t 8) 0 4}, {i := .load 54 (.t 53) 4}, {i := .store (.t 6) (.t 54) 4}, {i := .mv 7 (.c (.d true (.int .i64 0)))}] [])
 .ret)))))
def n_unroll_made : Fn := ⟨c_unroll_made, [.c 6 4, .s 7], (some [false, false, false])⟩
def c_ref02_literals_p1 : C :=
(.rg 4 false [] [{i := .mv 12 (.t 0)}, {i := .mv 13 (.t 5)}, {i := .ix 14 (.t 12) (.t 13) 1}, {i := .load 15 (.t 14) 0}, {i := .bin 16 .lss (.t 15) (.c (.d true (.int .i64 0)))}, {i := .mv 17 (.t 16)}, ⟨(.mv 18 (.t 0)), (some (17, false))⟩, ⟨(.mv 19 (.t 5)), (some (17, false))⟩, ⟨(.ix 20 (.t 18) (.t 19) 1), (some (17, false))⟩, ⟨(.load 21 (.t 20) 0), (some (17, false))⟩, ⟨(.bin 22 .quo (.t 21) (.c (.d true (.int .i64 2)))), (some (17, false))⟩, ⟨(.mv 23 (.t 1)), (some (17, false))⟩, ⟨(.bin 24 .gtr (.t 22) (.t 23)), (some (17, false))⟩, {i := .pick 25 (.t 17) (.c (.d true (.bool true))) (.t 24)}] [])
def c_ref02_literals_l1 : C :=
(.seq (.seq (.rg 2 false [] [{i := .mv 6 (.t 5)}, {i := .mv 7 (.t 0)}, {i := .len 8 (.t 7)}, {i := .bin 9 .lss (.t 6) (.t 8)}] [])
 (.cond (.t 9) .skip (.exit 0)))
 (.seq (.block 1 (.seq c_ref02_literals_p1
 (.cond (.t 25) (.seq (.rg 5 false [] [{i := .mv 4 (.c (.d true (.bool false)))}] [])
 .ret) .skip)))
 (.rg 3 false [] [{i := .mv 10 (.t 5)}, {i := .bin 11 .add (.t 10) (.c (.d true (.int .i64 1)))}, {i := .mv 5 (.t 11)}] [])))
def c_ref02_literals : C :=
(.seq (.rg 0 false [] [{i := .mv 4 (.c (.d true (.bool false)))}] [])
 (.seq (.seq (.rg 1 false [] [{i := .mv 5 (.c (.d true (.int .i64 0)))}] [])
 (.block 0 (.loop c_ref02_literals_l1)))
 (.seq (.rg 6 false [] [{i := .mv 4 (.c (.d true (.bool true)))}] [])
 .ret)))
def n_ref02_literals : Fn := ⟨c_ref02_literals, [.s 4], (some [false, false])⟩
def c_gates_Vars : C :=
(.seq (.rg 0 false [] [{i := .box 1 0 (.t 0) 6}, {i := .mv 2 (.c (.d true (.int .i64 0)))}, {i := .mv 3 (.c (.d true (.int .i64 0)))}] [])
 (.seq (.seq (.rg 1 false [] [{i := .load 5 (.t 1) 6}, {i := .call 6 k_gates_Check [(.t 5)] none}, {i := .mv 4 (.t 6)}] [])
 (.seq (.rg 2 false [] [{i := .mv 7 (.t 4)}, {i := .bin 8 .neq (.t 7) (.c (.d true (.int .i64 0)))}] [])
 (.cond (.t 8) (.seq (.rg 3 false [] [{i := .mv 9 (.t 4)}, {i := .mv 2 (.c (.d true (.int .i64 0)))}, {i := .mv 3 (.t 9)}] [])
 .ret) .skip)))
 (.seq (.rg 4 false [] [{i := .load 10 (.t 1) 6}, {i := .call 11 k_gates_starts [(.t 10)] none}, {i := .ixa 12 (.t 11) (.c (.d true (.int .i64 3))) 4 0}, {i := .bin 13 .sub (.t 12) (.c (.d true (.int .i64 1)))}, {i := .mv 2 (.t 13)}, {i := .mv 3 (.c (.d true (.int .i64 0)))}] [])
 .ret)))
def n_gates_Vars : Fn := ⟨c_gates_Vars, [.s 2, .s 3], (some [false])⟩
def c_tseitin_Check_p1 : C :=
(.rg 3 false [] [{i := .fad 13 (.t 1) 0 0}, {i := .load 14 (.t 13) 0}, {i := .bin 15 .lss (.t 14) (.c (.d true (.int .i64 0)))}, {i := .mv 16 (.t 15)}, ⟨(.fad 17 (.t 1) 0 0), (some (16, false))⟩, ⟨(.load 18 (.t 17) 0), (some (16, false))⟩, ⟨(.bin 19 .gtr (.t 18) (.c (.d true (.int .i64 4000)))), (some (16, false))⟩, {i := .pick 20 (.t 16) (.c (.d true (.bool true))) (.t 19)}] [])
def c_tseitin_Check_p2 : C :=
(.rg 8 false [] [{i := .mv 28 (.t 4)}, {i := .len 29 (.t 28)}, {i := .bin 30 .eql (.t 29) (.c (.d true (.int .i64 0)))}, {i := .mv 31 (.t 30)}, ⟨(.mv 32 (.t 4)), (some (31, false))⟩, ⟨(.len 33 (.t 32)), (some (31, false))⟩, ⟨(.fad 34 (.t 1) 1 0), (some (31, false))⟩, ⟨(.load 35 (.t 34) 0), (some (31, false))⟩, ⟨(.ix 36 (.t 35) (.c (.d true (.int .i64 0))) 1), (some (31, false))⟩, ⟨(.load 37 (.t 36) 0), (some (31, false))⟩, ⟨(.len 38 (.t 37)), (some (31, false))⟩, ⟨(.bin 39 .neq (.t 33) (.t 38)), (some (31, false))⟩, {i := .pick 40 (.t 31) (.c (.d true (.bool true))) (.t 39)}, {i := .mv 41 (.t 40)}, ⟨(.mv 42 (.t 4)), (some (41, false))⟩, ⟨(.ix 43 (.t 42) (.c (.d true (.int .i64 0))) 1), (some (41, false))⟩, ⟨(.load 44 (.t 43) 0), (some (41, false))⟩, ⟨(.bin 45 .neq (.t 44) (.c (.d true (.int .i64 0)))), (some (41, false))⟩, {i := .pick 46 (.t 41) (.c (.d true (.bool true))) (.t 45)}] [])
def c_tseitin_Check_p3 : C :=
(.rg 13 false [] [{i := .mv 53 (.t 6)}, {i := .bin 54 .lss (.t 53) (.c (.d true (.int .i64 (-1))))}, {i := .mv 55 (.t 54)}, ⟨(.mv 56 (.t 6)), (some (55, false))⟩, ⟨(.fad 57 (.t 1) 0 0), (some (55, false))⟩, ⟨(.load 58 (.t 57) 0), (some (55, false))⟩, ⟨(.bin 59 .mul (.c (.d true (.int .i64 2))) (.t 58)), (some (55, false))⟩, ⟨(.bin 60 .add (.t 59) (.c (.d true (.int .i64 1)))), (some (55, false))⟩, ⟨(.bin 61 .gtr (.t 56) (.t 60)), (some (55, false))⟩, {i := .pick 62 (.t 55) (.c (.d true (.bool true))) (.t 61)}] [])
def c_tseitin_Check_l1 : C :=
(.seq (.rg 11 false [] [{i := .bin 50 .lss (.t 49) (.t 48)}] [])
 (.seq (.cond (.t 50) .skip (.exit 2))
 (.seq (.block 3 (.seq (.rg 12 false [] [{i := .ix 51 (.t 47) (.t 49) 1}, {i := .load 52 (.t 51) 0}, {i := .mv 6 (.t 52)}] [])
 (.seq c_tseitin_Check_p3
 (.cond (.t 62) (.seq (.rg 14 false [] [{i := .mv 2 (.c (.d true (.int .i64 8)))}] [])
 .ret) .skip))))
 (.rg 15 false [] [{i := .bin 63 .add (.t 49) (.c (.d true (.int .i64 1)))}, {i := .mv 49 (.t 63)}] []))))
def c_tseitin_Check_l2 : C :=
(.seq (.rg 6 false [] [{i := .bin 25 .lss (.t 24) (.t 23)}] [])
 (.seq (.cond (.t 25) .skip (.exit 0))
 (.seq (.block 1 (.seq (.rg 7 false [] [{i := .ix 26 (.t 22) (.t 24) 1}, {i := .load 27 (.t 26) 0}, {i := .mv 4 (.t 27)}] [])
 (.seq (.seq c_tseitin_Check_p2
 (.cond (.t 46) (.seq (.rg 9 false [] [{i := .mv 2 (.c (.d true (.int .i64 8)))}] [])
 .ret) .skip))
 (.seq (.rg 10 false [] [{i := .mv 47 (.t 4)}, {i := .len 48 (.t 47)}, {i := .mv 49 (.c (.d true (.int .i64 0)))}] [])
 (.block 2 (.loop c_tseitin_Check_l1))))))
 (.rg 16 false [] [{i := .bin 64 .add (.t 24) (.c (.d true (.int .i64 1)))}, {i := .mv 24 (.t 64)}] []))))
def c_tseitin_Check_l3 : C :=
(.seq (.rg 18 false [] [{i := .bin 69 .lss (.t 68) (.t 67)}] [])
 (.seq (.cond (.t 69) .skip (.exit 4))
 (.seq (.block 5 (.seq (.rg 19 false [] [{i := .ix 70 (.t 66) (.t 68) 1}, {i := .load 71 (.t 70) 0}, {i := .mv 8 (.t 71)}] [])
 (.seq (.rg 20 false [] [{i := .fad 72 (.t 1) 0 0}, {i := .load 73 (.t 72) 0}, {i := .mv 74 (.t 8)}, {i := .call 75 k_clause_Check [(.t 73), (.t 74)] none}, {i := .bin 76 .neq (.t 75) (.c (.d true (.int .i64 0)))}] [])
 (.cond (.t 76) (.seq (.rg 21 false [] [{i := .mv 2 (.c (.d true (.int .i64 8)))}] [])
 .ret) .skip))))
 (.rg 22 false [] [{i := .bin 77 .add (.t 68) (.c (.d true (.int .i64 1)))}, {i := .mv 68 (.t 77)}] []))))
def c_tseitin_Check : C :=
(.seq (.rg 0 false [] [{i := .box 1 0 (.t 0) 4}, {i := .mv 2 (.c (.d true (.int .i64 0)))}] [])
 (.seq (.seq (.rg 1 false [] [{i := .fad 9 (.t 1) 2 0}, {i := .load 10 (.t 9) 0}, {i := .len 11 (.t 10)}, {i := .bin 12 .gtr (.t 11) (.c (.d true (.int .i64 20000)))}] [])
 (.cond (.t 12) (.seq (.rg 2 false [] [{i := .mv 2 (.c (.d true (.int .i64 4)))}] [])
 .ret) .skip))
 (.seq (.seq c_tseitin_Check_p1
 (.cond (.t 20) (.seq (.rg 4 false [] [{i := .mv 2 (.c (.d true (.int .i64 8)))}] [])
 .ret) .skip))
 (.seq (.seq (.rg 5 false [] [{i := .fad 21 (.t 1) 1 0}, {i := .load 22 (.t 21) 0}, {i := .len 23 (.t 22)}, {i := .mv 24 (.c (.d true (.int .i64 0)))}] [])
 (.block 0 (.loop c_tseitin_Check_l2)))
 (.seq (.seq (.rg 17 false [] [{i := .fad 65 (.t 1) 2 0}, {i := .load 66 (.t 65) 0}, {i := .len 67 (.t 66)}, {i := .mv 68 (.c (.d true (.int .i64 0)))}] [])
 (.block 4 (.loop c_tseitin_Check_l3)))
 (.seq (.rg 23 false [] [{i := .mv 2 (.c (.d true (.int .i64 0)))}] [])
 .ret))))))
def n_tseitin_Check : Fn := ⟨c_tseitin_Check, [.s 2], (some [false])⟩
def c_unroll_value : C :=
(.seq (.rg 0 false [] [{i := .mv 4 (.c (.d true (.bool false)))}] [])
 (.seq (.seq (.rg 1 false [] [{i := .mv 5 (.t 0)}, {i := .bin 6 .lss (.t 5) (.c (.d true (.int .i64 2)))}] [])
 (.cond (.t 6) (.seq (.rg 2 false [] [{i := .mv 7 (.t 0)}, {i := .bin 8 .eql (.t 7) (.c (.d true (.int .i64 1)))}, {i := .mv 4 (.t 8)}] [])
 .ret) .skip))
 (.seq (.rg 3 false [] [{i := .mv 9 (.t 1)}, {i := .mv 10 (.t 0)}, {i := .bin 11 .quo (.t 10) (.c (.d true (.int .i64 2)))}, {i := .bin 12 .sub (.t 11) (.c (.d true (.int .i64 1)))}, {i := .ix 13 (.t 9) (.t 12) 1}, {i := .load 14 (.t 13) 0}, {i := .mv 15 (.t 0)}, {i := .bin 16 .rem (.t 15) (.c (.d true (.int .i64 2)))}, {i := .bin 17 .eql (.t 16) (.c (.d true (.int .i64 0)))}, {i := .beq 18 false (.t 14) (.t 17)}, {i := .mv 4 (.t 18)}] [])
 .ret)))
def n_unroll_value : Fn := ⟨c_unroll_value, [.s 4], (some [false, false])⟩
def c_ref04_Same_l1 : C :=
(.seq (.seq (.rg 4 false [] [{i := .mv 11 (.t 5)}, {i := .mv 12 (.t 0)}, {i := .len 13 (.t 12)}, {i := .bin 14 .lss (.t 11) (.t 13)}] [])
 (.cond (.t 14) .skip (.exit 0)))
 (.seq (.block 1 (.seq (.rg 6 true [] [{i := .mv 17 (.t 0)}, {i := .mv 18 (.t 5)}, {i := .ix 19 (.t 17) (.t 18) 1}, {i := .load 20 (.t 19) 0}, {i := .mv 21 (.t 1)}, {i := .mv 22 (.t 5)}, {i := .ix 23 (.t 21) (.t 22) 1}, {i := .load 24 (.t 23) 0}, {i := .beq 25 true (.t 20) (.t 24)}] [])
 (.cond (.t 25) (.seq (.rg 7 false [] [{i := .mv 4 (.c (.d true (.bool false)))}] [])
 .ret) .skip)))
 (.rg 5 false [] [{i := .mv 15 (.t 5)}, {i := .bin 16 .add (.t 15) (.c (.d true (.int .i64 1)))}, {i := .mv 5 (.t 16)}] [])))
def c_ref04_Same : C :=
(.seq (.rg 0 false [] [{i := .mv 4 (.c (.d true (.bool false)))}] [])
 (.seq (.seq (.rg 1 false [] [{i := .mv 6 (.t 0)}, {i := .len 7 (.t 6)}, {i := .mv 8 (.t 1)}, {i := .len 9 (.t 8)}, {i := .bin 10 .neq (.t 7) (.t 9)}] [])
 (.cond (.t 10) (.seq (.rg 2 false [] [{i := .mv 4 (.c (.d true (.bool false)))}] [])
 .ret) .skip))
 (.seq (.seq (.rg 3 false [] [{i := .mv 5 (.c (.d true (.int .i64 0)))}] [])
 (.block 0 (.loop c_ref04_Same_l1)))
 (.seq (.rg 8 false [] [{i := .mv 4 (.c (.d true (.bool true)))}] [])
 .ret))))
def n_ref04_Same : Fn := ⟨c_ref04_Same, [.s 4], (some [false, false])⟩
def c_ref06_SameAll_l1 : C :=
(.seq (.seq (.rg 4 false [] [{i := .mv 11 (.t 5)}, {i := .mv 12 (.t 0)}, {i := .len 13 (.t 12)}, {i := .bin 14 .lss (.t 11) (.t 13)}] [])
 (.cond (.t 14) .skip (.exit 0)))
 (.seq (.block 1 (.seq (.rg 6 true [] [{i := .mv 17 (.t 0)}, {i := .mv 18 (.t 5)}, {i := .ix 19 (.t 17) (.t 18) 1}, {i := .load 20 (.t 19) 0}, {i := .mv 21 (.t 1)}, {i := .mv 22 (.t 5)}, {i := .ix 23 (.t 21) (.t 22) 1}, {i := .load 24 (.t 23) 0}, {i := .call 25 k_ref04_Same [(.t 20), (.t 24)] none}, {i := .un 26 .not (.t 25)}] [])
 (.cond (.t 26) (.seq (.rg 7 false [] [{i := .mv 4 (.c (.d true (.bool false)))}] [])
 .ret) .skip)))
 (.rg 5 false [] [{i := .mv 15 (.t 5)}, {i := .bin 16 .add (.t 15) (.c (.d true (.int .i64 1)))}, {i := .mv 5 (.t 16)}] [])))
def c_ref06_SameAll : C :=
(.seq (.rg 0 false [] [{i := .mv 4 (.c (.d true (.bool false)))}] [])
 (.seq (.seq (.rg 1 false [] [{i := .mv 6 (.t 0)}, {i := .len 7 (.t 6)}, {i := .mv 8 (.t 1)}, {i := .len 9 (.t 8)}, {i := .bin 10 .neq (.t 7) (.t 9)}] [])
 (.cond (.t 10) (.seq (.rg 2 false [] [{i := .mv 4 (.c (.d true (.bool false)))}] [])
 .ret) .skip))
 (.seq (.seq (.rg 3 false [] [{i := .mv 5 (.c (.d true (.int .i64 0)))}] [])
 (.block 0 (.loop c_ref06_SameAll_l1)))
 (.seq (.rg 8 false [] [{i := .mv 4 (.c (.d true (.bool true)))}] [])
 .ret))))
def n_ref06_SameAll : Fn := ⟨c_ref06_SameAll, [.s 4], (some [false, false])⟩
def c_values_list_l1 : C :=
(.seq (.rg 6 false [] [{i := .bin 28 .lss (.t 27) (.t 26)}] [])
 (.seq (.cond (.t 28) .skip (.exit 0))
 (.seq (.block 1 (.seq (.rg 7 false [] [{i := .mv 29 (.t 27)}, {i := .mv 15 (.t 29)}] [])
 (.rg 8 false [.kill 2 3] [{i := .mv 30 (.t 14)}, {i := .mv 31 (.t 12)}, {i := .mv 32 (.t 4)}, {i := .mv 33 (.t 15)}, {i := .callv 34 (.t 32) [(.t 33)] none}, {i := .call 35 k_values_of [(.t 31), (.t 34)] none}, {i := .bsl 36 2 1 1 (.k (.bool false)) [(0, (.t 35))]}, {i := .app 37 3 1 (.t 30) (.t 36)}, {i := .mv 14 (.t 37)}] [])))
 (.rg 9 false [] [{i := .bin 38 .add (.t 27) (.c (.d true (.int .i64 1)))}, {i := .mv 27 (.t 38)}] []))))
def c_values_list : C :=
(.seq (.rg 0 false [] [{i := .box 5 0 (.t 0) 6}, {i := .mv 10 (.c (.nil 1))}, {i := .mv 11 (.c (.d true (.int .i64 0)))}] [])
 (.seq (.rg 1 false [] [{i := .load 17 (.t 5) 6}, {i := .mv 18 (.t 1)}, {i := .mv 19 (.t 2)}, {i := .call 20 k_values_All [(.t 17), (.t 18), (.t 19)] none}, {i := .mv 16 (.t 20)}, {i := .xt 21 (.t 16) 0}, {i := .xt 22 (.t 16) 1}, {i := .mv 12 (.t 21)}, {i := .mv 13 (.t 22)}] [])
 (.seq (.seq (.rg 2 false [] [{i := .mv 23 (.t 13)}, {i := .bin 24 .neq (.t 23) (.c (.d true (.int .i64 0)))}] [])
 (.cond (.t 24) (.seq (.rg 3 false [] [{i := .mv 25 (.t 13)}, {i := .mv 10 (.c (.nil 1))}, {i := .mv 11 (.t 25)}] [])
 .ret) .skip))
 (.seq (.rg 4 false [] [{i := .nilr 14 1 1}] [])
 (.seq (.seq (.rg 5 false [] [{i := .mv 26 (.t 3)}, {i := .mv 27 (.c (.d true (.int .i64 0)))}] [])
 (.block 0 (.loop c_values_list_l1)))
 (.seq (.rg 10 false [] [{i := .mv 39 (.t 14)}, {i := .mv 10 (.t 39)}, {i := .mv 11 (.c (.d true (.int .i64 0)))}] [])
 .ret))))))
def n_values_list : Fn := ⟨c_values_list, [.s 10, .s 11], none⟩
def c_values_Next_1 : C :=
(.seq (.rg 0 false [] [{i := .mv 3 (.c (.d true (.int .i64 0)))}] [])
 (.seq (.rg 1 false [] [{i := .fad 4 (.t 1) 1 0}, {i := .load 5 (.t 4) 0}, {i := .mv 6 (.t 0)}, {i := .ix 7 (.t 5) (.t 6) 2}, {i := .fad 8 (.t 7) 0 0}, {i := .load 9 (.t 8) 0}, {i := .mv 3 (.t 9)}] [])
 .ret))
def n_values_Next_1 : Fn := ⟨c_values_Next_1, [.s 3], none⟩
def c_ref13_Vars_p1 : C :=
(.rg 1 false [] [{i := .mv 3 (.t 0)}, {i := .bin 4 .geq (.t 3) (.c (.d true (.int .i64 0)))}, {i := .mv 5 (.t 4)}, ⟨(.mv 6 (.t 0)), (some (5, true))⟩, ⟨(.bin 7 .leq (.t 6) (.c (.d true (.int .i64 4000)))), (some (5, true))⟩, {i := .pick 8 (.t 5) (.t 7) (.c (.d true (.bool false)))}, {i := .mv 2 (.t 8)}] [])
def c_ref13_Vars : C :=
(.seq (.rg 0 false [] [{i := .mv 2 (.c (.d true (.bool false)))}] [])
 (.seq c_ref13_Vars_p1
 .ret))
def n_ref13_Vars : Fn := ⟨c_ref13_Vars, [.s 2], (some [false])⟩
def c_ref15_Wrong_l1 : C :=
(.seq (.seq (.rg 4 false [] [{i := .mv 10 (.t 5)}, {i := .mv 11 (.t 1)}, {i := .len 12 (.t 11)}, {i := .bin 13 .lss (.t 10) (.t 12)}] [])
 (.cond (.t 13) .skip (.exit 0)))
 (.seq (.block 1 (.seq (.rg 6 false [] [{i := .mv 16 (.t 0)}, {i := .mv 17 (.t 1)}, {i := .mv 18 (.t 5)}, {i := .ix 19 (.t 17) (.t 18) 1}, {i := .load 20 (.t 19) 0}, {i := .call 21 k_ref13_Check [(.t 16), (.t 20)] none}, {i := .mv 6 (.t 21)}] [])
 (.seq (.rg 7 false [] [{i := .mv 22 (.t 6)}, {i := .bin 23 .neq (.t 22) (.c (.d true (.int .i64 0)))}] [])
 (.cond (.t 23) (.seq (.rg 8 false [] [{i := .mv 24 (.t 6)}, {i := .mv 4 (.t 24)}] [])
 .ret) .skip))))
 (.rg 5 false [] [{i := .mv 14 (.t 5)}, {i := .bin 15 .add (.t 14) (.c (.d true (.int .i64 1)))}, {i := .mv 5 (.t 15)}] [])))
def c_ref15_Wrong : C :=
(.seq (.rg 0 false [] [{i := .mv 4 (.c (.d true (.int .i64 0)))}] [])
 (.seq (.seq (.rg 1 false [] [{i := .mv 7 (.t 1)}, {i := .len 8 (.t 7)}, {i := .bin 9 .gtr (.t 8) (.c (.d true (.int .i64 20000)))}] [])
 (.cond (.t 9) (.seq (.rg 2 false [] [{i := .mv 4 (.c (.d true (.int .i64 4)))}] [])
 .ret) .skip))
 (.seq (.seq (.rg 3 false [] [{i := .mv 5 (.c (.d true (.int .i64 0)))}] [])
 (.block 0 (.loop c_ref15_Wrong_l1)))
 (.seq (.rg 9 false [] [{i := .mv 4 (.c (.d true (.int .i64 0)))}] [])
 .ret))))
def n_ref15_Wrong : Fn := ⟨c_ref15_Wrong, [.s 4], (some [false, false])⟩
def c_values_All_p1 : C :=
(.rg 4 false [] [{i := .mv 21 (.t 1)}, {i := .len 22 (.t 21)}, {i := .fad 23 (.t 3) 1 0}, {i := .load 24 (.t 23) 0}, {i := .len 25 (.t 24)}, {i := .bin 26 .neq (.t 22) (.t 25)}, {i := .mv 27 (.t 26)}, ⟨(.mv 28 (.t 2)), (some (27, false))⟩, ⟨(.len 29 (.t 28)), (some (27, false))⟩, ⟨(.fad 30 (.t 3) 0 0), (some (27, false))⟩, ⟨(.load 31 (.t 30) 0), (some (27, false))⟩, ⟨(.bin 32 .neq (.t 29) (.t 31)), (some (27, false))⟩, {i := .pick 33 (.t 27) (.c (.d true (.bool true))) (.t 32)}] [])
def c_values_All_p2 : C :=
(.block 1 (.seq (.rg 12 false [] [{i := .mv 64 (.t 62)}, {i := .mv 12 (.t 64)}] [])
 (.rg 13 false [] [{i := .mv 65 (.t 10)}, {i := .mv 66 (.t 11)}, {i := .mv 67 (.t 12)}, {i := .bin 68 .add (.t 66) (.t 67)}, {i := .mv 69 (.t 10)}, {i := .fad 70 (.t 3) 2 0}, {i := .load 71 (.t 70) 0}, {i := .mv 72 (.t 12)}, {i := .ix 73 (.t 71) (.t 72) 2}, {i := .fad 74 (.t 73) 0 0}, {i := .load 75 (.t 74) 0}, {i := .call 76 k_values_of [(.t 69), (.t 75)] none}, {i := .mv 77 (.t 76)}, ⟨(.mv 78 (.t 10)), (some (77, true))⟩, ⟨(.fad 79 (.t 3) 2 0), (some (77, true))⟩, ⟨(.load 80 (.t 79) 0), (some (77, true))⟩, ⟨(.mv 81 (.t 12)), (some (77, true))⟩, ⟨(.ix 82 (.t 80) (.t 81) 2), (some (77, true))⟩, ⟨(.fad 83 (.t 82) 1 0), (some (77, true))⟩, ⟨(.load 84 (.t 83) 0), (some (77, true))⟩, ⟨(.call 85 k_values_of [(.t 78), (.t 84)] none), (some (77, true))⟩, {i := .pick 86 (.t 77) (.t 85) (.c (.d true (.bool false)))}, {i := .ix 87 (.t 65) (.t 68) 1}, {i := .store (.t 87) (.t 86) 0}] [])))
def c_values_All_l1 : C :=
(.seq (.rg 11 false [] [{i := .bin 63 .lss (.t 62) (.t 61)}] [])
 (.seq (.cond (.t 63) .skip (.exit 0))
 (.seq c_values_All_p2
 (.rg 14 false [] [{i := .bin 88 .add (.t 62) (.c (.d true (.int .i64 1)))}, {i := .mv 62 (.t 88)}] []))))
def c_values_All : C :=
(.seq (.rg 0 false [] [{i := .box 3 0 (.t 0) 6}, {i := .mv 6 (.c (.nil 1))}, {i := .mv 7 (.c (.d true (.int .i64 0)))}] [])
 (.seq (.rg 1 false [] [{i := .load 14 (.t 3) 6}, {i := .call 15 k_gates_Vars [(.t 14)] none}, {i := .mv 13 (.t 15)}, {i := .xt 16 (.t 13) 0}, {i := .xt 17 (.t 13) 1}, {i := .mv 8 (.t 16)}, {i := .mv 9 (.t 17)}] [])
 (.seq (.seq (.rg 2 false [] [{i := .mv 18 (.t 9)}, {i := .bin 19 .neq (.t 18) (.c (.d true (.int .i64 0)))}] [])
 (.cond (.t 19) (.seq (.rg 3 false [] [{i := .mv 20 (.t 9)}, {i := .mv 6 (.c (.nil 1))}, {i := .mv 7 (.t 20)}] [])
 .ret) .skip))
 (.seq (.seq c_values_All_p1
 (.cond (.t 33) (.seq (.rg 5 false [] [{i := .mv 6 (.c (.nil 1))}, {i := .mv 7 (.c (.d true (.int .i64 2)))}] [])
 .ret) .skip))
 (.seq (.rg 6 false [] [{i := .mv 34 (.t 8)}, {i := .bin 35 .add (.t 34) (.c (.d true (.int .i64 1)))}, {i := .mks 36 1 1 (.t 35) (.t 35) (.k (.bool false))}, {i := .mv 10 (.t 36)}] [])
 (.seq (.rg 7 false [] [{i := .mv 37 (.t 10)}, {i := .slc 38 1 (.t 37) (some (.c (.d true (.int .i64 1)))) none none}, {i := .mv 39 (.t 2)}, {i := .cpy 40 1 (.t 38) (.t 39)}, {i := .bin 41 .add (.c (.d true (.int .i64 1))) (.t 40)}, {i := .mv 11 (.t 41)}] [])
 (.seq (.rg 8 false [] [{i := .mv 42 (.t 10)}, {i := .mv 43 (.t 11)}, {i := .mv 44 (.t 11)}, {i := .mv 45 (.t 1)}, {i := .len 46 (.t 45)}, {i := .bin 47 .add (.t 44) (.t 46)}, {i := .mv 48 (.t 11)}, {i := .mv 49 (.t 1)}, {i := .len 50 (.t 49)}, {i := .bin 51 .add (.t 48) (.t 50)}, {i := .slc 52 1 (.t 42) (some (.t 43)) (some (.t 47)) (some (.t 51))}, {i := .mv 53 (.t 1)}, {i := .cpy 54 1 (.t 52) (.t 53)}] [])
 (.seq (.rg 9 false [] [{i := .mv 55 (.t 11)}, {i := .mv 56 (.t 1)}, {i := .len 57 (.t 56)}, {i := .bin 58 .add (.t 55) (.t 57)}, {i := .mv 11 (.t 58)}] [])
 (.seq (.seq (.rg 10 false [] [{i := .fad 59 (.t 3) 2 0}, {i := .load 60 (.t 59) 0}, {i := .len 61 (.t 60)}, {i := .mv 62 (.c (.d true (.int .i64 0)))}] [])
 (.block 0 (.loop c_values_All_l1)))
 (.seq (.rg 15 false [] [{i := .mv 89 (.t 10)}, {i := .mv 6 (.t 89)}, {i := .mv 7 (.c (.d true (.int .i64 0)))}] [])
 .ret))))))))))
def n_values_All : Fn := ⟨c_values_All, [.s 6, .s 7], (some [false, false, false])⟩
def c_ref22_True : C :=
(.seq (.rg 0 false [] [{i := .mv 4 (.c (.d true (.bool false)))}] [])
 (.seq (.seq (.rg 1 false [] [{i := .mv 5 (.t 0)}, {i := .bin 6 .lss (.t 5) (.c (.d true (.int .i64 2)))}] [])
 (.cond (.t 6) (.seq (.rg 2 false [] [{i := .mv 7 (.t 0)}, {i := .bin 8 .eql (.t 7) (.c (.d true (.int .i64 1)))}, {i := .mv 4 (.t 8)}] [])
 .ret) .skip))
 (.seq (.rg 3 false [] [{i := .mv 9 (.t 0)}, {i := .mv 10 (.t 1)}, {i := .call 11 k_ref13_Truth [(.t 9), (.t 10)] none}, {i := .mv 4 (.t 11)}] [])
 .ret)))
def n_ref22_True : Fn := ⟨c_ref22_True, [.s 4], (some [false, false])⟩
def c_solve_check_l1 : C :=
(.seq (.rg 4 false [] [{i := .bin 13 .lss (.t 12) (.t 11)}] [])
 (.seq (.cond (.t 13) .skip (.exit 0))
 (.seq (.block 1 (.seq (.rg 5 false [] [{i := .ix 14 (.t 10) (.t 12) 1}, {i := .load 15 (.t 14) 0}, {i := .mv 6 (.t 15)}] [])
 (.seq (.rg 6 false [] [{i := .mv 16 (.t 0)}, {i := .mv 17 (.t 6)}, {i := .call 18 k_clause_Check [(.t 16), (.t 17)] none}, {i := .bin 19 .neq (.t 18) (.c (.d true (.int .i64 0)))}] [])
 (.cond (.t 19) (.seq (.rg 7 false [] [{i := .mv 4 (.c (.d true (.int .i64 8)))}] [])
 .ret) .skip))))
 (.rg 8 false [] [{i := .bin 20 .add (.t 12) (.c (.d true (.int .i64 1)))}, {i := .mv 12 (.t 20)}] []))))
def c_solve_check : C :=
(.seq (.rg 0 false [] [{i := .mv 4 (.c (.d true (.int .i64 0)))}] [])
 (.seq (.seq (.rg 1 false [] [{i := .mv 7 (.t 1)}, {i := .len 8 (.t 7)}, {i := .bin 9 .gtr (.t 8) (.c (.d true (.int .i64 20000)))}] [])
 (.cond (.t 9) (.seq (.rg 2 false [] [{i := .mv 4 (.c (.d true (.int .i64 4)))}] [])
 .ret) .skip))
 (.seq (.seq (.rg 3 false [] [{i := .mv 10 (.t 1)}, {i := .len 11 (.t 10)}, {i := .mv 12 (.c (.d true (.int .i64 0)))}] [])
 (.block 0 (.loop c_solve_check_l1)))
 (.seq (.rg 9 false [] [{i := .mv 4 (.c (.d true (.int .i64 0)))}] [])
 .ret))))
def n_solve_check : Fn := ⟨c_solve_check, [.s 4], (some [false, false])⟩
def c_clause_True_l1 : C :=
(.seq (.rg 5 false [] [{i := .bin 19 .lss (.t 18) (.t 17)}] [])
 (.seq (.cond (.t 19) .skip (.exit 0))
 (.seq (.block 1 (.seq (.rg 6 false [] [{i := .ix 20 (.t 16) (.t 18) 1}, {i := .load 21 (.t 20) 0}, {i := .mv 8 (.t 21)}] [])
 (.seq (.rg 7 false [] [{i := .mv 22 (.t 1)}, {i := .mv 23 (.t 8)}, {i := .bin 24 .quo (.t 23) (.c (.d true (.int .i64 2)))}, {i := .bin 25 .sub (.t 24) (.c (.d true (.int .i64 1)))}, {i := .ix 26 (.t 22) (.t 25) 1}, {i := .load 27 (.t 26) 0}, {i := .mv 28 (.t 8)}, {i := .bin 29 .rem (.t 28) (.c (.d true (.int .i64 2)))}, {i := .bin 30 .eql (.t 29) (.c (.d true (.int .i64 0)))}, {i := .beq 31 false (.t 27) (.t 30)}] [])
 (.cond (.t 31) (.seq (.rg 8 false [] [{i := .mv 4 (.c (.d true (.bool true)))}, {i := .mv 5 (.c (.d true (.int .i64 0)))}] [])
 .ret) .skip))))
 (.rg 9 false [] [{i := .bin 32 .add (.t 18) (.c (.d true (.int .i64 1)))}, {i := .mv 18 (.t 32)}] []))))
def c_clause_True : C :=
(.seq (.rg 0 false [] [{i := .mv 4 (.c (.d true (.bool false)))}, {i := .mv 5 (.c (.d true (.int .i64 0)))}] [])
 (.seq (.seq (.rg 1 false [] [{i := .mv 9 (.t 1)}, {i := .len 10 (.t 9)}, {i := .mv 11 (.t 0)}, {i := .call 12 k_clause_Check [(.t 10), (.t 11)] none}, {i := .mv 6 (.t 12)}] [])
 (.seq (.rg 2 false [] [{i := .mv 13 (.t 6)}, {i := .bin 14 .neq (.t 13) (.c (.d true (.int .i64 0)))}] [])
 (.cond (.t 14) (.seq (.rg 3 false [] [{i := .mv 15 (.t 6)}, {i := .mv 4 (.c (.d true (.bool false)))}, {i := .mv 5 (.t 15)}] [])
 .ret) .skip)))
 (.seq (.seq (.rg 4 false [] [{i := .mv 16 (.t 0)}, {i := .len 17 (.t 16)}, {i := .mv 18 (.c (.d true (.int .i64 0)))}] [])
 (.block 0 (.loop c_clause_True_l1)))
 (.seq (.rg 10 false [] [{i := .mv 4 (.c (.d true (.bool false)))}, {i := .mv 5 (.c (.d true (.int .i64 0)))}] [])
 .ret))))
def n_clause_True : Fn := ⟨c_clause_True, [.s 4, .s 5], (some [false, false])⟩
def c_ref06_Starts_p1 : C :=
(.rg 4 false [] [{i := .mv 12 (.t 1)}, {i := .mv 13 (.t 5)}, {i := .ix 14 (.t 12) (.t 13) 1}, {i := .load 15 (.t 14) 0}, {i := .mv 16 (.t 15)}, ⟨(.fad 17 (.t 2) 1 0), (some (16, true))⟩, ⟨(.load 18 (.t 17) 0), (some (16, true))⟩, ⟨(.mv 19 (.t 5)), (some (16, true))⟩, ⟨(.ix 20 (.t 18) (.t 19) 2), (some (16, true))⟩, ⟨(.fad 21 (.t 20) 1 0), (some (16, true))⟩, ⟨(.load 22 (.t 21) 0), (some (16, true))⟩, ⟨(.bin 23 .eql (.t 22) (.c (.d true (.int .i64 0)))), (some (16, true))⟩, {i := .pick 24 (.t 16) (.t 23) (.c (.d true (.bool false)))}, {i := .mv 25 (.t 24)}, ⟨(.mv 26 (.t 1)), (some (25, false))⟩, ⟨(.mv 27 (.t 5)), (some (25, false))⟩, ⟨(.ix 28 (.t 26) (.t 27) 1), (some (25, false))⟩, ⟨(.load 29 (.t 28) 0), (some (25, false))⟩, ⟨(.un 30 .not (.t 29)), (some (25, false))⟩, ⟨(.mv 31 (.t 30)), (some (25, false))⟩, ⟨(.fad 32 (.t 2) 1 0), (some (31, true))⟩, ⟨(.load 33 (.t 32) 0), (some (31, true))⟩, ⟨(.mv 34 (.t 5)), (some (31, true))⟩, ⟨(.ix 35 (.t 33) (.t 34) 2), (some (31, true))⟩, ⟨(.fad 36 (.t 35) 1 0), (some (31, true))⟩, ⟨(.load 37 (.t 36) 0), (some (31, true))⟩, ⟨(.bin 38 .eql (.t 37) (.c (.d true (.int .i64 1)))), (some (31, true))⟩, ⟨(.pick 39 (.t 31) (.t 38) (.c (.d true (.bool false)))), (some (25, false))⟩, {i := .pick 40 (.t 25) (.c (.d true (.bool true))) (.t 39)}] [])
def c_ref06_Starts_l1 : C :=
(.seq (.seq (.rg 2 false [] [{i := .mv 6 (.t 5)}, {i := .mv 7 (.t 1)}, {i := .len 8 (.t 7)}, {i := .bin 9 .lss (.t 6) (.t 8)}] [])
 (.cond (.t 9) .skip (.exit 0)))
 (.seq (.block 1 (.seq c_ref06_Starts_p1
 (.cond (.t 40) (.seq (.rg 5 false [] [{i := .mv 4 (.c (.d true (.bool false)))}] [])
 .ret) .skip)))
 (.rg 3 false [] [{i := .mv 10 (.t 5)}, {i := .bin 11 .add (.t 10) (.c (.d true (.int .i64 1)))}, {i := .mv 5 (.t 11)}] [])))
def c_ref06_Starts : C :=
(.seq (.rg 0 false [] [{i := .box 2 0 (.t 0) 6}, {i := .mv 4 (.c (.d true (.bool false)))}] [])
 (.seq (.seq (.rg 1 false [] [{i := .mv 5 (.c (.d true (.int .i64 0)))}] [])
 (.block 0 (.loop c_ref06_Starts_l1)))
 (.seq (.rg 6 false [] [{i := .mv 4 (.c (.d true (.bool true)))}] [])
 .ret)))
def n_ref06_Starts : Fn := ⟨c_ref06_Starts, [.s 4], (some [false, false])⟩
def c_traces_walk_l1 : C :=
(.seq (.rg 7 false [] [{i := .bin 32 .lss (.t 31) (.t 30)}] [])
 (.seq (.cond (.t 32) .skip (.exit 0))
 (.seq (.block 1 (.seq (.rg 8 false [] [{i := .mv 33 (.t 31)}, {i := .ix 34 (.t 29) (.t 31) 1}, {i := .load 35 (.t 34) 0}, {i := .mv 9 (.t 33)}, {i := .mv 10 (.t 35)}] [])
 (.seq (.rg 9 false [] [{i := .load 37 (.t 3) 6}, {i := .mv 38 (.t 8)}, {i := .mv 39 (.t 10)}, {i := .call 40 k_values_Props [(.t 37), (.t 38), (.t 39)] none}, {i := .mv 36 (.t 40)}, {i := .xt 41 (.t 36) 0}, {i := .xt 42 (.t 36) 1}, {i := .xt 43 (.t 36) 2}, {i := .mv 11 (.t 41)}, {i := .mv 12 (.t 42)}, {i := .mv 13 (.t 43)}] [])
 (.seq (.seq (.rg 10 false [] [{i := .mv 44 (.t 13)}, {i := .bin 45 .neq (.t 44) (.c (.d true (.int .i64 0)))}] [])
 (.cond (.t 45) (.seq (.rg 11 false [] [{i := .mv 46 (.t 13)}, {i := .mv 6 (.t 46)}] [])
 .ret) .skip))
 (.seq (.seq (.rg 12 false [] [{i := .mv 47 (.t 2)}, {i := .mv 48 (.t 9)}, {i := .mv 49 (.t 8)}, {i := .mv 50 (.t 11)}, {i := .mv 51 (.t 12)}, {i := .callv 52 (.t 47) [(.t 48), (.t 49), (.t 50), (.t 51)] none}, {i := .un 53 .not (.t 52)}] [])
 (.cond (.t 53) (.exit 0) .skip))
 (.seq (.rg 13 false [] [{i := .load 55 (.t 3) 6}, {i := .mv 56 (.t 8)}, {i := .mv 57 (.t 10)}, {i := .call 58 k_values_Next [(.t 55), (.t 56), (.t 57)] none}, {i := .mv 54 (.t 58)}, {i := .xt 59 (.t 54) 0}, {i := .xt 60 (.t 54) 1}, {i := .mv 8 (.t 59)}, {i := .mv 13 (.t 60)}] [])
 (.seq (.rg 14 false [] [{i := .mv 61 (.t 13)}, {i := .bin 62 .neq (.t 61) (.c (.d true (.int .i64 0)))}] [])
 (.cond (.t 62) (.seq (.rg 15 false [] [{i := .mv 63 (.t 13)}, {i := .mv 6 (.t 63)}] [])
 .ret) .skip))))))))
 (.rg 16 false [] [{i := .bin 64 .add (.t 31) (.c (.d true (.int .i64 1)))}, {i := .mv 31 (.t 64)}] []))))
def c_traces_walk : C :=
(.seq (.rg 0 false [] [{i := .box 3 0 (.t 0) 6}, {i := .box 4 1 (.t 1) 3}, {i := .mv 6 (.c (.d true (.int .i64 0)))}] [])
 (.seq .skip (.seq (.seq (.rg 1 false [] [{i := .load 14 (.t 3) 6}, {i := .load 15 (.t 4) 3}, {i := .call 16 k_traces_Check [(.t 14), (.t 15)] none}, {i := .mv 7 (.t 16)}] [])
 (.seq (.rg 2 false [] [{i := .mv 17 (.t 7)}, {i := .bin 18 .neq (.t 17) (.c (.d true (.int .i64 0)))}] [])
 (.cond (.t 18) (.seq (.rg 3 false [] [{i := .mv 19 (.t 7)}, {i := .mv 6 (.t 19)}] [])
 .ret) .skip)))
 (.seq (.rg 4 false [] [{i := .fad 20 (.t 4) 0 0}, {i := .load 21 (.t 20) 0}, {i := .len 22 (.t 21)}, {i := .mks 23 2 1 (.t 22) (.t 22) (.k (.bool false))}, {i := .mv 8 (.t 23)}] [])
 (.seq (.rg 5 false [] [{i := .mv 24 (.t 8)}, {i := .fad 25 (.t 4) 0 0}, {i := .load 26 (.t 25) 0}, {i := .cpy 27 1 (.t 24) (.t 26)}] [])
 (.seq .skip
 (.seq (.seq (.rg 6 false [.frz 2] [{i := .fad 28 (.t 4) 1 0}, {i := .load 29 (.t 28) 0}, {i := .len 30 (.t 29)}, {i := .mv 31 (.c (.d true (.int .i64 0)))}] [])
 (.block 0 (.loop c_traces_walk_l1)))
 (.seq (.rg 17 false [] [{i := .mv 6 (.c (.d true (.int .i64 0)))}] [])
 .ret))))))))
def n_traces_walk : Fn := ⟨c_traces_walk, [.s 6], none⟩
def c_traces_States_1 : C :=
(.seq (.rg 0 false [] [{i := .mv 9 (.c (.d true (.bool false)))}] [])
 (.seq (.rg 1 false [] [{i := .load 10 (.t 4) 0}, {i := .mv 11 (.t 1)}, {i := .bsl 12 0 1 1 (.k (.lst 1 [])) [(0, (.t 11))]}, {i := .app 13 1 1 (.t 10) (.t 12)}, {i := .store (.t 4) (.t 13) 0}] [])
 (.seq (.rg 2 false [] [{i := .mv 9 (.c (.d true (.bool true)))}] [])
 .ret)))
def n_traces_States_1 : Fn := ⟨c_traces_States_1, [.s 9], none⟩
def c_clause_known_p1 : C :=
(.rg 1 false [] [{i := .mv 5 (.t 1)}, {i := .bin 6 .geq (.t 5) (.c (.d true (.int .i64 2)))}, {i := .mv 7 (.t 6)}, ⟨(.mv 8 (.t 1)), (some (7, true))⟩, ⟨(.bin 9 .quo (.t 8) (.c (.d true (.int .i64 2)))), (some (7, true))⟩, ⟨(.mv 10 (.t 0)), (some (7, true))⟩, ⟨(.bin 11 .leq (.t 9) (.t 10)), (some (7, true))⟩, {i := .pick 12 (.t 7) (.t 11) (.c (.d true (.bool false)))}, {i := .mv 4 (.t 12)}] [])
def c_clause_known : C :=
(.seq (.rg 0 false [] [{i := .mv 4 (.c (.d true (.bool false)))}] [])
 (.seq c_clause_known_p1
 .ret))
def n_clause_known : Fn := ⟨c_clause_known, [.s 4], (some [false, false])⟩
def c_ref13_Lit_p1 : C :=
(.rg 1 false [] [{i := .mv 5 (.t 1)}, {i := .bin 6 .geq (.t 5) (.c (.d true (.int .i64 2)))}, {i := .mv 7 (.t 6)}, ⟨(.mv 8 (.t 1)), (some (7, true))⟩, ⟨(.mv 9 (.t 0)), (some (7, true))⟩, ⟨(.bin 10 .mul (.c (.d true (.int .i64 2))) (.t 9)), (some (7, true))⟩, ⟨(.bin 11 .add (.t 10) (.c (.d true (.int .i64 1)))), (some (7, true))⟩, ⟨(.bin 12 .leq (.t 8) (.t 11)), (some (7, true))⟩, {i := .pick 13 (.t 7) (.t 12) (.c (.d true (.bool false)))}, {i := .mv 4 (.t 13)}] [])
def c_ref13_Lit : C :=
(.seq (.rg 0 false [] [{i := .mv 4 (.c (.d true (.bool false)))}] [])
 (.seq c_ref13_Lit_p1
 .ret))
def n_ref13_Lit : Fn := ⟨c_ref13_Lit, [.s 4], (some [false, false])⟩
def c_slices_IndexFunc_of_int_l1 : C :=
(.seq (.rg 2 false [] [{i := .bin 9 .lss (.t 8) (.t 7)}] [])
 (.seq (.cond (.t 9) .skip (.exit 0))
 (.seq (.block 1 (.seq (.rg 3 false [] [{i := .mv 10 (.t 8)}, {i := .mv 5 (.t 10)}] [])
 (.seq (.rg 4 false [] [{i := .mv 11 (.t 1)}, {i := .mv 12 (.t 0)}, {i := .mv 13 (.t 5)}, {i := .ix 14 (.t 12) (.t 13) 1}, {i := .load 15 (.t 14) 0}, {i := .callv 16 (.t 11) [(.t 15)] none}] [])
 (.cond (.t 16) (.seq (.rg 5 false [] [{i := .mv 17 (.t 5)}, {i := .mv 4 (.t 17)}] [])
 .ret) .skip))))
 (.rg 6 false [] [{i := .bin 18 .add (.t 8) (.c (.d true (.int .i64 1)))}, {i := .mv 8 (.t 18)}] []))))
def c_slices_IndexFunc_of_int : C :=
(.seq (.rg 0 false [] [{i := .mv 4 (.c (.d true (.int .i64 0)))}] [])
 (.seq (.seq (.rg 1 false [] [{i := .mv 6 (.t 0)}, {i := .len 7 (.t 6)}, {i := .mv 8 (.c (.d true (.int .i64 0)))}] [])
 (.block 0 (.loop c_slices_IndexFunc_of_int_l1)))
 (.seq (.rg 7 false [] [{i := .mv 4 (.c (.d true (.int .i64 (-1))))}] [])
 .ret)))
def n_slices_IndexFunc_of_int : Fn := ⟨c_slices_IndexFunc_of_int, [.s 4], none⟩
def c_gates_starts : C :=
(.seq (.rg 0 false [] [{i := .box 1 0 (.t 0) 6}, {i := .alloc 2 1 [.k (.int .i64 0), .k (.int .i64 0), .k (.int .i64 0), .k (.int .i64 0)]}] [])
 (.seq (.rg 1 false [] [{i := .fad 5 (.t 1) 0 0}, {i := .load 6 (.t 5) 0}, {i := .bin 7 .add (.c (.d true (.int .i64 1))) (.t 6)}, {i := .mv 3 (.t 7)}] [])
 (.seq (.rg 2 false [] [{i := .mv 8 (.t 3)}, {i := .fad 9 (.t 1) 1 0}, {i := .load 10 (.t 9) 0}, {i := .len 11 (.t 10)}, {i := .bin 12 .add (.t 8) (.t 11)}, {i := .mv 4 (.t 12)}] [])
 (.seq (.rg 3 false [] [{i := .mv 13 (.t 3)}, {i := .mv 14 (.t 4)}, {i := .mv 15 (.t 4)}, {i := .fad 16 (.t 1) 2 0}, {i := .load 17 (.t 16) 0}, {i := .len 18 (.t 17)}, {i := .bin 19 .add (.t 15) (.t 18)}, {i := .bld 20 [.k (.int .i64 0), .k (.int .i64 0), .k (.int .i64 0), .k (.int .i64 0)] [(0, 0, (.c (.d true (.int .i64 1)))), (1, 0, (.t 13)), (2, 0, (.t 14)), (3, 0, (.t 19))]}, {i := .store (.t 2) (.t 20) 5}] [])
 .ret))))
def n_gates_starts : Fn := ⟨c_gates_starts, [.c 2 5], (some [false])⟩
def c_gates_Check_1_p1 : C :=
(.rg 1 false [] [{i := .mv 4 (.t 0)}, {i := .bin 5 .lss (.t 4) (.c (.d true (.int .i64 0)))}, {i := .mv 6 (.t 5)}, ⟨(.mv 7 (.t 0)), (some (6, false))⟩, ⟨(.bin 8 .shr (.t 7) (.c (.d true (.int .u64 1)))), (some (6, false))⟩, ⟨(.ixb 9 (.t 1) (.c (.d true (.int .i64 3))) 4 1), (some (6, false))⟩, ⟨(.load 10 (.t 9) 0), (some (6, false))⟩, ⟨(.bin 11 .geq (.t 8) (.t 10)), (some (6, false))⟩, {i := .pick 12 (.t 6) (.c (.d true (.bool true))) (.t 11)}, {i := .mv 3 (.t 12)}] [])
def c_gates_Check_1 : C :=
(.seq (.rg 0 false [] [{i := .mv 3 (.c (.d true (.bool false)))}] [])
 (.seq c_gates_Check_1_p1
 .ret))
def n_gates_Check_1 : Fn := ⟨c_gates_Check_1, [.s 3], none⟩
def c_gates_Check_2_p1 : C :=
(.rg 1 false [] [{i := .load 4 (.t 1) 0}, {i := .fad 5 (.t 2) 0 0}, {i := .load 6 (.t 5) 0}, {i := .callv 7 (.t 4) [(.t 6)] none}, {i := .mv 8 (.t 7)}, ⟨(.fad 9 (.t 2) 1 0), (some (8, false))⟩, ⟨(.load 10 (.t 9) 0), (some (8, false))⟩, ⟨(.bin 11 .lss (.t 10) (.c (.d true (.int .i64 0)))), (some (8, false))⟩, {i := .pick 12 (.t 8) (.c (.d true (.bool true))) (.t 11)}, {i := .mv 13 (.t 12)}, ⟨(.fad 14 (.t 2) 1 0), (some (13, false))⟩, ⟨(.load 15 (.t 14) 0), (some (13, false))⟩, ⟨(.bin 16 .gtr (.t 15) (.c (.d true (.int .i64 2)))), (some (13, false))⟩, {i := .pick 17 (.t 13) (.c (.d true (.bool true))) (.t 16)}, {i := .mv 3 (.t 17)}] [])
def c_gates_Check_2 : C :=
(.seq (.rg 0 false [] [{i := .box 2 0 (.t 0) 3}, {i := .mv 3 (.c (.d true (.bool false)))}] [])
 (.seq c_gates_Check_2_p1
 .ret))
def n_gates_Check_2 : Fn := ⟨c_gates_Check_2, [.s 3], none⟩
def c_slices_ContainsFunc_of_api_Latch_p1 : C :=
(.rg 1 false [] [{i := .mv 5 (.t 0)}, {i := .mv 6 (.t 1)}, {i := .call 7 k_slices_IndexFunc_of_api_Latch [(.t 5), (.t 6)] none}, {i := .bin 8 .geq (.t 7) (.c (.d true (.int .i64 0)))}, {i := .mv 4 (.t 8)}] [])
def c_slices_ContainsFunc_of_api_Latch : C :=
(.seq (.rg 0 false [] [{i := .mv 4 (.c (.d true (.bool false)))}] [])
 (.seq c_slices_ContainsFunc_of_api_Latch_p1
 .ret))
def n_slices_ContainsFunc_of_api_Latch : Fn := ⟨c_slices_ContainsFunc_of_api_Latch, [.s 4], none⟩
def c_unroll_frames_frame_l1 : C :=
(.seq (.rg 3 false [] [{i := .bin 19 .lss (.t 18) (.t 17)}] [])
 (.seq (.cond (.t 19) .skip (.exit 0))
 (.seq (.block 1 (.rg 4 false [(.kill 2 3)] [{i := .mv 20 (.t 7)}, {i := .mv 21 (.t 0)}, {i := .call 22 k_unroll_frames_fresh [(.t 21)] none}, {i := .bsl 23 2 1 1 (.k (.int .i64 0)) [(0, (.t 22))]}, {i := .app 24 3 1 (.t 20) (.t 23)}, {i := .mv 7 (.t 24)}] []))
 (.rg 5 false [] [{i := .bin 25 .add (.t 18) (.c (.d true (.int .i64 1)))}, {i := .mv 18 (.t 25)}] []))))
def c_unroll_frames_frame_p1 : C :=
(.seq (.rg 9 false [] [{i := .mv 32 (.t 9)}, {i := .bin 33 .lss (.t 32) (.c (.d true (.int .i64 0)))}] [])
 (.cond (.t 33) (.rg 10 false [] [{i := .mv 34 (.t 0)}, {i := .call 35 k_unroll_frames_fresh [(.t 34)] none}, {i := .mv 9 (.t 35)}] []) .skip))
def c_unroll_frames_frame_l2 : C :=
(.seq (.rg 7 false [] [{i := .bin 29 .lss (.t 28) (.t 27)}] [])
 (.seq (.cond (.t 29) .skip (.exit 2))
 (.seq (.block 3 (.seq (.rg 8 false [] [{i := .ix 30 (.t 26) (.t 28) 1}, {i := .load 31 (.t 30) 0}, {i := .mv 9 (.t 31)}] [])
 (.seq c_unroll_frames_frame_p1
 (.rg 11 false [(.kill 4 5)] [{i := .mv 36 (.t 7)}, {i := .mv 37 (.t 9)}, {i := .bsl 38 4 1 1 (.k (.int .i64 0)) [(0, (.t 37))]}, {i := .app 39 5 1 (.t 36) (.t 38)}, {i := .mv 7 (.t 39)}] []))))
 (.rg 12 false [] [{i := .bin 40 .add (.t 28) (.c (.d true (.int .i64 1)))}, {i := .mv 28 (.t 40)}] []))))
def c_unroll_frames_frame_l3 : C :=
(.seq (.rg 14 false [] [{i := .bin 45 .lss (.t 44) (.t 43)}] [])
 (.seq (.cond (.t 45) .skip (.exit 4))
 (.seq (.block 5 (.seq (.rg 15 false [(.kill 6 7)] [{i := .ix 46 (.t 42) (.t 44) 2}, {i := .load 47 (.t 46) 3}, {i := .alloc 11 6 [(.k (.int .i64 0)), (.k (.int .i64 0))]}, {i := .store (.t 11) (.t 47) 3}] [])
 (.seq (.rg 16 false [] [{i := .mv 48 (.t 0)}, {i := .call 49 k_unroll_frames_fresh [(.t 48)] none}, {i := .mv 12 (.t 49)}] [])
 (.seq (.seq (.rg 17 false [] [{i := .mv 50 (.t 0)}, {i := .chk 51 (.t 50)}, {i := .fad 52 (.t 51) 0 4}, {i := .fad 53 (.t 52) 0 0}, {i := .load 54 (.t 53) 0}, {i := .bin 55 .gtr (.t 54) (.c (.d true (.int .i64 4000)))}] [])
 (.cond (.t 55) (.seq (.rg 18 false [] [{i := .mv 6 (.c (.d true (.bool false)))}] [])
 .ret) .skip))
 (.seq (.rg 19 true [] [{i := .mv 56 (.t 7)}, {i := .fad 57 (.t 11) 0 0}, {i := .load 58 (.t 57) 0}, {i := .call 59 k_unroll_lit [(.t 56), (.t 58)] none}, {i := .mv 60 (.t 7)}, {i := .fad 61 (.t 11) 1 0}, {i := .load 62 (.t 61) 0}, {i := .call 63 k_unroll_lit [(.t 60), (.t 62)] none}, {i := .mv 13 (.t 59)}, {i := .mv 14 (.t 63)}] [])
 (.seq (.rg 20 false [(.kill 7 8)] [{i := .mv 64 (.t 7)}, {i := .mv 65 (.t 12)}, {i := .bsl 66 7 1 1 (.k (.int .i64 0)) [(0, (.t 65))]}, {i := .app 67 8 1 (.t 64) (.t 66)}, {i := .mv 7 (.t 67)}] [])
 (.seq (.rg 21 false [(.kill 9 10)] [{i := .mv 68 (.t 0)}, {i := .mv 69 (.t 12)}, {i := .bin 70 .xor (.t 69) (.c (.d true (.int .i64 1)))}, {i := .mv 71 (.t 13)}, {i := .bsl 72 9 1 2 (.k (.int .i64 0)) [(0, (.t 70)), (1, (.t 71))]}, {i := .call 73 k_unroll_frames_add [(.t 68), (.t 72)] none}] [])
 (.seq (.rg 22 false [(.kill 10 11)] [{i := .mv 74 (.t 0)}, {i := .mv 75 (.t 12)}, {i := .bin 76 .xor (.t 75) (.c (.d true (.int .i64 1)))}, {i := .mv 77 (.t 14)}, {i := .bsl 78 10 1 2 (.k (.int .i64 0)) [(0, (.t 76)), (1, (.t 77))]}, {i := .call 79 k_unroll_frames_add [(.t 74), (.t 78)] none}] [])
 (.rg 23 false [(.kill 11 12)] [{i := .mv 80 (.t 0)}, {i := .mv 81 (.t 12)}, {i := .mv 82 (.t 13)}, {i := .bin 83 .xor (.t 82) (.c (.d true (.int .i64 1)))}, {i := .mv 84 (.t 14)}, {i := .bin 85 .xor (.t 84) (.c (.d true (.int .i64 1)))}, {i := .bsl 86 11 1 3 (.k (.int .i64 0)) [(0, (.t 81)), (1, (.t 83)), (2, (.t 85))]}, {i := .call 87 k_unroll_frames_add [(.t 80), (.t 86)] none}] [])))))))))
 (.rg 24 false [] [{i := .bin 88 .add (.t 44) (.c (.d true (.int .i64 1)))}, {i := .mv 44 (.t 88)}] []))))
def c_unroll_frames_frame_p2 : C :=
(.rg 26 false [] [{i := .mv 101 (.t 0)}, {i := .chk 102 (.t 101)}, {i := .fad 103 (.t 102) 0 4}, {i := .fad 104 (.t 103) 0 0}, {i := .load 105 (.t 104) 0}, {i := .bin 106 .leq (.t 105) (.c (.d true (.int .i64 4000)))}, {i := .mv 107 (.t 106)}, ⟨(.mv 108 (.t 0)), (some (107, true))⟩, ⟨(.chk 109 (.t 108)), (some (107, true))⟩, ⟨(.fad 110 (.t 109) 0 4), (some (107, true))⟩, ⟨(.fad 111 (.t 110) 2 0), (some (107, true))⟩, ⟨(.load 112 (.t 111) 0), (some (107, true))⟩, ⟨(.len 113 (.t 112)), (some (107, true))⟩, ⟨(.bin 114 .leq (.t 113) (.c (.d true (.int .i64 20000)))), (some (107, true))⟩, {i := .pick 115 (.t 107) (.t 114) (.c (.d true (.bool false)))}, {i := .mv 6 (.t 115)}] [])
def c_unroll_frames_frame : C :=
(.seq (.rg 0 false [] [{i := .box 4 0 (.t 1) 6}, {i := .mv 6 (.c (.d true (.bool false)))}] [])
 (.seq (.rg 1 false [] [{i := .bsl 15 1 1 1 (.k (.int .i64 0)) [(0, (.c (.d true (.int .i64 0))))]}, {i := .mv 7 (.t 15)}] [])
 (.seq (.seq (.rg 2 false [] [{i := .fad 16 (.t 4) 0 0}, {i := .load 17 (.t 16) 0}, {i := .mv 18 (.c (.d true (.int .i64 0)))}] [])
 (.block 0 (.loop c_unroll_frames_frame_l1)))
 (.seq (.seq (.rg 6 false [] [{i := .mv 26 (.t 2)}, {i := .len 27 (.t 26)}, {i := .mv 28 (.c (.d true (.int .i64 0)))}] [])
 (.block 2 (.loop c_unroll_frames_frame_l2)))
 (.seq (.seq (.rg 13 false [] [{i := .fad 41 (.t 4) 2 0}, {i := .load 42 (.t 41) 0}, {i := .len 43 (.t 42)}, {i := .mv 44 (.c (.d true (.int .i64 0)))}] [])
 (.block 4 (.loop c_unroll_frames_frame_l3)))
 (.seq (.rg 25 false [] [{i := .mv 89 (.t 0)}, {i := .mv 90 (.t 0)}, {i := .chk 91 (.t 90)}, {i := .fad 92 (.t 91) 0 4}, {i := .fad 93 (.t 92) 1 0}, {i := .load 94 (.t 93) 0}, {i := .mv 95 (.t 7)}, {i := .bsl 96 12 1 1 (.k (.lst 1 [])) [(0, (.t 95))]}, {i := .app 97 13 1 (.t 94) (.t 96)}, {i := .chk 98 (.t 89)}, {i := .fad 99 (.t 98) 0 4}, {i := .fad 100 (.t 99) 1 0}, {i := .store (.t 100) (.t 97) 0}] [])
 (.seq c_unroll_frames_frame_p2
 .ret)))))))
def n_unroll_frames_frame : Fn := ⟨c_unroll_frames_frame, [.s 6], none⟩
def c_unroll_lit : C :=
(.seq (.rg 0 false [] [{i := .mv 4 (.c (.d true (.int .i64 0)))}] [])
 (.seq (.rg 1 false [] [{i := .mv 5 (.t 0)}, {i := .mv 6 (.t 1)}, {i := .bin 7 .quo (.t 6) (.c (.d true (.int .i64 2)))}, {i := .ix 8 (.t 5) (.t 7) 1}, {i := .load 9 (.t 8) 0}, {i := .mv 10 (.t 1)}, {i := .bin 11 .and (.t 10) (.c (.d true (.int .i64 1)))}, {i := .bin 12 .xor (.t 9) (.t 11)}, {i := .mv 4 (.t 12)}] [])
 .ret))
def n_unroll_lit : Fn := ⟨c_unroll_lit, [.s 4], (some [false, false])⟩
def c_slices_Sort_of_int : C :=
(.seq (.rg 0 false [] [{i := .mv 3 (.t 0)}, {i := .len 4 (.t 3)}, {i := .mv 2 (.t 4)}] [])
 (.rg 1 false [] [{i := .mv 5 (.t 0)}, {i := .mv 6 (.t 2)}, {i := .mv 7 (.t 2)}, {i := .cvt 8 .u64 (.t 7)}, {i := .call 9 k_bits_Len [(.t 8)] none}, {i := .call 10 k_slices_pdqsortOrdered_of_int [(.t 5), (.c (.d true (.int .i64 0))), (.t 6), (.t 9)] none}] []))
def n_slices_Sort_of_int : Fn := ⟨c_slices_Sort_of_int, [], none⟩
def c_slices_Compact_of_int_l1 : C :=
(.seq (.seq (.rg 9 false [] [{i := .mv 29 (.t 5)}, {i := .mv 30 (.t 4)}, {i := .len 31 (.t 30)}, {i := .bin 32 .lss (.t 29) (.t 31)}] [])
 (.cond (.t 32) .skip (.exit 2)))
 (.seq (.block 3 (.seq (.rg 11 true [] [{i := .mv 35 (.t 4)}, {i := .mv 36 (.t 5)}, {i := .ix 37 (.t 35) (.t 36) 1}, {i := .load 38 (.t 37) 0}, {i := .mv 39 (.t 4)}, {i := .mv 40 (.t 5)}, {i := .bin 41 .sub (.t 40) (.c (.d true (.int .i64 1)))}, {i := .ix 42 (.t 39) (.t 41) 1}, {i := .load 43 (.t 42) 0}, {i := .bin 44 .neq (.t 38) (.t 43)}] [])
 (.cond (.t 44) (.seq (.rg 12 false [] [{i := .mv 45 (.t 0)}, {i := .mv 46 (.t 3)}, {i := .mv 47 (.t 4)}, {i := .mv 48 (.t 5)}, {i := .ix 49 (.t 47) (.t 48) 1}, {i := .load 50 (.t 49) 0}, {i := .ix 51 (.t 45) (.t 46) 1}, {i := .store (.t 51) (.t 50) 0}] [])
 (.rg 13 false [] [{i := .mv 52 (.t 3)}, {i := .bin 53 .add (.t 52) (.c (.d true (.int .i64 1)))}, {i := .mv 3 (.t 53)}] [])) .skip)))
 (.rg 10 false [] [{i := .mv 33 (.t 5)}, {i := .bin 34 .add (.t 33) (.c (.d true (.int .i64 1)))}, {i := .mv 5 (.t 34)}] [])))
def c_slices_Compact_of_int_l2 : C :=
(.seq (.seq (.rg 4 false [] [{i := .mv 10 (.t 3)}, {i := .mv 11 (.t 0)}, {i := .len 12 (.t 11)}, {i := .bin 13 .lss (.t 10) (.t 12)}] [])
 (.cond (.t 13) .skip (.exit 0)))
 (.seq (.block 1 (.seq (.rg 6 true [] [{i := .mv 16 (.t 0)}, {i := .mv 17 (.t 3)}, {i := .ix 18 (.t 16) (.t 17) 1}, {i := .load 19 (.t 18) 0}, {i := .mv 20 (.t 0)}, {i := .mv 21 (.t 3)}, {i := .bin 22 .sub (.t 21) (.c (.d true (.int .i64 1)))}, {i := .ix 23 (.t 20) (.t 22) 1}, {i := .load 24 (.t 23) 0}, {i := .bin 25 .eql (.t 19) (.t 24)}] [])
 (.cond (.t 25) (.seq (.rg 7 false [] [{i := .mv 26 (.t 0)}, {i := .mv 27 (.t 3)}, {i := .slc 28 1 (.t 26) (some (.t 27)) none none}, {i := .mv 4 (.t 28)}] [])
 (.seq (.seq (.rg 8 false [] [{i := .mv 5 (.c (.d true (.int .i64 1)))}] [])
 (.block 2 (.loop c_slices_Compact_of_int_l1)))
 (.seq (.rg 14 false [] [{i := .mv 54 (.t 0)}, {i := .mv 55 (.t 3)}, {i := .slc 56 1 (.t 54) (some (.t 55)) none none}, {i := .clr 1 (.t 56) (.k (.int .i64 0))}] [])
 (.seq (.rg 15 false [] [{i := .mv 57 (.t 0)}, {i := .mv 58 (.t 3)}, {i := .slc 59 1 (.t 57) none (some (.t 58)) none}, {i := .mv 2 (.t 59)}] [])
 .ret)))) .skip)))
 (.rg 5 false [] [{i := .mv 14 (.t 3)}, {i := .bin 15 .add (.t 14) (.c (.d true (.int .i64 1)))}, {i := .mv 3 (.t 15)}] [])))
def c_slices_Compact_of_int : C :=
(.seq (.rg 0 false [] [{i := .mv 2 (.c (.nil 1))}] [])
 (.seq (.seq (.rg 1 false [] [{i := .mv 6 (.t 0)}, {i := .len 7 (.t 6)}, {i := .bin 8 .lss (.t 7) (.c (.d true (.int .i64 2)))}] [])
 (.cond (.t 8) (.seq (.rg 2 false [] [{i := .mv 9 (.t 0)}, {i := .mv 2 (.t 9)}] [])
 .ret) .skip))
 (.seq (.seq (.rg 3 false [] [{i := .mv 3 (.c (.d true (.int .i64 1)))}] [])
 (.block 0 (.loop c_slices_Compact_of_int_l2)))
 (.seq (.rg 16 false [] [{i := .mv 60 (.t 0)}, {i := .mv 2 (.t 60)}] [])
 .ret))))
def n_slices_Compact_of_int : Fn := ⟨c_slices_Compact_of_int, [.s 2], none⟩
def c_values_of : C :=
(.seq (.rg 0 false [] [{i := .mv 4 (.c (.d true (.bool false)))}] [])
 (.seq (.rg 1 false [] [{i := .mv 5 (.t 0)}, {i := .mv 6 (.t 1)}, {i := .bin 7 .shr (.t 6) (.c (.d true (.int .u64 1)))}, {i := .ix 8 (.t 5) (.t 7) 1}, {i := .load 9 (.t 8) 0}, {i := .mv 10 (.t 1)}, {i := .bin 11 .and (.t 10) (.c (.d true (.int .i64 1)))}, {i := .bin 12 .eql (.t 11) (.c (.d true (.int .i64 1)))}, {i := .beq 13 true (.t 9) (.t 12)}, {i := .mv 4 (.t 13)}] [])
 .ret))
def n_values_of : Fn := ⟨c_values_of, [.s 4], (some [false, false])⟩
def c_ref13_Check : C :=
(.seq (.rg 0 false [] [{i := .mv 4 (.c (.d true (.int .i64 0)))}] [])
 (.seq (.seq (.rg 1 false [] [{i := .mv 5 (.t 0)}, {i := .call 6 k_ref13_Vars [(.t 5)] none}, {i := .un 7 .not (.t 6)}] [])
 (.cond (.t 7) (.seq (.rg 2 false [] [{i := .mv 4 (.c (.d true (.int .i64 2)))}] [])
 .ret) .skip))
 (.seq (.seq (.rg 3 false [] [{i := .mv 8 (.t 0)}, {i := .mv 9 (.t 1)}, {i := .call 10 k_ref13_Valid [(.t 8), (.t 9)] none}, {i := .un 11 .not (.t 10)}] [])
 (.cond (.t 11) (.seq (.rg 4 false [] [{i := .mv 4 (.c (.d true (.int .i64 8)))}] [])
 .ret) .skip))
 (.seq (.rg 5 false [] [{i := .mv 4 (.c (.d true (.int .i64 0)))}] [])
 .ret))))
def n_ref13_Check : Fn := ⟨c_ref13_Check, [.s 4], (some [false, false])⟩
def c_ref13_Truth : C :=
(.seq (.rg 0 false [] [{i := .mv 4 (.c (.d true (.bool false)))}] [])
 (.seq (.seq (.rg 1 false [] [{i := .mv 5 (.t 0)}, {i := .bin 6 .rem (.t 5) (.c (.d true (.int .i64 2)))}, {i := .bin 7 .eql (.t 6) (.c (.d true (.int .i64 1)))}] [])
 (.cond (.t 7) (.seq (.rg 2 false [] [{i := .mv 8 (.t 1)}, {i := .mv 9 (.t 0)}, {i := .bin 10 .quo (.t 9) (.c (.d true (.int .i64 2)))}, {i := .bin 11 .sub (.t 10) (.c (.d true (.int .i64 1)))}, {i := .ix 12 (.t 8) (.t 11) 1}, {i := .load 13 (.t 12) 0}, {i := .un 14 .not (.t 13)}, {i := .mv 4 (.t 14)}] [])
 .ret) .skip))
 (.seq (.rg 3 false [] [{i := .mv 15 (.t 1)}, {i := .mv 16 (.t 0)}, {i := .bin 17 .quo (.t 16) (.c (.d true (.int .i64 2)))}, {i := .bin 18 .sub (.t 17) (.c (.d true (.int .i64 1)))}, {i := .ix 19 (.t 15) (.t 18) 1}, {i := .load 20 (.t 19) 0}, {i := .mv 4 (.t 20)}] [])
 .ret)))
def n_ref13_Truth : Fn := ⟨c_ref13_Truth, [.s 4], (some [false, false])⟩
def c_traces_Check_p1 : C :=
(.rg 7 false [] [{i := .fad 17 (.t 3) 1 0}, {i := .load 18 (.t 17) 0}, {i := .len 19 (.t 18)}, {i := .bin 20 .eql (.t 19) (.c (.d true (.int .i64 0)))}, {i := .mv 21 (.t 20)}, ⟨(.fad 22 (.t 3) 0 0), (some (21, false))⟩, ⟨(.load 23 (.t 22) 0), (some (21, false))⟩, ⟨(.len 24 (.t 23)), (some (21, false))⟩, ⟨(.fad 25 (.t 2) 1 0), (some (21, false))⟩, ⟨(.load 26 (.t 25) 0), (some (21, false))⟩, ⟨(.len 27 (.t 26)), (some (21, false))⟩, ⟨(.bin 28 .neq (.t 24) (.t 27)), (some (21, false))⟩, {i := .pick 29 (.t 21) (.c (.d true (.bool true))) (.t 28)}, {i := .mv 30 (.t 29)}, ⟨(.load 31 (.t 2) 6), (some (30, false))⟩, ⟨(.fad 32 (.t 3) 0 0), (some (30, false))⟩, ⟨(.load 33 (.t 32) 0), (some (30, false))⟩, ⟨(.call 34 k_traces_starts [(.t 31), (.t 33)] none), (some (30, false))⟩, ⟨(.un 35 .not (.t 34)), (some (30, false))⟩, {i := .pick 36 (.t 30) (.c (.d true (.bool true))) (.t 35)}, {i := .mv 37 (.t 36)}, ⟨(.fad 38 (.t 3) 1 0), (some (37, false))⟩, ⟨(.load 39 (.t 38) 0), (some (37, false))⟩, ⟨(.mv 40 (.t 6)), (some (37, false))⟩, ⟨(.call 41 k_slices_ContainsFunc_of_Lbool [(.t 39), (.t 40)] none), (some (37, false))⟩, {i := .pick 42 (.t 37) (.c (.d true (.bool true))) (.t 41)}] [])
def c_traces_Check : C :=
(.seq (.rg 0 false [] [{i := .box 2 0 (.t 0) 6}, {i := .box 3 1 (.t 1) 3}, {i := .mv 4 (.c (.d true (.int .i64 0)))}] [])
 (.seq (.seq (.rg 1 false [] [{i := .load 7 (.t 2) 6}, {i := .call 8 k_gates_Check [(.t 7)] none}, {i := .mv 5 (.t 8)}] [])
 (.seq (.rg 2 false [] [{i := .mv 9 (.t 5)}, {i := .bin 10 .neq (.t 9) (.c (.d true (.int .i64 0)))}] [])
 (.cond (.t 10) (.seq (.rg 3 false [] [{i := .mv 11 (.t 5)}, {i := .mv 4 (.t 11)}] [])
 .ret) .skip)))
 (.seq (.seq (.rg 4 false [] [{i := .fad 12 (.t 3) 1 0}, {i := .load 13 (.t 12) 0}, {i := .len 14 (.t 13)}, {i := .bin 15 .gtr (.t 14) (.c (.d true (.int .i64 100)))}] [])
 (.cond (.t 15) (.seq (.rg 5 false [] [{i := .mv 4 (.c (.d true (.int .i64 4)))}] [])
 .ret) .skip))
 (.seq (.rg 6 false [] [{i := .fn 16 k_traces_Check_1 [(.t 2)]}, {i := .mv 6 (.t 16)}] [])
 (.seq (.seq c_traces_Check_p1
 (.cond (.t 42) (.seq (.rg 8 false [] [{i := .mv 4 (.c (.d true (.int .i64 8)))}] [])
 .ret) .skip))
 (.seq (.rg 9 false [] [{i := .mv 4 (.c (.d true (.int .i64 0)))}] [])
 .ret))))))
def n_traces_Check : Fn := ⟨c_traces_Check, [.s 4], (some [false, false])⟩
def c_values_Props : C :=
(.seq (.rg 0 false [] [{i := .box 3 0 (.t 0) 6}, {i := .mv 6 (.c (.d true (.bool false)))}, {i := .mv 7 (.c (.nil 1))}, {i := .mv 8 (.c (.d true (.int .i64 0)))}] [])
 (.seq (.rg 1 false [] [{i := .load 11 (.t 3) 6}, {i := .mv 12 (.t 1)}, {i := .mv 13 (.t 2)}, {i := .fad 14 (.t 3) 3 0}, {i := .load 15 (.t 14) 0}, {i := .len 16 (.t 15)}, {i := .fn 17 k_values_Props_1 [(.t 3)]}, {i := .call 18 k_values_list [(.t 11), (.t 12), (.t 13), (.t 16), (.t 17)] none}, {i := .mv 10 (.t 18)}, {i := .xt 19 (.t 10) 0}, {i := .xt 20 (.t 10) 1}, {i := .mv 7 (.t 19)}, {i := .mv 8 (.t 20)}] [])
 (.seq (.seq (.rg 2 false [] [{i := .mv 21 (.t 8)}, {i := .bin 22 .neq (.t 21) (.c (.d true (.int .i64 0)))}] [])
 (.cond (.t 22) (.seq (.rg 3 false [] [{i := .mv 23 (.t 8)}, {i := .mv 6 (.c (.d true (.bool false)))}, {i := .mv 7 (.c (.nil 1))}, {i := .mv 8 (.t 23)}] [])
 .ret) .skip))
 (.seq (.rg 4 false [] [{i := .load 25 (.t 3) 6}, {i := .mv 26 (.t 1)}, {i := .mv 27 (.t 2)}, {i := .fad 28 (.t 3) 4 0}, {i := .load 29 (.t 28) 0}, {i := .len 30 (.t 29)}, {i := .fn 31 k_values_Props_2 [(.t 3)]}, {i := .call 32 k_values_list [(.t 25), (.t 26), (.t 27), (.t 30), (.t 31)] none}, {i := .mv 24 (.t 32)}, {i := .xt 33 (.t 24) 0}, {i := .xt 34 (.t 24) 1}, {i := .mv 9 (.t 33)}, {i := .mv 8 (.t 34)}] [])
 (.seq (.rg 5 false [] [{i := .mv 35 (.t 9)}, {i := .call 36 k_slices_Contains_of_bool [(.t 35), (.c (.d true (.bool false)))] none}, {i := .un 37 .not (.t 36)}, {i := .mv 38 (.t 7)}, {i := .mv 39 (.t 8)}, {i := .mv 6 (.t 37)}, {i := .mv 7 (.t 38)}, {i := .mv 8 (.t 39)}] [])
 .ret)))))
def n_values_Props : Fn := ⟨c_values_Props, [.s 6, .s 7, .s 8], (some [false, false, false])⟩
def c_cmp_Less_of_int : C :=
(.seq (.rg 0 false [] [{i := .mv 4 (.c (.d true (.bool false)))}] [])
 (.seq (.rg 1 false [] [{i := .mv 5 (.t 0)}, {i := .call 6 k_cmp_isNaN_of_int [(.t 5)] none}, {i := .mv 7 (.t 6)}, ⟨.mv 8 (.t 1), some (7, true)⟩, ⟨.call 9 k_cmp_isNaN_of_int [(.t 8)] none, some (7, true)⟩, ⟨.un 10 .not (.t 9), some (7, true)⟩, {i := .pick 11 (.t 7) (.t 10) (.c (.d true (.bool false)))}, {i := .mv 12 (.t 11)}, ⟨.mv 13 (.t 0), some (12, false)⟩, ⟨.mv 14 (.t 1), some (12, false)⟩, ⟨.bin 15 .lss (.t 13) (.t 14), some (12, false)⟩, {i := .pick 16 (.t 12) (.c (.d true (.bool true))) (.t 15)}, {i := .mv 4 (.t 16)}] [])
 .ret))
def n_cmp_Less_of_int : Fn := ⟨c_cmp_Less_of_int, [.s 4], (some [false, false])⟩
def c_slices_IndexFunc_of_api_Latch_l1 : C :=
(.seq (.rg 2 false [] [{i := .bin 9 .lss (.t 8) (.t 7)}] [])
 (.seq (.cond (.t 9) .skip (.exit 0))
 (.seq (.block 1 (.seq (.rg 3 false [] [{i := .mv 10 (.t 8)}, {i := .mv 5 (.t 10)}] [])
 (.seq (.rg 4 false [] [{i := .mv 11 (.t 1)}, {i := .mv 12 (.t 0)}, {i := .mv 13 (.t 5)}, {i := .ix 14 (.t 12) (.t 13) 2}, {i := .load 15 (.t 14) 3}, {i := .callv 16 (.t 11) [(.t 15)] none}] [])
 (.cond (.t 16) (.seq (.rg 5 false [] [{i := .mv 17 (.t 5)}, {i := .mv 4 (.t 17)}] [])
 .ret) .skip))))
 (.rg 6 false [] [{i := .bin 18 .add (.t 8) (.c (.d true (.int .i64 1)))}, {i := .mv 8 (.t 18)}] []))))
def c_slices_IndexFunc_of_api_Latch : C :=
(.seq (.rg 0 false [] [{i := .mv 4 (.c (.d true (.int .i64 0)))}] [])
 (.seq (.seq (.rg 1 false [] [{i := .mv 6 (.t 0)}, {i := .len 7 (.t 6)}, {i := .mv 8 (.c (.d true (.int .i64 0)))}] [])
 (.block 0 (.loop c_slices_IndexFunc_of_api_Latch_l1)))
 (.seq (.rg 7 false [] [{i := .mv 4 (.c (.d true (.int .i64 (-1))))}] [])
 .ret)))
def n_slices_IndexFunc_of_api_Latch : Fn := ⟨c_slices_IndexFunc_of_api_Latch, [.s 4], none⟩
def c_unroll_frames_fresh : C :=
(.seq (.rg 0 false [] [{i := .mv 2 (.c (.d true (.int .i64 0)))}] [])
 (.seq (.rg 1 false [] [{i := .mv 3 (.t 0)}, {i := .chk 4 (.t 3)}, {i := .fad 5 (.t 4) 0 4}, {i := .fad 6 (.t 5) 0 0}, {i := .load 7 (.t 6) 0}, {i := .bin 8 .add (.t 7) (.c (.d true (.int .i64 1)))}, {i := .chk 9 (.t 3)}, {i := .fad 10 (.t 9) 0 4}, {i := .fad 11 (.t 10) 0 0}, {i := .store (.t 11) (.t 8) 0}] [])
 (.seq (.rg 2 false [] [{i := .mv 12 (.t 0)}, {i := .chk 13 (.t 12)}, {i := .fad 14 (.t 13) 0 4}, {i := .fad 15 (.t 14) 0 0}, {i := .load 16 (.t 15) 0}, {i := .bin 17 .mul (.c (.d true (.int .i64 2))) (.t 16)}, {i := .mv 2 (.t 17)}] [])
 .ret)))
def n_unroll_frames_fresh : Fn := ⟨c_unroll_frames_fresh, [.s 2], none⟩
def c_unroll_frames_add_p1 : C :=
(.block 1 (.seq (.rg 3 false [] [{i := .ix 14 (.t 10) (.t 12) 1}, {i := .load 15 (.t 14) 0}, {i := .mv 6 (.t 15)}] [])
 (.seq (.seq (.rg 4 false [] [{i := .mv 16 (.t 6)}, {i := .bin 17 .eql (.t 16) (.c (.d true (.int .i64 1)))}] [])
 (.cond (.t 17) .ret .skip))
 (.seq (.rg 5 false [] [{i := .mv 18 (.t 6)}, {i := .bin 19 .gtr (.t 18) (.c (.d true (.int .i64 1)))}] [])
 (.cond (.t 19) (.rg 6 false [(.kill 1 2)] [{i := .mv 20 (.t 4)}, {i := .mv 21 (.t 6)}, {i := .bsl 22 1 1 1 (.k (.int .i64 0)) [(0, (.t 21))]}, {i := .app 23 2 1 (.t 20) (.t 22)}, {i := .mv 4 (.t 23)}] []) .skip)))))
def c_unroll_frames_add_l1 : C :=
(.seq (.rg 2 false [] [{i := .bin 13 .lss (.t 12) (.t 11)}] [])
 (.seq (.cond (.t 13) .skip (.exit 0))
 (.seq c_unroll_frames_add_p1
 (.rg 7 false [] [{i := .bin 24 .add (.t 12) (.c (.d true (.int .i64 1)))}, {i := .mv 12 (.t 24)}] []))))
def c_unroll_frames_add_p2 : C :=
(.rg 9 false [] [{i := .mv 36 (.t 9)}, {i := .bin 37 .eql (.t 36) (.c (.d true (.int .i64 0)))}, {i := .mv 38 (.t 37)}, ⟨(.mv 39 (.t 8)), (some (38, true))⟩, ⟨(.un 40 .not (.t 39)), (some (38, true))⟩, {i := .pick 41 (.t 38) (.t 40) (.c (.d true (.bool false)))}] [])
def c_unroll_frames_add : C :=
(.seq (.rg 0 false [] [{i := .nilr 4 0 1}] [])
 (.seq (.seq (.rg 1 false [] [{i := .mv 10 (.t 1)}, {i := .len 11 (.t 10)}, {i := .mv 12 (.c (.d true (.int .i64 0)))}] [])
 (.block 0 (.loop c_unroll_frames_add_l1)))
 (.seq (.rg 8 false [] [{i := .mv 26 (.t 0)}, {i := .chk 27 (.t 26)}, {i := .fad 28 (.t 27) 0 4}, {i := .fad 29 (.t 28) 0 0}, {i := .load 30 (.t 29) 0}, {i := .mv 31 (.t 4)}, {i := .call 32 k_clause_Make [(.t 30), (.t 31)] none}, {i := .mv 25 (.t 32)}, {i := .xt 33 (.t 25) 0}, {i := .xt 34 (.t 25) 1}, {i := .xt 35 (.t 25) 2}, {i := .mv 7 (.t 33)}, {i := .mv 8 (.t 34)}, {i := .mv 9 (.t 35)}] [])
 (.seq c_unroll_frames_add_p2
 (.cond (.t 41) (.rg 10 false [] [{i := .mv 42 (.t 0)}, {i := .mv 43 (.t 0)}, {i := .chk 44 (.t 43)}, {i := .fad 45 (.t 44) 0 4}, {i := .fad 46 (.t 45) 2 0}, {i := .load 47 (.t 46) 0}, {i := .mv 48 (.t 7)}, {i := .bsl 49 3 1 1 (.k (.lst 1 [])) [(0, (.t 48))]}, {i := .app 50 4 1 (.t 47) (.t 49)}, {i := .chk 51 (.t 42)}, {i := .fad 52 (.t 51) 0 4}, {i := .fad 53 (.t 52) 2 0}, {i := .store (.t 53) (.t 50) 0}] []) .skip)))))
def n_unroll_frames_add : Fn := ⟨c_unroll_frames_add, [], none⟩
def c_slices_pdqsortOrdered_of_int_l1 : C :=
(.block 1 (.seq (.rg 2 false [] [{i := .mv 19 (.t 2)}, {i := .mv 20 (.t 1)}, {i := .bin 21 .sub (.t 19) (.t 20)}, {i := .mv 10 (.t 21)}] [])
 (.seq (.seq (.rg 3 false [] [{i := .mv 22 (.t 10)}, {i := .bin 23 .leq (.t 22) (.c (.d true (.int .i64 12)))}] [])
 (.cond (.t 23) (.seq (.rg 4 false [] [{i := .mv 24 (.t 0)}, {i := .mv 25 (.t 1)}, {i := .mv 26 (.t 2)}, {i := .call 27 k_slices_insertionSortOrdered_of_int [(.t 24), (.t 25), (.t 26)] none}] [])
 .ret) .skip))
 (.seq (.seq (.rg 5 false [] [{i := .mv 28 (.t 3)}, {i := .bin 29 .eql (.t 28) (.c (.d true (.int .i64 0)))}] [])
 (.cond (.t 29) (.seq (.rg 6 false [] [{i := .mv 30 (.t 0)}, {i := .mv 31 (.t 1)}, {i := .mv 32 (.t 2)}, {i := .call 33 k_slices_heapSortOrdered_of_int [(.t 30), (.t 31), (.t 32)] none}] [])
 .ret) .skip))
 (.seq (.seq (.rg 7 false [] [{i := .mv 34 (.t 8)}, {i := .un 35 .not (.t 34)}] [])
 (.cond (.t 35) (.seq (.rg 8 false [] [{i := .mv 36 (.t 0)}, {i := .mv 37 (.t 1)}, {i := .mv 38 (.t 2)}, {i := .call 39 k_slices_breakPatternsOrdered_of_int [(.t 36), (.t 37), (.t 38)] none}] [])
 (.rg 9 false [] [{i := .mv 40 (.t 3)}, {i := .bin 41 .sub (.t 40) (.c (.d true (.int .i64 1)))}, {i := .mv 3 (.t 41)}] [])) .skip))
 (.seq (.rg 10 false [] [{i := .mv 43 (.t 0)}, {i := .mv 44 (.t 1)}, {i := .mv 45 (.t 2)}, {i := .call 46 k_slices_choosePivotOrdered_of_int [(.t 43), (.t 44), (.t 45)] none}, {i := .mv 42 (.t 46)}, {i := .xt 47 (.t 42) 0}, {i := .xt 48 (.t 42) 1}, {i := .mv 11 (.t 47)}, {i := .mv 12 (.t 48)}] [])
 (.seq (.seq (.rg 11 false [] [{i := .mv 49 (.t 12)}, {i := .bin 50 .eql (.t 49) (.c (.d true (.int .i64 2)))}] [])
 (.cond (.t 50) (.seq (.rg 12 false [] [{i := .mv 51 (.t 0)}, {i := .mv 52 (.t 1)}, {i := .mv 53 (.t 2)}, {i := .call 54 k_slices_reverseRangeOrdered_of_int [(.t 51), (.t 52), (.t 53)] none}] [])
 (.seq (.rg 13 false [] [{i := .mv 55 (.t 2)}, {i := .bin 56 .sub (.t 55) (.c (.d true (.int .i64 1)))}, {i := .mv 57 (.t 11)}, {i := .mv 58 (.t 1)}, {i := .bin 59 .sub (.t 57) (.t 58)}, {i := .bin 60 .sub (.t 56) (.t 59)}, {i := .mv 11 (.t 60)}] [])
 (.rg 14 false [] [{i := .mv 12 (.c (.d true (.int .i64 1)))}] []))) .skip))
 (.seq (.seq (.rg 15 false [] [{i := .mv 61 (.t 8)}, {i := .mv 62 (.t 61)}, ⟨.mv 63 (.t 9), some (62, true)⟩, {i := .pick 64 (.t 62) (.t 63) (.c (.d true (.bool false)))}, {i := .mv 65 (.t 64)}, ⟨.mv 66 (.t 12), some (65, true)⟩, ⟨.bin 67 .eql (.t 66) (.c (.d true (.int .i64 1))), some (65, true)⟩, {i := .pick 68 (.t 65) (.t 67) (.c (.d true (.bool false)))}] [])
 (.cond (.t 68) (.seq (.rg 16 false [] [{i := .mv 69 (.t 0)}, {i := .mv 70 (.t 1)}, {i := .mv 71 (.t 2)}, {i := .call 72 k_slices_partialInsertionSortOrdered_of_int [(.t 69), (.t 70), (.t 71)] none}] [])
 (.cond (.t 72) .ret .skip)) .skip))
 (.seq (.seq (.rg 17 true [] [{i := .mv 73 (.t 1)}, {i := .bin 74 .gtr (.t 73) (.c (.d true (.int .i64 0)))}, {i := .mv 75 (.t 74)}, ⟨.mv 76 (.t 0), some (75, true)⟩, ⟨.mv 77 (.t 1), some (75, true)⟩, ⟨.bin 78 .sub (.t 77) (.c (.d true (.int .i64 1))), some (75, true)⟩, ⟨.ix 79 (.t 76) (.t 78) 1, some (75, true)⟩, ⟨.load 80 (.t 79) 0, some (75, true)⟩, ⟨.mv 81 (.t 0), some (75, true)⟩, ⟨.mv 82 (.t 11), some (75, true)⟩, ⟨.ix 83 (.t 81) (.t 82) 1, some (75, true)⟩, ⟨.load 84 (.t 83) 0, some (75, true)⟩, ⟨.call 85 k_cmp_Less_of_int [(.t 80), (.t 84)] none, some (75, true)⟩, ⟨.un 86 .not (.t 85), some (75, true)⟩, {i := .pick 87 (.t 75) (.t 86) (.c (.d true (.bool false)))}] [])
 (.cond (.t 87) (.seq (.rg 18 false [] [{i := .mv 88 (.t 0)}, {i := .mv 89 (.t 1)}, {i := .mv 90 (.t 2)}, {i := .mv 91 (.t 11)}, {i := .call 92 k_slices_partitionEqualOrdered_of_int [(.t 88), (.t 89), (.t 90), (.t 91)] none}, {i := .mv 13 (.t 92)}] [])
 (.seq (.rg 19 false [] [{i := .mv 93 (.t 13)}, {i := .mv 1 (.t 93)}] [])
 (.exit 1))) .skip))
 (.seq (.rg 20 false [] [{i := .mv 95 (.t 0)}, {i := .mv 96 (.t 1)}, {i := .mv 97 (.t 2)}, {i := .mv 98 (.t 11)}, {i := .call 99 k_slices_partitionOrdered_of_int [(.t 95), (.t 96), (.t 97), (.t 98)] none}, {i := .mv 94 (.t 99)}, {i := .xt 100 (.t 94) 0}, {i := .xt 101 (.t 94) 1}, {i := .mv 14 (.t 100)}, {i := .mv 15 (.t 101)}] [])
 (.seq (.rg 21 false [] [{i := .mv 102 (.t 15)}, {i := .mv 9 (.t 102)}] [])
 (.seq (.rg 22 false [] [{i := .mv 103 (.t 14)}, {i := .mv 104 (.t 1)}, {i := .bin 105 .sub (.t 103) (.t 104)}, {i := .mv 106 (.t 2)}, {i := .mv 107 (.t 14)}, {i := .bin 108 .sub (.t 106) (.t 107)}, {i := .mv 16 (.t 105)}, {i := .mv 17 (.t 108)}] [])
 (.seq (.rg 23 false [] [{i := .mv 109 (.t 10)}, {i := .bin 110 .quo (.t 109) (.c (.d true (.int .i64 8)))}, {i := .mv 18 (.t 110)}] [])
 (.seq (.rg 24 false [] [{i := .mv 111 (.t 16)}, {i := .mv 112 (.t 17)}, {i := .bin 113 .lss (.t 111) (.t 112)}] [])
 (.cond (.t 113) (.seq (.rg 25 false [] [{i := .mv 114 (.t 16)}, {i := .mv 115 (.t 18)}, {i := .bin 116 .geq (.t 114) (.t 115)}, {i := .mv 8 (.t 116)}] [])
 (.seq (.rg 26 false [] [{i := .mv 117 (.t 0)}, {i := .mv 118 (.t 1)}, {i := .mv 119 (.t 14)}, {i := .mv 120 (.t 3)}, {i := .call 121 k_slices_pdqsortOrdered_of_int [(.t 117), (.t 118), (.t 119), (.t 120)] none}] [])
 (.rg 27 false [] [{i := .mv 122 (.t 14)}, {i := .bin 123 .add (.t 122) (.c (.d true (.int .i64 1)))}, {i := .mv 1 (.t 123)}] []))) (.seq (.rg 28 false [] [{i := .mv 124 (.t 17)}, {i := .mv 125 (.t 18)}, {i := .bin 126 .geq (.t 124) (.t 125)}, {i := .mv 8 (.t 126)}] [])
 (.seq (.rg 29 false [] [{i := .mv 127 (.t 0)}, {i := .mv 128 (.t 14)}, {i := .bin 129 .add (.t 128) (.c (.d true (.int .i64 1)))}, {i := .mv 130 (.t 2)}, {i := .mv 131 (.t 3)}, {i := .call 132 k_slices_pdqsortOrdered_of_int [(.t 127), (.t 129), (.t 130), (.t 131)] none}] [])
 (.rg 30 false [] [{i := .mv 133 (.t 14)}, {i := .mv 2 (.t 133)}] []))))))))))))))))))
def c_slices_pdqsortOrdered_of_int : C :=
(.seq (.rg 0 false [] [{i := .mv 8 (.c (.d true (.bool true)))}] [])
 (.seq (.rg 1 false [] [{i := .mv 9 (.c (.d true (.bool true)))}] [])
 (.block 0 (.loop c_slices_pdqsortOrdered_of_int_l1))))
def n_slices_pdqsortOrdered_of_int : Fn := ⟨c_slices_pdqsortOrdered_of_int, [], none⟩
def c_bits_Len : C :=
(.seq (.rg 0 false [] [{i := .mv 2 (.c (.d true (.int .i64 0)))}] [])
 (.seq (.cond (.c (.d true (.bool false))) (.seq (.rg 1 false [] [{i := .mv 3 (.t 0)}, {i := .cvt 4 .u32 (.t 3)}, {i := .call 5 k_bits_Len32 [(.t 4)] none}, {i := .mv 2 (.t 5)}] [])
 .ret) .skip)
 (.seq (.rg 2 false [] [{i := .mv 6 (.t 0)}, {i := .call 7 k_bits_Len64 [(.t 6)] none}, {i := .mv 2 (.t 7)}] [])
 .ret)))
def n_bits_Len : Fn := ⟨c_bits_Len, [.s 2], (some [false])⟩
def c_traces_Check_1 : C :=
(.seq (.rg 0 false [] [{i := .mv 3 (.c (.d true (.bool false)))}] [])
 (.seq (.rg 1 false [] [{i := .mv 4 (.t 0)}, {i := .len 5 (.t 4)}, {i := .fad 6 (.t 1) 0 0}, {i := .load 7 (.t 6) 0}, {i := .bin 8 .neq (.t 5) (.t 7)}, {i := .mv 3 (.t 8)}] [])
 .ret))
def n_traces_Check_1 : Fn := ⟨c_traces_Check_1, [.s 3], none⟩
def c_traces_starts_p1 : C :=
(.rg 4 true [] [{i := .fad 15 (.t 6) 1 0}, {i := .load 16 (.t 15) 0}, {i := .bin 17 .neq (.t 16) (.c (.d true (.int .i64 2)))}, {i := .mv 18 (.t 17)}, ⟨(.mv 19 (.t 1)), (some (18, true))⟩, ⟨(.mv 20 (.t 5)), (some (18, true))⟩, ⟨(.ix 21 (.t 19) (.t 20) 1), (some (18, true))⟩, ⟨(.load 22 (.t 21) 0), (some (18, true))⟩, ⟨(.fad 23 (.t 6) 1 0), (some (18, true))⟩, ⟨(.load 24 (.t 23) 0), (some (18, true))⟩, ⟨(.bin 25 .eql (.t 24) (.c (.d true (.int .i64 1)))), (some (18, true))⟩, ⟨(.beq 26 true (.t 22) (.t 25)), (some (18, true))⟩, {i := .pick 27 (.t 18) (.t 26) (.c (.d true (.bool false)))}] [])
def c_traces_starts_l1 : C :=
(.seq (.rg 2 false [] [{i := .bin 11 .lss (.t 10) (.t 9)}] [])
 (.seq (.cond (.t 11) .skip (.exit 0))
 (.seq (.block 1 (.seq (.rg 3 false [(.kill 1 2)] [{i := .mv 12 (.t 10)}, {i := .ix 13 (.t 8) (.t 10) 2}, {i := .load 14 (.t 13) 3}, {i := .alloc 6 1 [(.k (.int .i64 0)), (.k (.int .i64 0))]}, {i := .mv 5 (.t 12)}, {i := .store (.t 6) (.t 14) 3}] [])
 (.seq c_traces_starts_p1
 (.cond (.t 27) (.seq (.rg 5 false [] [{i := .mv 4 (.c (.d true (.bool false)))}] [])
 .ret) .skip))))
 (.rg 6 false [] [{i := .bin 28 .add (.t 10) (.c (.d true (.int .i64 1)))}, {i := .mv 10 (.t 28)}] []))))
def c_traces_starts : C :=
(.seq (.rg 0 false [] [{i := .box 2 0 (.t 0) 6}, {i := .mv 4 (.c (.d true (.bool false)))}] [])
 (.seq (.seq (.rg 1 false [] [{i := .fad 7 (.t 2) 1 0}, {i := .load 8 (.t 7) 0}, {i := .len 9 (.t 8)}, {i := .mv 10 (.c (.d true (.int .i64 0)))}] [])
 (.block 0 (.loop c_traces_starts_l1)))
 (.seq (.rg 7 false [] [{i := .mv 4 (.c (.d true (.bool true)))}] [])
 .ret)))
def n_traces_starts : Fn := ⟨c_traces_starts, [.s 4], (some [false, false])⟩
def c_slices_ContainsFunc_of_Lbool_p1 : C :=
(.rg 1 false [] [{i := .mv 5 (.t 0)}, {i := .mv 6 (.t 1)}, {i := .call 7 k_slices_IndexFunc_of_Lbool [(.t 5), (.t 6)] none}, {i := .bin 8 .geq (.t 7) (.c (.d true (.int .i64 0)))}, {i := .mv 4 (.t 8)}] [])
def c_slices_ContainsFunc_of_Lbool : C :=
(.seq (.rg 0 false [] [{i := .mv 4 (.c (.d true (.bool false)))}] [])
 (.seq c_slices_ContainsFunc_of_Lbool_p1
 .ret))
def n_slices_ContainsFunc_of_Lbool : Fn := ⟨c_slices_ContainsFunc_of_Lbool, [.s 4], none⟩
def c_values_Props_1 : C :=
(.seq (.rg 0 false [] [{i := .mv 3 (.c (.d true (.int .i64 0)))}] [])
 (.seq (.rg 1 false [] [{i := .fad 4 (.t 1) 3 0}, {i := .load 5 (.t 4) 0}, {i := .mv 6 (.t 0)}, {i := .ix 7 (.t 5) (.t 6) 1}, {i := .load 8 (.t 7) 0}, {i := .mv 3 (.t 8)}] [])
 .ret))
def n_values_Props_1 : Fn := ⟨c_values_Props_1, [.s 3], none⟩
def c_values_Props_2 : C :=
(.seq (.rg 0 false [] [{i := .mv 3 (.c (.d true (.int .i64 0)))}] [])
 (.seq (.rg 1 false [] [{i := .fad 4 (.t 1) 4 0}, {i := .load 5 (.t 4) 0}, {i := .mv 6 (.t 0)}, {i := .ix 7 (.t 5) (.t 6) 1}, {i := .load 8 (.t 7) 0}, {i := .mv 3 (.t 8)}] [])
 .ret))
def n_values_Props_2 : Fn := ⟨c_values_Props_2, [.s 3], none⟩
def c_slices_Contains_of_bool : C :=
(.seq (.rg 0 false [] [{i := .mv 4 (.c (.d true (.bool false)))}] [])
 (.seq (.rg 1 false [] [{i := .mv 5 (.t 0)}, {i := .mv 6 (.t 1)}, {i := .call 7 k_slices_Index_of_bool [(.t 5), (.t 6)] none}, {i := .bin 8 .geq (.t 7) (.c (.d true (.int .i64 0)))}, {i := .mv 4 (.t 8)}] [])
 .ret))
def n_slices_Contains_of_bool : Fn := ⟨c_slices_Contains_of_bool, [.s 4], (some [false, false])⟩
def c_cmp_isNaN_of_int : C :=
(.seq (.rg 0 false [] [{i := .mv 2 (.c (.d true (.bool false)))}] [])
 (.seq (.rg 1 false [] [{i := .mv 3 (.t 0)}, {i := .mv 4 (.t 0)}, {i := .bin 5 .neq (.t 3) (.t 4)}, {i := .mv 2 (.t 5)}] [])
 .ret))
def n_cmp_isNaN_of_int : Fn := ⟨c_cmp_isNaN_of_int, [.s 2], (some [false])⟩
def c_clause_Make_p1 : C :=
(.rg 1 false [] [{i := .mv 10 (.t 0)}, {i := .bin 11 .lss (.t 10) (.c (.d true (.int .i64 0)))}, {i := .mv 12 (.t 11)}, ⟨(.mv 13 (.t 0)), (some (12, false))⟩, ⟨(.bin 14 .gtr (.t 13) (.c (.d true (.int .i64 4000)))), (some (12, false))⟩, {i := .pick 15 (.t 12) (.c (.d true (.bool true))) (.t 14)}] [])
def c_clause_Make_l1 : C :=
(.seq (.rg 4 false [] [{i := .bin 19 .lss (.t 18) (.t 17)}] [])
 (.seq (.cond (.t 19) .skip (.exit 0))
 (.seq (.block 1 (.seq (.rg 5 false [] [{i := .ix 20 (.t 16) (.t 18) 1}, {i := .load 21 (.t 20) 0}, {i := .mv 8 (.t 21)}] [])
 (.seq (.rg 6 false [] [{i := .mv 22 (.t 0)}, {i := .mv 23 (.t 8)}, {i := .call 24 k_clause_known [(.t 22), (.t 23)] none}, {i := .un 25 .not (.t 24)}] [])
 (.cond (.t 25) (.seq (.rg 7 false [] [{i := .mv 4 (.c (.nil 1))}, {i := .mv 5 (.c (.d true (.bool false)))}, {i := .mv 6 (.c (.d true (.int .i64 8)))}] [])
 .ret) .skip))))
 (.rg 8 false [] [{i := .bin 26 .add (.t 18) (.c (.d true (.int .i64 1)))}, {i := .mv 18 (.t 26)}] []))))
def c_clause_Make_p2 : C :=
(.rg 15 true [] [{i := .mv 38 (.t 9)}, {i := .bin 39 .gtr (.t 38) (.c (.d true (.int .i64 0)))}, {i := .mv 40 (.t 39)}, ⟨(.mv 41 (.t 4)), (some (40, true))⟩, ⟨(.mv 42 (.t 9)), (some (40, true))⟩, ⟨(.ix 43 (.t 41) (.t 42) 1), (some (40, true))⟩, ⟨(.load 44 (.t 43) 0), (some (40, true))⟩, ⟨(.bin 45 .quo (.t 44) (.c (.d true (.int .i64 2)))), (some (40, true))⟩, ⟨(.mv 46 (.t 4)), (some (40, true))⟩, ⟨(.mv 47 (.t 9)), (some (40, true))⟩, ⟨(.bin 48 .sub (.t 47) (.c (.d true (.int .i64 1)))), (some (40, true))⟩, ⟨(.ix 49 (.t 46) (.t 48) 1), (some (40, true))⟩, ⟨(.load 50 (.t 49) 0), (some (40, true))⟩, ⟨(.bin 51 .quo (.t 50) (.c (.d true (.int .i64 2)))), (some (40, true))⟩, ⟨(.bin 52 .eql (.t 45) (.t 51)), (some (40, true))⟩, {i := .pick 53 (.t 40) (.t 52) (.c (.d true (.bool false)))}] [])
def c_clause_Make_l2 : C :=
(.seq (.rg 13 false [] [{i := .bin 36 .lss (.t 35) (.t 34)}] [])
 (.seq (.cond (.t 36) .skip (.exit 2))
 (.seq (.block 3 (.seq (.rg 14 false [] [{i := .mv 37 (.t 35)}, {i := .mv 9 (.t 37)}] [])
 (.seq c_clause_Make_p2
 (.cond (.t 53) (.seq (.rg 16 false [] [{i := .mv 4 (.c (.nil 1))}, {i := .mv 5 (.c (.d true (.bool true)))}, {i := .mv 6 (.c (.d true (.int .i64 0)))}] [])
 .ret) .skip))))
 (.rg 17 false [] [{i := .bin 54 .add (.t 35) (.c (.d true (.int .i64 1)))}, {i := .mv 35 (.t 54)}] []))))
def c_clause_Make : C :=
(.seq (.rg 0 false [] [{i := .mv 4 (.c (.nil 1))}, {i := .mv 5 (.c (.d true (.bool false)))}, {i := .mv 6 (.c (.d true (.int .i64 0)))}] [])
 (.seq (.seq c_clause_Make_p1
 (.cond (.t 15) (.seq (.rg 2 false [] [{i := .mv 4 (.c (.nil 1))}, {i := .mv 5 (.c (.d true (.bool false)))}, {i := .mv 6 (.c (.d true (.int .i64 2)))}] [])
 .ret) .skip))
 (.seq (.seq (.rg 3 false [] [{i := .mv 16 (.t 1)}, {i := .len 17 (.t 16)}, {i := .mv 18 (.c (.d true (.int .i64 0)))}] [])
 (.block 0 (.loop c_clause_Make_l1)))
 (.seq (.rg 9 false [] [{i := .mv 27 (.t 1)}, {i := .call 28 k_slices_Clone_of_int [(.t 27)] (some 20)}, {i := .mv 4 (.t 28)}] [])
 (.seq (.rg 10 false [] [{i := .mv 29 (.t 4)}, {i := .call 30 k_slices_Sort_of_int [(.t 29)] none}] [])
 (.seq (.rg 11 false [] [{i := .mv 31 (.t 4)}, {i := .call 32 k_slices_Compact_of_int [(.t 31)] none}, {i := .mv 4 (.t 32)}] [])
 (.seq (.seq (.rg 12 false [] [{i := .mv 33 (.t 4)}, {i := .len 34 (.t 33)}, {i := .mv 35 (.c (.d true (.int .i64 0)))}] [])
 (.block 2 (.loop c_clause_Make_l2)))
 (.seq (.rg 18 false [] [{i := .mv 55 (.t 4)}, {i := .mv 4 (.t 55)}, {i := .mv 5 (.c (.d true (.bool false)))}, {i := .mv 6 (.c (.d true (.int .i64 0)))}] [])
 .ret))))))))
def n_clause_Make : Fn := ⟨c_clause_Make, [.s 4, .s 5, .s 6], (some [false, false])⟩
def c_slices_insertionSortOrdered_of_int_l1 : C :=
(.seq (.seq (.rg 4 true [] [{i := .mv 16 (.t 7)}, {i := .mv 17 (.t 1)}, {i := .bin 18 .gtr (.t 16) (.t 17)}, {i := .mv 19 (.t 18)}, ⟨.mv 20 (.t 0), some (19, true)⟩, ⟨.mv 21 (.t 7), some (19, true)⟩, ⟨.ix 22 (.t 20) (.t 21) 1, some (19, true)⟩, ⟨.load 23 (.t 22) 0, some (19, true)⟩, ⟨.mv 24 (.t 0), some (19, true)⟩, ⟨.mv 25 (.t 7), some (19, true)⟩, ⟨.bin 26 .sub (.t 25) (.c (.d true (.int .i64 1))), some (19, true)⟩, ⟨.ix 27 (.t 24) (.t 26) 1, some (19, true)⟩, ⟨.load 28 (.t 27) 0, some (19, true)⟩, ⟨.call 29 k_cmp_Less_of_int [(.t 23), (.t 28)] none, some (19, true)⟩, {i := .pick 30 (.t 19) (.t 29) (.c (.d true (.bool false)))}] [])
 (.cond (.t 30) .skip (.exit 2)))
 (.seq (.block 3 (.rg 6 true [] [{i := .mv 33 (.t 0)}, {i := .mv 34 (.t 7)}, {i := .mv 35 (.t 0)}, {i := .mv 36 (.t 7)}, {i := .bin 37 .sub (.t 36) (.c (.d true (.int .i64 1)))}, {i := .mv 38 (.t 0)}, {i := .mv 39 (.t 7)}, {i := .bin 40 .sub (.t 39) (.c (.d true (.int .i64 1)))}, {i := .ix 41 (.t 38) (.t 40) 1}, {i := .load 42 (.t 41) 0}, {i := .mv 43 (.t 0)}, {i := .mv 44 (.t 7)}, {i := .ix 45 (.t 43) (.t 44) 1}, {i := .load 46 (.t 45) 0}, {i := .ix 47 (.t 33) (.t 34) 1}, {i := .store (.t 47) (.t 42) 0}, {i := .ix 48 (.t 35) (.t 37) 1}, {i := .store (.t 48) (.t 46) 0}] []))
 (.rg 5 false [] [{i := .mv 31 (.t 7)}, {i := .bin 32 .sub (.t 31) (.c (.d true (.int .i64 1)))}, {i := .mv 7 (.t 32)}] [])))
def c_slices_insertionSortOrdered_of_int_l2 : C :=
(.seq (.seq (.rg 1 false [] [{i := .mv 10 (.t 6)}, {i := .mv 11 (.t 2)}, {i := .bin 12 .lss (.t 10) (.t 11)}] [])
 (.cond (.t 12) .skip (.exit 0)))
 (.seq (.block 1 (.seq (.rg 3 false [] [{i := .mv 15 (.t 6)}, {i := .mv 7 (.t 15)}] [])
 (.block 2 (.loop c_slices_insertionSortOrdered_of_int_l1))))
 (.rg 2 false [] [{i := .mv 13 (.t 6)}, {i := .bin 14 .add (.t 13) (.c (.d true (.int .i64 1)))}, {i := .mv 6 (.t 14)}] [])))
def c_slices_insertionSortOrdered_of_int : C :=
(.seq (.rg 0 false [] [{i := .mv 8 (.t 1)}, {i := .bin 9 .add (.t 8) (.c (.d true (.int .i64 1)))}, {i := .mv 6 (.t 9)}] [])
 (.block 0 (.loop c_slices_insertionSortOrdered_of_int_l2)))
def n_slices_insertionSortOrdered_of_int : Fn := ⟨c_slices_insertionSortOrdered_of_int, [], none⟩
def c_bits_Len32 : C :=
(.seq (.rg 0 false [] [{i := .mv 2 (.c (.d true (.int .i64 0)))}] [])
 (.seq (.seq (.rg 1 false [] [{i := .mv 3 (.t 0)}, {i := .bin 4 .geq (.t 3) (.c (.d true (.int .u32 65536)))}] [])
 (.cond (.t 4) (.seq (.rg 2 false [] [{i := .mv 5 (.t 0)}, {i := .bin 6 .shr (.t 5) (.c (.d true (.int .u64 16)))}, {i := .mv 0 (.t 6)}] [])
 (.rg 3 false [] [{i := .mv 2 (.c (.d true (.int .i64 16)))}] [])) .skip))
 (.seq (.seq (.rg 4 false [] [{i := .mv 7 (.t 0)}, {i := .bin 8 .geq (.t 7) (.c (.d true (.int .u32 256)))}] [])
 (.cond (.t 8) (.seq (.rg 5 false [] [{i := .mv 9 (.t 0)}, {i := .bin 10 .shr (.t 9) (.c (.d true (.int .u64 8)))}, {i := .mv 0 (.t 10)}] [])
 (.rg 6 false [] [{i := .mv 11 (.t 2)}, {i := .bin 12 .add (.t 11) (.c (.d true (.int .i64 8)))}, {i := .mv 2 (.t 12)}] [])) .skip))
 (.seq (.rg 7 false [] [{i := .mv 13 (.t 2)}, {i := .mv 14 (.t 0)}, {i := .cvt 15 .u8 (.t 14)}, {i := .stx 16 [0, 1, 2, 2, 3, 3, 3, 3, 4, 4, 4, 4, 4, 4, 4, 4, 5, 5, 5, 5, 5, 5, 5, 5, 5, 5, 5, 5, 5, 5, 5, 5, 6, 6, 6, 6, 6, 6, 6, 6, 6, 6, 6, 6, 6, 6, 6, 6, 6, 6, 6, 6, 6, 6, 6, 6, 6, 6, 6, 6, 6, 6, 6, 6, 7, 7, 7, 7, 7, 7, 7, 7, 7, 7, 7, 7, 7, 7, 7, 7, 7, 7, 7, 7, 7, 7, 7, 7, 7, 7, 7, 7, 7, 7, 7, 7, 7, 7, 7, 7, 7, 7, 7, 7, 7, 7, 7, 7, 7, 7, 7, 7, 7, 7, 7, 7, 7, 7, 7, 7, 7, 7, 7, 7, 7, 7, 7, 7, 8, 8, 8, 8, 8, 8, 8, 8, 8, 8, 8, 8, 8, 8, 8, 8, 8, 8, 8, 8, 8, 8, 8, 8, 8, 8, 8, 8, 8, 8, 8, 8, 8, 8, 8, 8, 8, 8, 8, 8, 8, 8, 8, 8, 8, 8, 8, 8, 8, 8, 8, 8, 8, 8, 8, 8, 8, 8, 8, 8, 8, 8, 8, 8, 8, 8, 8, 8, 8, 8, 8, 8, 8, 8, 8, 8, 8, 8, 8, 8, 8, 8, 8, 8, 8, 8, 8, 8, 8, 8, 8, 8, 8, 8, 8, 8, 8, 8, 8, 8, 8, 8, 8, 8, 8, 8, 8, 8, 8, 8, 8, 8, 8, 8, 8, 8, 8, 8, 8, 8, 8, 8, 8, 8, 8, 8, 8, 8] (.t 15)}, {i := .cvt 17 .i64 (.t 16)}, {i := .bin 18 .add (.t 13) (.t 17)}, {i := .mv 2 (.t 18)}] [])
 .ret))))
def n_bits_Len32 : Fn := ⟨c_bits_Len32, [.s 2], (some [false])⟩
def c_bits_Len64 : C :=
(.seq (.rg 0 false [] [{i := .mv 2 (.c (.d true (.int .i64 0)))}] [])
 (.seq (.seq (.rg 1 false [] [{i := .mv 3 (.t 0)}, {i := .bin 4 .geq (.t 3) (.c (.d true (.int .u64 4294967296)))}] [])
 (.cond (.t 4) (.seq (.rg 2 false [] [{i := .mv 5 (.t 0)}, {i := .bin 6 .shr (.t 5) (.c (.d true (.int .u64 32)))}, {i := .mv 0 (.t 6)}] [])
 (.rg 3 false [] [{i := .mv 2 (.c (.d true (.int .i64 32)))}] [])) .skip))
 (.seq (.seq (.rg 4 false [] [{i := .mv 7 (.t 0)}, {i := .bin 8 .geq (.t 7) (.c (.d true (.int .u64 65536)))}] [])
 (.cond (.t 8) (.seq (.rg 5 false [] [{i := .mv 9 (.t 0)}, {i := .bin 10 .shr (.t 9) (.c (.d true (.int .u64 16)))}, {i := .mv 0 (.t 10)}] [])
 (.rg 6 false [] [{i := .mv 11 (.t 2)}, {i := .bin 12 .add (.t 11) (.c (.d true (.int .i64 16)))}, {i := .mv 2 (.t 12)}] [])) .skip))
 (.seq (.seq (.rg 7 false [] [{i := .mv 13 (.t 0)}, {i := .bin 14 .geq (.t 13) (.c (.d true (.int .u64 256)))}] [])
 (.cond (.t 14) (.seq (.rg 8 false [] [{i := .mv 15 (.t 0)}, {i := .bin 16 .shr (.t 15) (.c (.d true (.int .u64 8)))}, {i := .mv 0 (.t 16)}] [])
 (.rg 9 false [] [{i := .mv 17 (.t 2)}, {i := .bin 18 .add (.t 17) (.c (.d true (.int .i64 8)))}, {i := .mv 2 (.t 18)}] [])) .skip))
 (.seq (.rg 10 false [] [{i := .mv 19 (.t 2)}, {i := .mv 20 (.t 0)}, {i := .cvt 21 .u8 (.t 20)}, {i := .stx 22 [0, 1, 2, 2, 3, 3, 3, 3, 4, 4, 4, 4, 4, 4, 4, 4, 5, 5, 5, 5, 5, 5, 5, 5, 5, 5, 5, 5, 5, 5, 5, 5, 6, 6, 6, 6, 6, 6, 6, 6, 6, 6, 6, 6, 6, 6, 6, 6, 6, 6, 6, 6, 6, 6, 6, 6, 6, 6, 6, 6, 6, 6, 6, 6, 7, 7, 7, 7, 7, 7, 7, 7, 7, 7, 7, 7, 7, 7, 7, 7, 7, 7, 7, 7, 7, 7, 7, 7, 7, 7, 7, 7, 7, 7, 7, 7, 7, 7, 7, 7, 7, 7, 7, 7, 7, 7, 7, 7, 7, 7, 7, 7, 7, 7, 7, 7, 7, 7, 7, 7, 7, 7, 7, 7, 7, 7, 7, 7, 8, 8, 8, 8, 8, 8, 8, 8, 8, 8, 8, 8, 8, 8, 8, 8, 8, 8, 8, 8, 8, 8, 8, 8, 8, 8, 8, 8, 8, 8, 8, 8, 8, 8, 8, 8, 8, 8, 8, 8, 8, 8, 8, 8, 8, 8, 8, 8, 8, 8, 8, 8, 8, 8, 8, 8, 8, 8, 8, 8, 8, 8, 8, 8, 8, 8, 8, 8, 8, 8, 8, 8, 8, 8, 8, 8, 8, 8, 8, 8, 8, 8, 8, 8, 8, 8, 8, 8, 8, 8, 8, 8, 8, 8, 8, 8, 8, 8, 8, 8, 8, 8, 8, 8, 8, 8, 8, 8, 8, 8, 8, 8, 8, 8, 8, 8, 8, 8, 8, 8, 8, 8, 8, 8, 8, 8, 8, 8] (.t 21)}, {i := .cvt 23 .i64 (.t 22)}, {i := .bin 24 .add (.t 19) (.t 23)}, {i := .mv 2 (.t 24)}] [])
 .ret)))))
def n_bits_Len64 : Fn := ⟨c_bits_Len64, [.s 2], (some [false])⟩
def c_slices_IndexFunc_of_Lbool_l1 : C :=
(.seq (.rg 2 false [] [{i := .bin 9 .lss (.t 8) (.t 7)}] [])
 (.seq (.cond (.t 9) .skip (.exit 0))
 (.seq (.block 1 (.seq (.rg 3 false [] [{i := .mv 10 (.t 8)}, {i := .mv 5 (.t 10)}] [])
 (.seq (.rg 4 false [] [{i := .mv 11 (.t 1)}, {i := .mv 12 (.t 0)}, {i := .mv 13 (.t 5)}, {i := .ix 14 (.t 12) (.t 13) 1}, {i := .load 15 (.t 14) 0}, {i := .callv 16 (.t 11) [(.t 15)] none}] [])
 (.cond (.t 16) (.seq (.rg 5 false [] [{i := .mv 17 (.t 5)}, {i := .mv 4 (.t 17)}] [])
 .ret) .skip))))
 (.rg 6 false [] [{i := .bin 18 .add (.t 8) (.c (.d true (.int .i64 1)))}, {i := .mv 8 (.t 18)}] []))))
def c_slices_IndexFunc_of_Lbool : C :=
(.seq (.rg 0 false [] [{i := .mv 4 (.c (.d true (.int .i64 0)))}] [])
 (.seq (.seq (.rg 1 false [] [{i := .mv 6 (.t 0)}, {i := .len 7 (.t 6)}, {i := .mv 8 (.c (.d true (.int .i64 0)))}] [])
 (.block 0 (.loop c_slices_IndexFunc_of_Lbool_l1)))
 (.seq (.rg 7 false [] [{i := .mv 4 (.c (.d true (.int .i64 (-1))))}] [])
 .ret)))
def n_slices_IndexFunc_of_Lbool : Fn := ⟨c_slices_IndexFunc_of_Lbool, [.s 4], none⟩
def c_slices_Index_of_bool_l1 : C :=
(.seq (.rg 2 false [] [{i := .bin 9 .lss (.t 8) (.t 7)}] [])
 (.seq (.cond (.t 9) .skip (.exit 0))
 (.seq (.block 1 (.seq (.rg 3 false [] [{i := .mv 10 (.t 8)}, {i := .mv 5 (.t 10)}] [])
 (.seq (.rg 4 false [] [{i := .mv 11 (.t 1)}, {i := .mv 12 (.t 0)}, {i := .mv 13 (.t 5)}, {i := .ix 14 (.t 12) (.t 13) 1}, {i := .load 15 (.t 14) 0}, {i := .beq 16 false (.t 11) (.t 15)}] [])
 (.cond (.t 16) (.seq (.rg 5 false [] [{i := .mv 17 (.t 5)}, {i := .mv 4 (.t 17)}] [])
 .ret) .skip))))
 (.rg 6 false [] [{i := .bin 18 .add (.t 8) (.c (.d true (.int .i64 1)))}, {i := .mv 8 (.t 18)}] []))))
def c_slices_Index_of_bool : C :=
(.seq (.rg 0 false [] [{i := .mv 4 (.c (.d true (.int .i64 0)))}] [])
 (.seq (.seq (.rg 1 false [] [{i := .mv 6 (.t 0)}, {i := .len 7 (.t 6)}, {i := .mv 8 (.c (.d true (.int .i64 0)))}] [])
 (.block 0 (.loop c_slices_Index_of_bool_l1)))
 (.seq (.rg 7 false [] [{i := .mv 4 (.c (.d true (.int .i64 (-1))))}] [])
 .ret)))
def n_slices_Index_of_bool : Fn := ⟨c_slices_Index_of_bool, [.s 4], (some [false, false])⟩
def fnList : List (Nat × Fn) := [(k_law23_UnrollRuns, n_law23_UnrollRuns),
 (k_ref13_SameAll, n_ref13_SameAll),
 (k_ref13_Same, n_ref13_Same),
 (k_law23_great, n_law23_great),
 (k_unroll_Of, n_unroll_Of),
 (k_unroll_Free, n_unroll_Free),
 (k_ref22_Same, n_ref22_Same),
 (k_law23_alive, n_law23_alive),
 (k_ref02_Check, n_ref02_Check),
 (k_unroll_Trace, n_unroll_Trace),
 (k_law23_turns, n_law23_turns),
 (k_ref06_Same, n_ref06_Same),
 (k_values_Next, n_values_Next),
 (k_ref22_Check, n_ref22_Check),
 (k_law23_named, n_law23_named),
 (k_solve_Model, n_solve_Model),
 (k_ref06_Check, n_ref06_Check),
 (k_traces_States, n_traces_States),
 (k_clause_Check, n_clause_Check),
 (k_ref13_Valid, n_ref13_Valid),
 (k_slices_ContainsFunc_of_int, n_slices_ContainsFunc_of_int),
 (k_ref02_Great, n_ref02_Great),
 (k_ref02_Size, n_ref02_Size),
 (k_gates_Check, n_gates_Check),
 (k_unroll_made, n_unroll_made),
 (k_ref02_literals, n_ref02_literals),
 (k_gates_Vars, n_gates_Vars),
 (k_tseitin_Check, n_tseitin_Check),
 (k_unroll_value, n_unroll_value),
 (k_ref04_Same, n_ref04_Same),
 (k_ref06_SameAll, n_ref06_SameAll),
 (k_values_list, n_values_list),
 (k_values_Next_1, n_values_Next_1),
 (k_ref13_Vars, n_ref13_Vars),
 (k_ref15_Wrong, n_ref15_Wrong),
 (k_values_All, n_values_All),
 (k_ref22_True, n_ref22_True),
 (k_solve_check, n_solve_check),
 (k_clause_True, n_clause_True),
 (k_ref06_Starts, n_ref06_Starts),
 (k_traces_walk, n_traces_walk),
 (k_traces_States_1, n_traces_States_1),
 (k_clause_known, n_clause_known),
 (k_ref13_Lit, n_ref13_Lit),
 (k_slices_IndexFunc_of_int, n_slices_IndexFunc_of_int),
 (k_gates_starts, n_gates_starts),
 (k_gates_Check_1, n_gates_Check_1),
 (k_gates_Check_2, n_gates_Check_2),
 (k_slices_ContainsFunc_of_api_Latch, n_slices_ContainsFunc_of_api_Latch),
 (k_unroll_frames_frame, n_unroll_frames_frame),
 (k_unroll_lit, n_unroll_lit),
 (k_slices_Sort_of_int, n_slices_Sort_of_int),
 (k_slices_Compact_of_int, n_slices_Compact_of_int),
 (k_values_of, n_values_of),
 (k_ref13_Check, n_ref13_Check),
 (k_ref13_Truth, n_ref13_Truth),
 (k_traces_Check, n_traces_Check),
 (k_values_Props, n_values_Props),
 (k_cmp_Less_of_int, n_cmp_Less_of_int),
 (k_slices_IndexFunc_of_api_Latch, n_slices_IndexFunc_of_api_Latch),
 (k_unroll_frames_fresh, n_unroll_frames_fresh),
 (k_unroll_frames_add, n_unroll_frames_add),
 (k_slices_pdqsortOrdered_of_int, n_slices_pdqsortOrdered_of_int),
 (k_bits_Len, n_bits_Len),
 (k_traces_Check_1, n_traces_Check_1),
 (k_traces_starts, n_traces_starts),
 (k_slices_ContainsFunc_of_Lbool, n_slices_ContainsFunc_of_Lbool),
 (k_values_Props_1, n_values_Props_1),
 (k_values_Props_2, n_values_Props_2),
 (k_slices_Contains_of_bool, n_slices_Contains_of_bool),
 (k_cmp_isNaN_of_int, n_cmp_isNaN_of_int),
 (k_clause_Make, n_clause_Make),
 (k_slices_insertionSortOrdered_of_int, n_slices_insertionSortOrdered_of_int),
 (k_bits_Len32, n_bits_Len32),
 (k_bits_Len64, n_bits_Len64),
 (k_slices_IndexFunc_of_Lbool, n_slices_IndexFunc_of_Lbool),
 (k_slices_Index_of_bool, n_slices_Index_of_bool)]
def fnOf (f : Nat) : Option Fn := lk fnList f
theorem fn_law23_UnrollRuns : fnOf k_law23_UnrollRuns = some n_law23_UnrollRuns := by kernel_rfl
theorem fn_ref13_SameAll : fnOf k_ref13_SameAll = some n_ref13_SameAll := by kernel_rfl
theorem fn_ref13_Same : fnOf k_ref13_Same = some n_ref13_Same := by kernel_rfl
theorem fn_law23_great : fnOf k_law23_great = some n_law23_great := by kernel_rfl
theorem fn_unroll_Of : fnOf k_unroll_Of = some n_unroll_Of := by kernel_rfl
theorem fn_unroll_Free : fnOf k_unroll_Free = some n_unroll_Free := by kernel_rfl
theorem fn_ref22_Same : fnOf k_ref22_Same = some n_ref22_Same := by kernel_rfl
theorem fn_law23_alive : fnOf k_law23_alive = some n_law23_alive := by kernel_rfl
theorem fn_ref02_Check : fnOf k_ref02_Check = some n_ref02_Check := by kernel_rfl
theorem fn_unroll_Trace : fnOf k_unroll_Trace = some n_unroll_Trace := by kernel_rfl
theorem fn_law23_turns : fnOf k_law23_turns = some n_law23_turns := by kernel_rfl
theorem fn_ref06_Same : fnOf k_ref06_Same = some n_ref06_Same := by kernel_rfl
theorem fn_values_Next : fnOf k_values_Next = some n_values_Next := by kernel_rfl
theorem fn_ref22_Check : fnOf k_ref22_Check = some n_ref22_Check := by kernel_rfl
theorem fn_law23_named : fnOf k_law23_named = some n_law23_named := by kernel_rfl
theorem fn_solve_Model : fnOf k_solve_Model = some n_solve_Model := by kernel_rfl
theorem fn_ref06_Check : fnOf k_ref06_Check = some n_ref06_Check := by kernel_rfl
theorem fn_traces_States : fnOf k_traces_States = some n_traces_States := by kernel_rfl
theorem fn_clause_Check : fnOf k_clause_Check = some n_clause_Check := by kernel_rfl
theorem fn_ref13_Valid : fnOf k_ref13_Valid = some n_ref13_Valid := by kernel_rfl
theorem fn_slices_ContainsFunc_of_int : fnOf k_slices_ContainsFunc_of_int = some n_slices_ContainsFunc_of_int := by kernel_rfl
theorem fn_ref02_Great : fnOf k_ref02_Great = some n_ref02_Great := by kernel_rfl
theorem fn_ref02_Size : fnOf k_ref02_Size = some n_ref02_Size := by kernel_rfl
theorem fn_gates_Check : fnOf k_gates_Check = some n_gates_Check := by kernel_rfl
theorem fn_unroll_made : fnOf k_unroll_made = some n_unroll_made := by kernel_rfl
theorem fn_ref02_literals : fnOf k_ref02_literals = some n_ref02_literals := by kernel_rfl
theorem fn_gates_Vars : fnOf k_gates_Vars = some n_gates_Vars := by kernel_rfl
theorem fn_tseitin_Check : fnOf k_tseitin_Check = some n_tseitin_Check := by kernel_rfl
theorem fn_unroll_value : fnOf k_unroll_value = some n_unroll_value := by kernel_rfl
theorem fn_ref04_Same : fnOf k_ref04_Same = some n_ref04_Same := by kernel_rfl
theorem fn_ref06_SameAll : fnOf k_ref06_SameAll = some n_ref06_SameAll := by kernel_rfl
theorem fn_values_list : fnOf k_values_list = some n_values_list := by kernel_rfl
theorem fn_values_Next_1 : fnOf k_values_Next_1 = some n_values_Next_1 := by kernel_rfl
theorem fn_ref13_Vars : fnOf k_ref13_Vars = some n_ref13_Vars := by kernel_rfl
theorem fn_ref15_Wrong : fnOf k_ref15_Wrong = some n_ref15_Wrong := by kernel_rfl
theorem fn_values_All : fnOf k_values_All = some n_values_All := by kernel_rfl
theorem fn_ref22_True : fnOf k_ref22_True = some n_ref22_True := by kernel_rfl
theorem fn_solve_check : fnOf k_solve_check = some n_solve_check := by kernel_rfl
theorem fn_clause_True : fnOf k_clause_True = some n_clause_True := by kernel_rfl
theorem fn_ref06_Starts : fnOf k_ref06_Starts = some n_ref06_Starts := by kernel_rfl
theorem fn_traces_walk : fnOf k_traces_walk = some n_traces_walk := by kernel_rfl
theorem fn_traces_States_1 : fnOf k_traces_States_1 = some n_traces_States_1 := by kernel_rfl
theorem fn_clause_known : fnOf k_clause_known = some n_clause_known := by kernel_rfl
theorem fn_ref13_Lit : fnOf k_ref13_Lit = some n_ref13_Lit := by kernel_rfl
theorem fn_slices_IndexFunc_of_int : fnOf k_slices_IndexFunc_of_int = some n_slices_IndexFunc_of_int := by kernel_rfl
theorem fn_gates_starts : fnOf k_gates_starts = some n_gates_starts := by kernel_rfl
theorem fn_gates_Check_1 : fnOf k_gates_Check_1 = some n_gates_Check_1 := by kernel_rfl
theorem fn_gates_Check_2 : fnOf k_gates_Check_2 = some n_gates_Check_2 := by kernel_rfl
theorem fn_slices_ContainsFunc_of_api_Latch : fnOf k_slices_ContainsFunc_of_api_Latch = some n_slices_ContainsFunc_of_api_Latch := by kernel_rfl
theorem fn_unroll_frames_frame : fnOf k_unroll_frames_frame = some n_unroll_frames_frame := by kernel_rfl
theorem fn_unroll_lit : fnOf k_unroll_lit = some n_unroll_lit := by kernel_rfl
theorem fn_slices_Sort_of_int : fnOf k_slices_Sort_of_int = some n_slices_Sort_of_int := by kernel_rfl
theorem fn_slices_Compact_of_int : fnOf k_slices_Compact_of_int = some n_slices_Compact_of_int := by kernel_rfl
theorem fn_values_of : fnOf k_values_of = some n_values_of := by kernel_rfl
theorem fn_ref13_Check : fnOf k_ref13_Check = some n_ref13_Check := by kernel_rfl
theorem fn_ref13_Truth : fnOf k_ref13_Truth = some n_ref13_Truth := by kernel_rfl
theorem fn_traces_Check : fnOf k_traces_Check = some n_traces_Check := by kernel_rfl
theorem fn_values_Props : fnOf k_values_Props = some n_values_Props := by kernel_rfl
theorem fn_cmp_Less_of_int : fnOf k_cmp_Less_of_int = some n_cmp_Less_of_int := by kernel_rfl
theorem fn_slices_IndexFunc_of_api_Latch : fnOf k_slices_IndexFunc_of_api_Latch = some n_slices_IndexFunc_of_api_Latch := by kernel_rfl
theorem fn_unroll_frames_fresh : fnOf k_unroll_frames_fresh = some n_unroll_frames_fresh := by kernel_rfl
theorem fn_unroll_frames_add : fnOf k_unroll_frames_add = some n_unroll_frames_add := by kernel_rfl
theorem fn_slices_pdqsortOrdered_of_int : fnOf k_slices_pdqsortOrdered_of_int = some n_slices_pdqsortOrdered_of_int := by kernel_rfl
theorem fn_bits_Len : fnOf k_bits_Len = some n_bits_Len := by kernel_rfl
theorem fn_traces_Check_1 : fnOf k_traces_Check_1 = some n_traces_Check_1 := by kernel_rfl
theorem fn_traces_starts : fnOf k_traces_starts = some n_traces_starts := by kernel_rfl
theorem fn_slices_ContainsFunc_of_Lbool : fnOf k_slices_ContainsFunc_of_Lbool = some n_slices_ContainsFunc_of_Lbool := by kernel_rfl
theorem fn_values_Props_1 : fnOf k_values_Props_1 = some n_values_Props_1 := by kernel_rfl
theorem fn_values_Props_2 : fnOf k_values_Props_2 = some n_values_Props_2 := by kernel_rfl
theorem fn_slices_Contains_of_bool : fnOf k_slices_Contains_of_bool = some n_slices_Contains_of_bool := by kernel_rfl
theorem fn_cmp_isNaN_of_int : fnOf k_cmp_isNaN_of_int = some n_cmp_isNaN_of_int := by kernel_rfl
theorem fn_clause_Make : fnOf k_clause_Make = some n_clause_Make := by kernel_rfl
theorem fn_slices_insertionSortOrdered_of_int : fnOf k_slices_insertionSortOrdered_of_int = some n_slices_insertionSortOrdered_of_int := by kernel_rfl
theorem fn_slices_IndexFunc_of_Lbool : fnOf k_slices_IndexFunc_of_Lbool = some n_slices_IndexFunc_of_Lbool := by kernel_rfl
theorem fn_slices_Index_of_bool : fnOf k_slices_Index_of_bool = some n_slices_Index_of_bool := by kernel_rfl
theorem fn_slices_Clone_of_int : fnOf k_slices_Clone_of_int = none := by kernel_rfl
end Go.Proofs.Ytbmhmfcjjhjkgaa.Vm
