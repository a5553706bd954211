/- The functions, as the machine's code. Printed. -/
import Derived.Test.YtbmhmfcjjhjkgaaVmP1
import Derived.KernelRfl
namespace Go.Proofs.Ytbmhmfcjjhjkgaa.Vm
open Go
def k_law23_UnrollFree : Nat := 9
def k_ref13_SameAll : Nat := 21
def k_ref13_Same : Nat := 30
def k_law23_great : Nat := 31
def k_unroll_Of : Nat := 32
def k_ref23_Of : Nat := 33
def k_unroll_Free : Nat := 34
def k_ref23_Free : Nat := 35
def k_ref22_Same : Nat := 36
def k_law23_alive : Nat := 37
def k_ref02_Check : Nat := 38
def k_unroll_Trace : Nat := 43
def k_law23_turns : Nat := 44
def k_ref06_Same : Nat := 45
def k_values_Next : Nat := 46
def k_ref22_Check : Nat := 47
def k_law23_named : Nat := 48
def k_solve_Model : Nat := 49
def k_clause_Check : Nat := 58
def k_slices_Clone_of_int : Nat := 62
def k_ref13_Valid : Nat := 64
def k_slices_ContainsFunc_of_int : Nat := 66
def k_ref02_Great : Nat := 69
def k_ref02_Size : Nat := 70
def k_gates_Check : Nat := 79
def k_unroll_made : Nat := 82
def k_ref23_Asked : Nat := 83
def k_ref02_literals : Nat := 84
def k_gates_Vars : Nat := 90
def k_tseitin_Check : Nat := 91
def k_unroll_value : Nat := 92
def k_ref04_Same : Nat := 93
def k_ref06_SameAll : Nat := 94
def k_values_list : Nat := 95
def k_values_Next_1 : Nat := 96
def k_ref13_Vars : Nat := 97
def k_ref15_Wrong : Nat := 98
def k_values_All : Nat := 99
def k_ref22_True : Nat := 100
def k_solve_check : Nat := 101
def k_clause_True : Nat := 102
def k_clause_known : Nat := 106
def k_ref13_Lit : Nat := 109
def k_slices_IndexFunc_of_int : Nat := 111
def k_gates_starts : Nat := 119
def k_gates_Check_1 : Nat := 120
def k_gates_Check_2 : Nat := 121
def k_slices_ContainsFunc_of_api_Latch : Nat := 122
def k_unroll_frames_frame : Nat := 124
def k_unroll_lit : Nat := 125
def k_ref23_Made : Nat := 126
def k_slices_Sort_of_int : Nat := 127
def k_slices_Compact_of_int : Nat := 128
def k_ref22_Put : Nat := 130
def k_values_of : Nat := 132
def k_ref13_Check : Nat := 133
def k_ref13_Truth : Nat := 134
def k_cmp_Less_of_int : Nat := 137
def k_ref13_Has : Nat := 139
def k_slices_IndexFunc_of_api_Latch : Nat := 146
def k_unroll_frames_fresh : Nat := 147
def k_unroll_frames_add : Nat := 148
def k_ref23_Resets : Nat := 149
def k_ref23_More : Nat := 150
def k_ref23_Behind : Nat := 151
def k_slices_pdqsortOrdered_of_int : Nat := 152
def k_bits_Len : Nat := 153
def k_ref13_Without : Nat := 154
def k_ref13_Always : Nat := 155
def k_ref13_Sorted : Nat := 156
def k_ref22_Lit : Nat := 157
def k_cmp_isNaN_of_int : Nat := 164
def k_clause_Make : Nat := 171
def k_ref02_Gate : Nat := 172
def k_ref22_Gate : Nat := 173
def k_slices_insertionSortOrdered_of_int : Nat := 174
def k_slices_heapSortOrdered_of_int : Nat := 175
def k_slices_breakPatternsOrdered_of_int : Nat := 176
def k_slices_choosePivotOrdered_of_int : Nat := 177
def k_slices_reverseRangeOrdered_of_int : Nat := 178
def k_slices_partialInsertionSortOrdered_of_int : Nat := 179
def k_slices_partitionEqualOrdered_of_int : Nat := 180
def k_slices_partitionOrdered_of_int : Nat := 181
def k_bits_Len32 : Nat := 182
def k_bits_Len64 : Nat := 183
def k_ref13_Not : Nat := 184
def k_ref22_Not : Nat := 185
def c_law23_UnrollTells_p1 : C :=
(.rg 1 false [] [⟨(.load 13 (.t 2) 6), none⟩, ⟨(.call 14 k_law23_great [(.t 13)] none), none⟩, ⟨(.mv 15 (.t 14)), none⟩, ⟨(.mv 16 (.t 1)), (some (15, false))⟩, ⟨(.bin 17 .gtr (.t 16) (.c (.d true (.int .i64 8)))), (some (15, false))⟩, ⟨(.mv 18 (.t 17)), (some (15, false))⟩, ⟨(.mv 19 (.t 1)), (some (18, true))⟩, ⟨(.bin 20 .leq (.t 19) (.c (.d true (.int .i64 100)))), (some (18, true))⟩, ⟨(.pick 21 (.t 18) (.t 20) (.c (.d true (.bool false)))), (some (15, false))⟩, ⟨(.pick 22 (.t 15) (.c (.d true (.bool true))) (.t 21)), none⟩] [])
def c_law23_UnrollTells_p2 : C :=
(.rg 7 false [] [⟨(.load 47 (.t 5) 4), none⟩, ⟨(.load 48 (.t 7) 4), none⟩, ⟨(.call 49 k_ref22_Same [(.t 47), (.t 48)] none), none⟩, ⟨(.mv 50 (.t 49)), none⟩, ⟨(.mv 51 (.t 6)), (some (50, true))⟩, ⟨(.mv 52 (.t 8)), (some (50, true))⟩, ⟨(.bin 53 .eql (.t 51) (.t 52)), (some (50, true))⟩, ⟨(.pick 54 (.t 50) (.t 53) (.c (.d true (.bool false)))), none⟩, ⟨(.mv 55 (.t 54)), none⟩, ⟨(.load 56 (.t 9) 4), (some (55, true))⟩, ⟨(.load 57 (.t 11) 4), (some (55, true))⟩, ⟨(.call 58 k_ref22_Same [(.t 56), (.t 57)] none), (some (55, true))⟩, ⟨(.pick 59 (.t 55) (.t 58) (.c (.d true (.bool false)))), none⟩, ⟨(.mv 60 (.t 59)), none⟩, ⟨(.mv 61 (.t 10)), (some (60, true))⟩, ⟨(.mv 62 (.t 12)), (some (60, true))⟩, ⟨(.bin 63 .eql (.t 61) (.t 62)), (some (60, true))⟩, ⟨(.pick 64 (.t 60) (.t 63) (.c (.d true (.bool false)))), none⟩, ⟨(.mv 4 (.t 64)), none⟩] [])
def c_law23_UnrollTells : C :=
(.seq (.rg 0 false [] [⟨(.box 2 0 (.t 0) 6), none⟩, ⟨(.mv 4 (.c (.d true (.bool false)))), none⟩] [])
 (.seq (.seq c_law23_UnrollTells_p1
 (.cond (.t 22) (.seq (.rg 2 false [] [⟨(.mv 4 (.c (.d true (.bool true)))), none⟩] [])
 .ret) .skip))
 (.seq (.rg 3 false [] [⟨(.load 24 (.t 2) 6), none⟩, ⟨(.mv 25 (.t 1)), none⟩, ⟨(.call 26 k_unroll_Of [(.t 24), (.t 25)] none), none⟩, ⟨(.mv 23 (.t 26)), none⟩, ⟨(.xt 27 (.t 23) 0), none⟩, ⟨(.xt 28 (.t 23) 1), none⟩, ⟨(.alloc 5 1 [(.k (.int .i64 0)), (.n 1), (.n 1)]), none⟩, ⟨(.store (.t 5) (.t 27) 4), none⟩, ⟨(.mv 6 (.t 28)), none⟩] [])
 (.seq (.rg 4 false [] [⟨(.load 30 (.t 2) 6), none⟩, ⟨(.mv 31 (.t 1)), none⟩, ⟨(.call 32 k_ref23_Of [(.t 30), (.t 31)] none), none⟩, ⟨(.mv 29 (.t 32)), none⟩, ⟨(.xt 33 (.t 29) 0), none⟩, ⟨(.xt 34 (.t 29) 1), none⟩, ⟨(.alloc 7 2 [(.k (.int .i64 0)), (.n 1), (.n 1)]), none⟩, ⟨(.store (.t 7) (.t 33) 4), none⟩, ⟨(.mv 8 (.t 34)), none⟩] [])
 (.seq (.rg 5 false [] [⟨(.load 36 (.t 2) 6), none⟩, ⟨(.mv 37 (.t 1)), none⟩, ⟨(.call 38 k_unroll_Free [(.t 36), (.t 37)] none), none⟩, ⟨(.mv 35 (.t 38)), none⟩, ⟨(.xt 39 (.t 35) 0), none⟩, ⟨(.xt 40 (.t 35) 1), none⟩, ⟨(.alloc 9 3 [(.k (.int .i64 0)), (.n 1), (.n 1)]), none⟩, ⟨(.store (.t 9) (.t 39) 4), none⟩, ⟨(.mv 10 (.t 40)), none⟩] [])
 (.seq (.rg 6 false [] [⟨(.load 42 (.t 2) 6), none⟩, ⟨(.mv 43 (.t 1)), none⟩, ⟨(.call 44 k_ref23_Free [(.t 42), (.t 43)] none), none⟩, ⟨(.mv 41 (.t 44)), none⟩, ⟨(.xt 45 (.t 41) 0), none⟩, ⟨(.xt 46 (.t 41) 1), none⟩, ⟨(.alloc 11 4 [(.k (.int .i64 0)), (.n 1), (.n 1)]), none⟩, ⟨(.store (.t 11) (.t 45) 4), none⟩, ⟨(.mv 12 (.t 46)), none⟩] [])
 (.seq c_law23_UnrollTells_p2
 .ret)))))))
def c_law23_UnrollFree_p1 : C :=
(.rg 2 false [] [⟨(.load 21 (.t 3) 6), none⟩, ⟨(.call 22 k_law23_great [(.t 21)] none), none⟩, ⟨(.mv 23 (.t 22)), none⟩, ⟨(.load 24 (.t 3) 6), (some (23, false))⟩, ⟨(.call 25 k_ref02_Check [(.t 24)] none), (some (23, false))⟩, ⟨(.bin 26 .neq (.t 25) (.c (.d true (.int .i64 0)))), (some (23, false))⟩, ⟨(.pick 27 (.t 23) (.c (.d true (.bool true))) (.t 26)), none⟩, ⟨(.mv 28 (.t 27)), none⟩, ⟨(.mv 29 (.t 1)), (some (28, false))⟩, ⟨(.len 30 (.t 29)), (some (28, false))⟩, ⟨(.fad 31 (.t 3) 1 0), (some (28, false))⟩, ⟨(.load 32 (.t 31) 0), (some (28, false))⟩, ⟨(.len 33 (.t 32)), (some (28, false))⟩, ⟨(.bin 34 .neq (.t 30) (.t 33)), (some (28, false))⟩, ⟨(.pick 35 (.t 28) (.c (.d true (.bool true))) (.t 34)), none⟩, ⟨(.mv 36 (.t 35)), none⟩, ⟨(.mv 37 (.t 2)), (some (36, false))⟩, ⟨(.len 38 (.t 37)), (some (36, false))⟩, ⟨(.bin 39 .lss (.t 38) (.c (.d true (.int .i64 1)))), (some (36, false))⟩, ⟨(.pick 40 (.t 36) (.c (.d true (.bool true))) (.t 39)), none⟩, ⟨(.mv 41 (.t 40)), none⟩, ⟨(.mv 42 (.t 2)), (some (41, false))⟩, ⟨(.len 43 (.t 42)), (some (41, false))⟩, ⟨(.bin 44 .gtr (.t 43) (.c (.d true (.int .i64 8)))), (some (41, false))⟩, ⟨(.pick 45 (.t 41) (.c (.d true (.bool true))) (.t 44)), none⟩, ⟨(.mv 46 (.t 45)), none⟩, ⟨(.mv 47 (.t 7)), (some (46, false))⟩, ⟨(.un 48 .not (.t 47)), (some (46, false))⟩, ⟨(.pick 49 (.t 46) (.c (.d true (.bool true))) (.t 48)), none⟩] [])
def c_law23_UnrollFree_l1 : C :=
(.seq (.seq (.rg 6 false [] [⟨(.mv 51 (.t 9)), none⟩, ⟨(.mv 52 (.t 2)), none⟩, ⟨(.len 53 (.t 52)), none⟩, ⟨(.bin 54 .lss (.t 51) (.t 53)), none⟩] [])
 (.cond (.t 54) .skip (.exit 0)))
 (.seq (.block 1 (.seq (.seq (.rg 8 true [] [⟨(.mv 57 (.t 2)), none⟩, ⟨(.mv 58 (.t 9)), none⟩, ⟨(.ix 59 (.t 57) (.t 58) 1), none⟩, ⟨(.load 60 (.t 59) 0), none⟩, ⟨(.len 61 (.t 60)), none⟩, ⟨(.fad 62 (.t 3) 0 0), none⟩, ⟨(.load 63 (.t 62) 0), none⟩, ⟨(.bin 64 .neq (.t 61) (.t 63)), none⟩] [])
 (.cond (.t 64) (.seq (.rg 9 false [] [⟨(.mv 65 (.t 7)), none⟩, ⟨(.mv 6 (.t 65)), none⟩] [])
 .ret) .skip))
 (.seq (.rg 10 false [(.kill 2 3)] [⟨(.mv 66 (.t 8)), none⟩, ⟨(.mv 67 (.t 1)), none⟩, ⟨(.bsl 68 2 1 1 (.k (.lst 1 [])) [(0, (.t 67))]), none⟩, ⟨(.app 69 3 1 (.t 66) (.t 68)), none⟩, ⟨(.mv 8 (.t 69)), none⟩] [])
 (.seq (.rg 11 true [] [⟨(.load 71 (.t 3) 6), none⟩, ⟨(.mv 72 (.t 1)), none⟩, ⟨(.mv 73 (.t 2)), none⟩, ⟨(.mv 74 (.t 9)), none⟩, ⟨(.ix 75 (.t 73) (.t 74) 1), none⟩, ⟨(.load 76 (.t 75) 0), none⟩, ⟨(.call 77 k_values_Next [(.t 71), (.t 72), (.t 76)] none), none⟩, ⟨(.mv 70 (.t 77)), none⟩, ⟨(.xt 78 (.t 70) 0), none⟩, ⟨(.xt 79 (.t 70) 1), none⟩, ⟨(.mv 10 (.t 78)), none⟩, ⟨(.mv 11 (.t 79)), none⟩] [])
 (.seq (.seq (.rg 12 false [] [⟨(.mv 80 (.t 11)), none⟩, ⟨(.bin 81 .neq (.t 80) (.c (.d true (.int .i64 0)))), none⟩] [])
 (.cond (.t 81) (.seq (.rg 13 false [] [⟨(.mv 6 (.c (.d true (.bool false)))), none⟩] [])
 .ret) .skip))
 (.rg 14 false [] [⟨(.mv 82 (.t 10)), none⟩, ⟨(.mv 1 (.t 82)), none⟩] []))))))
 (.rg 7 false [] [⟨(.mv 55 (.t 9)), none⟩, ⟨(.bin 56 .add (.t 55) (.c (.d true (.int .i64 1)))), none⟩, ⟨(.mv 9 (.t 56)), none⟩] [])))
def c_law23_UnrollFree_p2 : C :=
(.rg 16 false [] [⟨(.mv 90 (.t 13)), none⟩, ⟨(.bin 91 .neq (.t 90) (.c (.d true (.int .i64 0)))), none⟩, ⟨(.mv 92 (.t 91)), none⟩, ⟨(.load 93 (.t 12) 4), (some (92, false))⟩, ⟨(.call 94 k_ref22_Check [(.t 93)] none), (some (92, false))⟩, ⟨(.bin 95 .neq (.t 94) (.c (.d true (.int .i64 0)))), (some (92, false))⟩, ⟨(.pick 96 (.t 92) (.c (.d true (.bool true))) (.t 95)), none⟩, ⟨(.mv 97 (.t 96)), none⟩, ⟨(.fad 98 (.t 12) 1 0), (some (97, false))⟩, ⟨(.load 99 (.t 98) 0), (some (97, false))⟩, ⟨(.len 100 (.t 99)), (some (97, false))⟩, ⟨(.mv 101 (.t 2)), (some (97, false))⟩, ⟨(.len 102 (.t 101)), (some (97, false))⟩, ⟨(.bin 103 .neq (.t 100) (.t 102)), (some (97, false))⟩, ⟨(.pick 104 (.t 97) (.c (.d true (.bool true))) (.t 103)), none⟩] [])
def c_law23_UnrollFree_p3 : C :=
(.rg 23 true [] [⟨(.mv 131 (.t 7)), none⟩, ⟨(.mv 132 (.t 131)), none⟩, ⟨(.mv 133 (.t 17)), (some (132, true))⟩, ⟨(.bin 134 .eql (.t 133) (.c (.d true (.int .i64 0)))), (some (132, true))⟩, ⟨(.pick 135 (.t 132) (.t 134) (.c (.d true (.bool false)))), none⟩, ⟨(.mv 136 (.t 135)), none⟩, ⟨(.mv 137 (.t 16)), (some (136, true))⟩, ⟨(.pick 138 (.t 136) (.t 137) (.c (.d true (.bool false)))), none⟩, ⟨(.mv 139 (.t 138)), none⟩, ⟨(.mv 140 (.t 19)), (some (139, true))⟩, ⟨(.bin 141 .eql (.t 140) (.c (.d true (.int .i64 0)))), (some (139, true))⟩, ⟨(.pick 142 (.t 139) (.t 141) (.c (.d true (.bool false)))), none⟩, ⟨(.mv 143 (.t 142)), none⟩, ⟨(.load 144 (.t 18) 3), (some (143, true))⟩, ⟨(.mv 145 (.t 8)), (some (143, true))⟩, ⟨(.ix 146 (.t 145) (.c (.d true (.int .i64 0))) 1), (some (143, true))⟩, ⟨(.load 147 (.t 146) 0), (some (143, true))⟩, ⟨(.mv 148 (.t 2)), (some (143, true))⟩, ⟨(.bld 149 [(.n 1), (.n 1)] [(0, 0, (.t 147)), (1, 0, (.t 148))]), (some (143, true))⟩, ⟨(.call 150 k_ref06_Same [(.t 144), (.t 149)] none), (some (143, true))⟩, ⟨(.pick 151 (.t 143) (.t 150) (.c (.d true (.bool false)))), none⟩, ⟨(.mv 6 (.t 151)), none⟩] [])
def c_law23_UnrollFree : C :=
(.seq (.rg 0 false [] [⟨(.box 3 0 (.t 0) 6), none⟩, ⟨(.mv 6 (.c (.d true (.bool false)))), none⟩] [])
 (.seq (.rg 1 false [] [⟨(.call 20 k_law23_alive [] none), none⟩, ⟨(.mv 7 (.t 20)), none⟩] [])
 (.seq (.seq c_law23_UnrollFree_p1
 (.cond (.t 49) (.seq (.rg 3 false [] [⟨(.mv 50 (.t 7)), none⟩, ⟨(.mv 6 (.t 50)), none⟩] [])
 .ret) .skip))
 (.seq (.rg 4 false [] [⟨(.nilr 8 1 1), none⟩] [])
 (.seq (.seq (.rg 5 false [] [⟨(.mv 9 (.c (.d true (.int .i64 0)))), none⟩] [])
 (.block 0 (.loop c_law23_UnrollFree_l1)))
 (.seq (.rg 15 false [] [⟨(.load 84 (.t 3) 6), none⟩, ⟨(.mv 85 (.t 2)), none⟩, ⟨(.len 86 (.t 85)), none⟩, ⟨(.call 87 k_unroll_Free [(.t 84), (.t 86)] none), none⟩, ⟨(.mv 83 (.t 87)), none⟩, ⟨(.xt 88 (.t 83) 0), none⟩, ⟨(.xt 89 (.t 83) 1), none⟩, ⟨(.alloc 12 4 [(.k (.int .i64 0)), (.n 1), (.n 1)]), none⟩, ⟨(.store (.t 12) (.t 88) 4), none⟩, ⟨(.mv 13 (.t 89)), none⟩] [])
 (.seq (.seq c_law23_UnrollFree_p2
 (.cond (.t 104) (.seq (.rg 17 false [] [⟨(.mv 6 (.c (.d true (.bool false)))), none⟩] [])
 .ret) .skip))
 (.seq (.rg 18 false [] [⟨(.load 106 (.t 3) 6), none⟩, ⟨(.load 107 (.t 12) 4), none⟩, ⟨(.mv 108 (.t 8)), none⟩, ⟨(.mv 109 (.t 2)), none⟩, ⟨(.call 110 k_law23_named [(.t 106), (.t 107), (.t 108), (.t 109)] none), none⟩, ⟨(.mv 105 (.t 110)), none⟩, ⟨(.xt 111 (.t 105) 0), none⟩, ⟨(.xt 112 (.t 105) 1), none⟩, ⟨(.mv 14 (.t 111)), none⟩, ⟨(.mv 15 (.t 112)), none⟩] [])
 (.seq (.seq (.rg 19 false [] [⟨(.mv 113 (.t 15)), none⟩, ⟨(.un 114 .not (.t 113)), none⟩] [])
 (.cond (.t 114) (.seq (.rg 20 false [] [⟨(.mv 6 (.c (.d true (.bool false)))), none⟩] [])
 .ret) .skip))
 (.seq (.rg 21 false [] [⟨(.fad 116 (.t 12) 0 0), none⟩, ⟨(.load 117 (.t 116) 0), none⟩, ⟨(.fad 118 (.t 12) 2 0), none⟩, ⟨(.load 119 (.t 118) 0), none⟩, ⟨(.mv 120 (.t 14)), none⟩, ⟨(.call 121 k_solve_Model [(.t 117), (.t 119), (.t 120)] none), none⟩, ⟨(.mv 115 (.t 121)), none⟩, ⟨(.xt 122 (.t 115) 0), none⟩, ⟨(.xt 123 (.t 115) 1), none⟩, ⟨(.mv 16 (.t 122)), none⟩, ⟨(.mv 17 (.t 123)), none⟩] [])
 (.seq (.rg 22 false [] [⟨(.load 125 (.t 3) 6), none⟩, ⟨(.load 126 (.t 12) 4), none⟩, ⟨(.mv 127 (.t 14)), none⟩, ⟨(.call 128 k_unroll_Trace [(.t 125), (.t 126), (.t 127)] none), none⟩, ⟨(.mv 124 (.t 128)), none⟩, ⟨(.xt 129 (.t 124) 0), none⟩, ⟨(.xt 130 (.t 124) 1), none⟩, ⟨(.alloc 18 5 [(.n 1), (.n 1)]), none⟩, ⟨(.store (.t 18) (.t 129) 3), none⟩, ⟨(.mv 19 (.t 130)), none⟩] [])
 (.seq c_law23_UnrollFree_p3
 .ret))))))))))))
def n_law23_UnrollFree : Fn := ⟨c_law23_UnrollFree, [.s 6], (some [false, false, false])⟩
def c_ref13_SameAll_l1 : C :=
(.seq (.seq (.rg 4 false [] [⟨.mv 11 (.t 5), none⟩, ⟨.mv 12 (.t 0), none⟩, ⟨.len 13 (.t 12), none⟩, ⟨.bin 14 .lss (.t 11) (.t 13), none⟩] [])
 (.cond (.t 14) .skip (.exit 0)))
 (.seq (.block 1 (.seq (.rg 6 true [] [⟨.mv 17 (.t 0), none⟩, ⟨.mv 18 (.t 5), none⟩, ⟨.ix 19 (.t 17) (.t 18) 1, none⟩, ⟨.load 20 (.t 19) 0, none⟩, ⟨.mv 21 (.t 1), none⟩, ⟨.mv 22 (.t 5), none⟩, ⟨.ix 23 (.t 21) (.t 22) 1, none⟩, ⟨.load 24 (.t 23) 0, none⟩, ⟨.call 25 k_ref13_Same [(.t 20), (.t 24)] none, none⟩, ⟨.un 26 .not (.t 25), none⟩] [])
 (.cond (.t 26) (.seq (.rg 7 false [] [⟨.mv 4 (.c (.d true (.bool false))), none⟩] [])
 .ret) .skip)))
 (.rg 5 false [] [⟨.mv 15 (.t 5), none⟩, ⟨.bin 16 .add (.t 15) (.c (.d true (.int .i64 1))), none⟩, ⟨.mv 5 (.t 16), none⟩] [])))
def c_ref13_SameAll : C :=
(.seq (.rg 0 false [] [⟨.mv 4 (.c (.d true (.bool false))), none⟩] [])
 (.seq (.seq (.rg 1 false [] [⟨.mv 6 (.t 0), none⟩, ⟨.len 7 (.t 6), none⟩, ⟨.mv 8 (.t 1), none⟩, ⟨.len 9 (.t 8), none⟩, ⟨.bin 10 .neq (.t 7) (.t 9), none⟩] [])
 (.cond (.t 10) (.seq (.rg 2 false [] [⟨.mv 4 (.c (.d true (.bool false))), none⟩] [])
 .ret) .skip))
 (.seq (.seq (.rg 3 false [] [⟨.mv 5 (.c (.d true (.int .i64 0))), none⟩] [])
 (.block 0 (.loop c_ref13_SameAll_l1)))
 (.seq (.rg 8 false [] [⟨.mv 4 (.c (.d true (.bool true))), none⟩] [])
 .ret))))
def n_ref13_SameAll : Fn := ⟨c_ref13_SameAll, [.s 4], (some [false, false])⟩
def c_ref13_Same_l1 : C :=
(.seq (.seq (.rg 4 false [] [⟨.mv 11 (.t 5), none⟩, ⟨.mv 12 (.t 0), none⟩, ⟨.len 13 (.t 12), none⟩, ⟨.bin 14 .lss (.t 11) (.t 13), none⟩] [])
 (.cond (.t 14) .skip (.exit 0)))
 (.seq (.block 1 (.seq (.rg 6 true [] [⟨.mv 17 (.t 0), none⟩, ⟨.mv 18 (.t 5), none⟩, ⟨.ix 19 (.t 17) (.t 18) 1, none⟩, ⟨.load 20 (.t 19) 0, none⟩, ⟨.mv 21 (.t 1), none⟩, ⟨.mv 22 (.t 5), none⟩, ⟨.ix 23 (.t 21) (.t 22) 1, none⟩, ⟨.load 24 (.t 23) 0, none⟩, ⟨.bin 25 .neq (.t 20) (.t 24), none⟩] [])
 (.cond (.t 25) (.seq (.rg 7 false [] [⟨.mv 4 (.c (.d true (.bool false))), none⟩] [])
 .ret) .skip)))
 (.rg 5 false [] [⟨.mv 15 (.t 5), none⟩, ⟨.bin 16 .add (.t 15) (.c (.d true (.int .i64 1))), none⟩, ⟨.mv 5 (.t 16), none⟩] [])))
def c_ref13_Same : C :=
(.seq (.rg 0 false [] [⟨.mv 4 (.c (.d true (.bool false))), none⟩] [])
 (.seq (.seq (.rg 1 false [] [⟨.mv 6 (.t 0), none⟩, ⟨.len 7 (.t 6), none⟩, ⟨.mv 8 (.t 1), none⟩, ⟨.len 9 (.t 8), none⟩, ⟨.bin 10 .neq (.t 7) (.t 9), none⟩] [])
 (.cond (.t 10) (.seq (.rg 2 false [] [⟨.mv 4 (.c (.d true (.bool false))), none⟩] [])
 .ret) .skip))
 (.seq (.seq (.rg 3 false [] [⟨.mv 5 (.c (.d true (.int .i64 0))), none⟩] [])
 (.block 0 (.loop c_ref13_Same_l1)))
 (.seq (.rg 8 false [] [⟨.mv 4 (.c (.d true (.bool true))), none⟩] [])
 .ret))))
def n_ref13_Same : Fn := ⟨c_ref13_Same, [.s 4], (some [false, false])⟩
def c_law23_great_p1 : C :=
(.rg 1 false [] [⟨(.load 3 (.t 1) 6), none⟩, ⟨(.call 4 k_ref02_Great [(.t 3)] none), none⟩, ⟨(.mv 5 (.t 4)), none⟩, ⟨(.load 6 (.t 1) 6), (some (5, false))⟩, ⟨(.call 7 k_ref02_Size [(.t 6)] none), (some (5, false))⟩, ⟨(.bin 8 .gtr (.t 7) (.c (.d true (.int .i64 60)))), (some (5, false))⟩, ⟨(.pick 9 (.t 5) (.c (.d true (.bool true))) (.t 8)), none⟩, ⟨(.mv 2 (.t 9)), none⟩] [])
def c_law23_great : C :=
(.seq (.rg 0 false [] [⟨(.box 1 0 (.t 0) 6), none⟩, ⟨(.mv 2 (.c (.d true (.bool false)))), none⟩] [])
 (.seq c_law23_great_p1
 .ret))
def n_law23_great : Fn := ⟨c_law23_great, [.s 2], (some [false])⟩
def c_unroll_Of_p1 : C :=
(.seq (.rg 9 false [] [⟨(.fad 26 (.t 9) 1 0), none⟩, ⟨(.load 27 (.t 26) 0), none⟩, ⟨(.bin 28 .eql (.t 27) (.c (.d true (.int .i64 2)))), none⟩] [])
 (.cond (.t 28) (.rg 10 false [] [⟨(.mv 10 (.c (.d true (.int .i64 (-1))))), none⟩] []) .skip))
def c_unroll_Of_l1 : C :=
(.seq (.rg 6 false [] [⟨(.bin 21 .lss (.t 20) (.t 19)), none⟩] [])
 (.seq (.cond (.t 21) .skip (.exit 0))
 (.seq (.block 1 (.seq (.rg 7 false [(.kill 5 6)] [⟨(.ix 22 (.t 18) (.t 20) 2), none⟩, ⟨(.load 23 (.t 22) 3), none⟩, ⟨(.alloc 9 5 [(.k (.int .i64 0)), (.k (.int .i64 0))]), none⟩, ⟨(.store (.t 9) (.t 23) 3), none⟩] [])
 (.seq (.rg 8 false [] [⟨(.fad 24 (.t 9) 1 0), none⟩, ⟨(.load 25 (.t 24) 0), none⟩, ⟨(.mv 10 (.t 25)), none⟩] [])
 (.seq c_unroll_Of_p1
 (.rg 11 false [(.kill 6 7)] [⟨(.mv 29 (.t 7)), none⟩, ⟨(.mv 30 (.t 10)), none⟩, ⟨(.bsl 31 6 1 1 (.k (.int .i64 0)) [(0, (.t 30))]), none⟩, ⟨(.app 32 7 1 (.t 29) (.t 31)), none⟩, ⟨(.mv 7 (.t 32)), none⟩] [])))))
 (.rg 12 false [] [⟨(.bin 33 .add (.t 20) (.c (.d true (.int .i64 1)))), none⟩, ⟨(.mv 20 (.t 33)), none⟩] []))))
def c_unroll_Of : C :=
(.seq (.rg 0 false [] [⟨(.box 2 0 (.t 0) 6), none⟩, ⟨(.alloc 4 1 [(.k (.int .i64 0)), (.r 2 1), (.r 3 1)]), none⟩, ⟨(.mv 5 (.c (.d true (.int .i64 0)))), none⟩] [])
 (.seq (.seq (.rg 1 false [] [⟨(.load 11 (.t 2) 6), none⟩, ⟨(.call 12 k_gates_Check [(.t 11)] none), none⟩, ⟨(.mv 6 (.t 12)), none⟩] [])
 (.seq (.rg 2 false [] [⟨(.mv 13 (.t 6)), none⟩, ⟨(.bin 14 .neq (.t 13) (.c (.d true (.int .i64 0)))), none⟩] [])
 (.cond (.t 14) (.seq (.rg 3 false [] [⟨(.bld 15 [(.k (.int .i64 0)), (.n 1), (.n 1)] []), none⟩, ⟨(.mv 16 (.t 6)), none⟩, ⟨(.store (.t 4) (.t 15) 4), none⟩, ⟨(.mv 5 (.t 16)), none⟩] [])
 .ret) .skip)))
 (.seq (.rg 4 false [] [⟨(.nilr 7 4 1), none⟩] [])
 (.seq (.seq (.rg 5 false [] [⟨(.fad 17 (.t 2) 1 0), none⟩, ⟨(.load 18 (.t 17) 0), none⟩, ⟨(.len 19 (.t 18)), none⟩, ⟨(.mv 20 (.c (.d true (.int .i64 0)))), none⟩] [])
 (.block 0 (.loop c_unroll_Of_l1)))
 (.seq (.rg 13 false [] [⟨(.load 34 (.t 2) 6), none⟩, ⟨(.mv 35 (.t 1)), none⟩, ⟨(.mv 36 (.t 7)), none⟩, ⟨(.call 37 k_unroll_made [(.t 34), (.t 35), (.t 36)] none), none⟩, ⟨(.xt 38 (.t 37) 0), none⟩, ⟨(.xt 39 (.t 37) 1), none⟩, ⟨(.store (.t 4) (.t 38) 4), none⟩, ⟨(.mv 5 (.t 39)), none⟩] [])
 .ret)))))
def n_unroll_Of : Fn := ⟨c_unroll_Of, [.c 4 4, .s 5], (some [false, false])⟩
def c_ref23_Of : C :=
(.seq (.rg 0 false [] [⟨.box 2 0 (.t 0) 6, none⟩, ⟨.alloc 4 1 [.k (.int .i64 0), .r 2 1, .r 3 1], none⟩, ⟨.mv 5 (.c (.d true (.int .i64 0))), none⟩] [])
 (.seq (.rg 1 false [] [⟨.load 6 (.t 2) 6, none⟩, ⟨.mv 7 (.t 1), none⟩, ⟨.call 8 k_ref23_Asked [(.t 6), (.t 7), (.c (.d true (.bool false)))] none, none⟩, ⟨.xt 9 (.t 8) 0, none⟩, ⟨.xt 10 (.t 8) 1, none⟩, ⟨.store (.t 4) (.t 9) 4, none⟩, ⟨.mv 5 (.t 10), none⟩] [])
 .ret))
def n_ref23_Of : Fn := ⟨c_ref23_Of, [.c 4 4, .s 5], (some [false, false])⟩
def c_unroll_Free_l1 : C :=
(.seq (.rg 6 false [] [⟨.bin 18 .lss (.t 17) (.t 16), none⟩] [])
 (.seq (.cond (.t 18) .skip (.exit 0))
 (.seq (.block 1 (.rg 7 false [.kill 5 6] [⟨.mv 19 (.t 7), none⟩, ⟨.bsl 20 5 1 1 (.k (.int .i64 0)) [(0, (.c (.d true (.int .i64 (-1)))))], none⟩, ⟨.app 21 6 1 (.t 19) (.t 20), none⟩, ⟨.mv 7 (.t 21), none⟩] []))
 (.rg 8 false [] [⟨.bin 22 .add (.t 17) (.c (.d true (.int .i64 1))), none⟩, ⟨.mv 17 (.t 22), none⟩] []))))
def c_unroll_Free : C :=
(.seq (.rg 0 false [] [⟨.box 2 0 (.t 0) 6, none⟩, ⟨.alloc 4 1 [.k (.int .i64 0), .r 2 1, .r 3 1], none⟩, ⟨.mv 5 (.c (.d true (.int .i64 0))), none⟩] [])
 (.seq (.seq (.rg 1 false [] [⟨.load 8 (.t 2) 6, none⟩, ⟨.call 9 k_gates_Check [(.t 8)] none, none⟩, ⟨.mv 6 (.t 9), none⟩] [])
 (.seq (.rg 2 false [] [⟨.mv 10 (.t 6), none⟩, ⟨.bin 11 .neq (.t 10) (.c (.d true (.int .i64 0))), none⟩] [])
 (.cond (.t 11) (.seq (.rg 3 false [] [⟨.bld 12 [.k (.int .i64 0), .n 1, .n 1] [], none⟩, ⟨.mv 13 (.t 6), none⟩, ⟨.store (.t 4) (.t 12) 4, none⟩, ⟨.mv 5 (.t 13), none⟩] [])
 .ret) .skip)))
 (.seq (.rg 4 false [] [⟨.nilr 7 4 1, none⟩] [])
 (.seq (.seq (.rg 5 false [] [⟨.fad 14 (.t 2) 1 0, none⟩, ⟨.load 15 (.t 14) 0, none⟩, ⟨.len 16 (.t 15), none⟩, ⟨.mv 17 (.c (.d true (.int .i64 0))), none⟩] [])
 (.block 0 (.loop c_unroll_Free_l1)))
 (.seq (.rg 9 false [] [⟨.load 23 (.t 2) 6, none⟩, ⟨.mv 24 (.t 1), none⟩, ⟨.mv 25 (.t 7), none⟩, ⟨.call 26 k_unroll_made [(.t 23), (.t 24), (.t 25)] none, none⟩, ⟨.xt 27 (.t 26) 0, none⟩, ⟨.xt 28 (.t 26) 1, none⟩, ⟨.store (.t 4) (.t 27) 4, none⟩, ⟨.mv 5 (.t 28), none⟩] [])
 .ret)))))
def n_unroll_Free : Fn := ⟨c_unroll_Free, [.c 4 4, .s 5], (some [false, false])⟩
def c_ref23_Free : C :=
(.seq (.rg 0 false [] [⟨.box 2 0 (.t 0) 6, none⟩, ⟨.alloc 4 1 [.k (.int .i64 0), .r 2 1, .r 3 1], none⟩, ⟨.mv 5 (.c (.d true (.int .i64 0))), none⟩] [])
 (.seq (.rg 1 false [] [⟨.load 6 (.t 2) 6, none⟩, ⟨.mv 7 (.t 1), none⟩, ⟨.call 8 k_ref23_Asked [(.t 6), (.t 7), (.c (.d true (.bool true)))] none, none⟩, ⟨.xt 9 (.t 8) 0, none⟩, ⟨.xt 10 (.t 8) 1, none⟩, ⟨.store (.t 4) (.t 9) 4, none⟩, ⟨.mv 5 (.t 10), none⟩] [])
 .ret))
def n_ref23_Free : Fn := ⟨c_ref23_Free, [.c 4 4, .s 5], (some [false, false])⟩
def c_ref22_Same_p1 : C :=
(.rg 1 false [] [⟨(.fad 5 (.t 2) 0 0), none⟩, ⟨(.load 6 (.t 5) 0), none⟩, ⟨(.fad 7 (.t 3) 0 0), none⟩, ⟨(.load 8 (.t 7) 0), none⟩, ⟨(.bin 9 .eql (.t 6) (.t 8)), none⟩, ⟨(.mv 10 (.t 9)), none⟩, ⟨(.fad 11 (.t 2) 1 0), (some (10, true))⟩, ⟨(.load 12 (.t 11) 0), (some (10, true))⟩, ⟨(.fad 13 (.t 3) 1 0), (some (10, true))⟩, ⟨(.load 14 (.t 13) 0), (some (10, true))⟩, ⟨(.call 15 k_ref13_SameAll [(.t 12), (.t 14)] none), (some (10, true))⟩, ⟨(.pick 16 (.t 10) (.t 15) (.c (.d true (.bool false)))), none⟩, ⟨(.mv 17 (.t 16)), none⟩, ⟨(.fad 18 (.t 2) 2 0), (some (17, true))⟩, ⟨(.load 19 (.t 18) 0), (some (17, true))⟩, ⟨(.fad 20 (.t 3) 2 0), (some (17, true))⟩, ⟨(.load 21 (.t 20) 0), (some (17, true))⟩, ⟨(.call 22 k_ref13_SameAll [(.t 19), (.t 21)] none), (some (17, true))⟩, ⟨(.pick 23 (.t 17) (.t 22) (.c (.d true (.bool false)))), none⟩, ⟨(.mv 4 (.t 23)), none⟩] [])
def c_ref22_Same : C :=
(.seq (.rg 0 false [] [⟨(.box 2 0 (.t 0) 4), none⟩, ⟨(.box 3 1 (.t 1) 4), none⟩, ⟨(.mv 4 (.c (.d true (.bool false)))), none⟩] [])
 (.seq c_ref22_Same_p1
 .ret))
def n_ref22_Same : Fn := ⟨c_ref22_Same, [.s 4], (some [false, false])⟩
def c_law23_alive_p1 : C :=
(.rg 4 false [] [⟨(.mv 24 (.t 2)), none⟩, ⟨(.bin 25 .eql (.t 24) (.c (.d true (.int .i64 0)))), none⟩, ⟨(.mv 26 (.t 25)), none⟩, ⟨(.load 27 (.t 1) 4), (some (26, true))⟩, ⟨(.bsl 28 4 1 2 (.k (.int .i64 0)) [(0, (.c (.d true (.int .i64 0)))), (1, (.c (.d true (.int .i64 0))))]), (some (26, true))⟩, ⟨(.bsl 29 5 1 2 (.k (.int .i64 0)) [(0, (.c (.d true (.int .i64 0)))), (1, (.c (.d true (.int .i64 1))))]), (some (26, true))⟩, ⟨(.bsl 30 6 1 2 (.k (.int .i64 0)) [(0, (.c (.d true (.int .i64 0)))), (1, (.c (.d true (.int .i64 0))))]), (some (26, true))⟩, ⟨(.bsl 31 7 1 3 (.k (.lst 1 [])) [(0, (.t 28)), (1, (.t 29)), (2, (.t 30))]), (some (26, true))⟩, ⟨(.bld 32 [(.k (.int .i64 0)), (.n 1), (.n 1)] [(1, 0, (.t 31))]), (some (26, true))⟩, ⟨(.call 33 k_ref22_Same [(.t 27), (.t 32)] none), (some (26, true))⟩, ⟨(.pick 34 (.t 26) (.t 33) (.c (.d true (.bool false)))), none⟩, ⟨(.mv 35 (.t 34)), none⟩, ⟨(.mv 36 (.t 4)), (some (35, true))⟩, ⟨(.bin 37 .eql (.t 36) (.c (.d true (.int .i64 0)))), (some (35, true))⟩, ⟨(.pick 38 (.t 35) (.t 37) (.c (.d true (.bool false)))), none⟩, ⟨(.mv 39 (.t 38)), none⟩, ⟨(.load 40 (.t 3) 4), (some (39, true))⟩, ⟨(.bsl 41 8 1 2 (.k (.int .i64 0)) [(0, (.c (.d true (.int .i64 0)))), (1, (.c (.d true (.int .i64 2))))]), (some (39, true))⟩, ⟨(.bsl 42 9 1 2 (.k (.int .i64 0)) [(0, (.c (.d true (.int .i64 0)))), (1, (.c (.d true (.int .i64 3))))]), (some (39, true))⟩, ⟨(.bsl 43 10 1 2 (.k (.int .i64 0)) [(0, (.c (.d true (.int .i64 0)))), (1, (.c (.d true (.int .i64 2))))]), (some (39, true))⟩, ⟨(.bsl 44 11 1 3 (.k (.lst 1 [])) [(0, (.t 41)), (1, (.t 42)), (2, (.t 43))]), (some (39, true))⟩, ⟨(.bld 45 [(.k (.int .i64 0)), (.n 1), (.n 1)] [(0, 0, (.c (.d true (.int .i64 1)))), (1, 0, (.t 44))]), (some (39, true))⟩, ⟨(.call 46 k_ref22_Same [(.t 40), (.t 45)] none), (some (39, true))⟩, ⟨(.pick 47 (.t 39) (.t 46) (.c (.d true (.bool false)))), none⟩, ⟨(.mv 48 (.t 47)), none⟩, ⟨(.mv 49 (.t 6)), (some (48, true))⟩, ⟨(.bin 50 .eql (.t 49) (.c (.d true (.int .i64 0)))), (some (48, true))⟩, ⟨(.pick 51 (.t 48) (.t 50) (.c (.d true (.bool false)))), none⟩, ⟨(.mv 52 (.t 51)), none⟩, ⟨(.load 53 (.t 5) 4), (some (52, true))⟩, ⟨(.bsl 54 12 1 3 (.k (.int .i64 0)) [(0, (.c (.d true (.int .i64 0)))), (1, (.c (.d true (.int .i64 2)))), (2, (.c (.d true (.int .i64 0))))]), (some (52, true))⟩, ⟨(.bsl 55 13 1 3 (.k (.int .i64 0)) [(0, (.c (.d true (.int .i64 0)))), (1, (.c (.d true (.int .i64 4)))), (2, (.c (.d true (.int .i64 2))))]), (some (52, true))⟩, ⟨(.bsl 56 14 1 3 (.k (.int .i64 0)) [(0, (.c (.d true (.int .i64 0)))), (1, (.c (.d true (.int .i64 6)))), (2, (.c (.d true (.int .i64 4))))]), (some (52, true))⟩, ⟨(.bsl 57 15 1 3 (.k (.lst 1 [])) [(0, (.t 54)), (1, (.t 55)), (2, (.t 56))]), (some (52, true))⟩, ⟨(.bld 58 [(.k (.int .i64 0)), (.n 1), (.n 1)] [(0, 0, (.c (.d true (.int .i64 3)))), (1, 0, (.t 57))]), (some (52, true))⟩, ⟨(.call 59 k_ref22_Same [(.t 53), (.t 58)] none), (some (52, true))⟩, ⟨(.pick 60 (.t 52) (.t 59) (.c (.d true (.bool false)))), none⟩, ⟨(.mv 0 (.t 60)), none⟩] [])
def c_law23_alive : C :=
(.seq (.rg 0 false [] [⟨(.mv 0 (.c (.d true (.bool false)))), none⟩] [])
 (.seq (.rg 1 false [] [⟨(.call 8 k_law23_turns [] none), none⟩, ⟨(.call 9 k_unroll_Of [(.t 8), (.c (.d true (.int .i64 3)))] none), none⟩, ⟨(.mv 7 (.t 9)), none⟩, ⟨(.xt 10 (.t 7) 0), none⟩, ⟨(.xt 11 (.t 7) 1), none⟩, ⟨(.alloc 1 0 [(.k (.int .i64 0)), (.n 1), (.n 1)]), none⟩, ⟨(.store (.t 1) (.t 10) 4), none⟩, ⟨(.mv 2 (.t 11)), none⟩] [])
 (.seq (.rg 2 false [] [⟨(.call 13 k_law23_turns [] none), none⟩, ⟨(.call 14 k_unroll_Free [(.t 13), (.c (.d true (.int .i64 3)))] none), none⟩, ⟨(.mv 12 (.t 14)), none⟩, ⟨(.xt 15 (.t 12) 0), none⟩, ⟨(.xt 16 (.t 12) 1), none⟩, ⟨(.alloc 3 1 [(.k (.int .i64 0)), (.n 1), (.n 1)]), none⟩, ⟨(.store (.t 3) (.t 15) 4), none⟩, ⟨(.mv 4 (.t 16)), none⟩] [])
 (.seq (.rg 3 false [] [⟨(.bld 18 [(.k (.int .i64 0)), (.k (.int .i64 0))] [(0, 0, (.c (.d true (.int .i64 2))))]), none⟩, ⟨(.bsl 19 2 2 1 (.k (.agg [(.int .i64 0), (.int .i64 0)])) [(0, (.t 18))]), none⟩, ⟨(.bld 20 [(.k (.int .i64 0)), (.n 2), (.n 2), (.n 1), (.n 1)] [(0, 0, (.c (.d true (.int .i64 1)))), (1, 0, (.t 19))]), none⟩, ⟨(.call 21 k_unroll_Of [(.t 20), (.c (.d true (.int .i64 3)))] none), none⟩, ⟨(.mv 17 (.t 21)), none⟩, ⟨(.xt 22 (.t 17) 0), none⟩, ⟨(.xt 23 (.t 17) 1), none⟩, ⟨(.alloc 5 3 [(.k (.int .i64 0)), (.n 1), (.n 1)]), none⟩, ⟨(.store (.t 5) (.t 22) 4), none⟩, ⟨(.mv 6 (.t 23)), none⟩] [])
 (.seq c_law23_alive_p1
 .ret)))))
def n_law23_alive : Fn := ⟨c_law23_alive, [.s 0], (some [])⟩
def c_ref02_Check_p1 : C :=
(.rg 3 false [] [⟨(.fad 10 (.t 1) 0 0), none⟩, ⟨(.load 11 (.t 10) 0), none⟩, ⟨(.bin 12 .gtr (.t 11) (.c (.d true (.int .i64 1000)))), none⟩, ⟨(.mv 13 (.t 12)), none⟩, ⟨(.load 14 (.t 1) 6), (some (13, false))⟩, ⟨(.call 15 k_ref02_Size [(.t 14)] none), (some (13, false))⟩, ⟨(.bin 16 .gtr (.t 15) (.c (.d true (.int .i64 1000)))), (some (13, false))⟩, ⟨(.pick 17 (.t 13) (.c (.d true (.bool true))) (.t 16)), none⟩, ⟨(.mv 18 (.t 17)), none⟩, ⟨(.fad 19 (.t 1) 3 0), (some (18, false))⟩, ⟨(.load 20 (.t 19) 0), (some (18, false))⟩, ⟨(.len 21 (.t 20)), (some (18, false))⟩, ⟨(.bin 22 .gtr (.t 21) (.c (.d true (.int .i64 100)))), (some (18, false))⟩, ⟨(.pick 23 (.t 18) (.c (.d true (.bool true))) (.t 22)), none⟩, ⟨(.mv 24 (.t 23)), none⟩, ⟨(.fad 25 (.t 1) 4 0), (some (24, false))⟩, ⟨(.load 26 (.t 25) 0), (some (24, false))⟩, ⟨(.len 27 (.t 26)), (some (24, false))⟩, ⟨(.bin 28 .gtr (.t 27) (.c (.d true (.int .i64 100)))), (some (24, false))⟩, ⟨(.pick 29 (.t 24) (.c (.d true (.bool true))) (.t 28)), none⟩] [])
def c_ref02_Check_p2 : C :=
(.rg 6 false [] [⟨(.fad 32 (.t 1) 3 0), none⟩, ⟨(.load 33 (.t 32) 0), none⟩, ⟨(.mv 34 (.t 3)), none⟩, ⟨(.call 35 k_ref02_literals [(.t 33), (.t 34)] none), none⟩, ⟨(.un 36 .not (.t 35)), none⟩, ⟨(.mv 37 (.t 36)), none⟩, ⟨(.fad 38 (.t 1) 4 0), (some (37, false))⟩, ⟨(.load 39 (.t 38) 0), (some (37, false))⟩, ⟨(.mv 40 (.t 3)), (some (37, false))⟩, ⟨(.call 41 k_ref02_literals [(.t 39), (.t 40)] none), (some (37, false))⟩, ⟨(.un 42 .not (.t 41)), (some (37, false))⟩, ⟨(.pick 43 (.t 37) (.c (.d true (.bool true))) (.t 42)), none⟩] [])
def c_ref02_Check_p3 : C :=
(.rg 11 false [(.kill 1 2)] [⟨(.fad 51 (.t 1) 1 0), none⟩, ⟨(.load 52 (.t 51) 0), none⟩, ⟨(.mv 53 (.t 4)), none⟩, ⟨(.ix 54 (.t 52) (.t 53) 2), none⟩, ⟨(.fad 55 (.t 54) 0 0), none⟩, ⟨(.load 56 (.t 55) 0), none⟩, ⟨(.bsl 57 1 1 1 (.k (.int .i64 0)) [(0, (.t 56))]), none⟩, ⟨(.mv 58 (.t 3)), none⟩, ⟨(.call 59 k_ref02_literals [(.t 57), (.t 58)] none), none⟩, ⟨(.un 60 .not (.t 59)), none⟩, ⟨(.mv 61 (.t 60)), none⟩, ⟨(.fad 62 (.t 1) 1 0), (some (61, false))⟩, ⟨(.load 63 (.t 62) 0), (some (61, false))⟩, ⟨(.mv 64 (.t 4)), (some (61, false))⟩, ⟨(.ix 65 (.t 63) (.t 64) 2), (some (61, false))⟩, ⟨(.fad 66 (.t 65) 1 0), (some (61, false))⟩, ⟨(.load 67 (.t 66) 0), (some (61, false))⟩, ⟨(.bin 68 .lss (.t 67) (.c (.d true (.int .i64 0)))), (some (61, false))⟩, ⟨(.pick 69 (.t 61) (.c (.d true (.bool true))) (.t 68)), none⟩, ⟨(.mv 70 (.t 69)), none⟩, ⟨(.fad 71 (.t 1) 1 0), (some (70, false))⟩, ⟨(.load 72 (.t 71) 0), (some (70, false))⟩, ⟨(.mv 73 (.t 4)), (some (70, false))⟩, ⟨(.ix 74 (.t 72) (.t 73) 2), (some (70, false))⟩, ⟨(.fad 75 (.t 74) 1 0), (some (70, false))⟩, ⟨(.load 76 (.t 75) 0), (some (70, false))⟩, ⟨(.bin 77 .gtr (.t 76) (.c (.d true (.int .i64 2)))), (some (70, false))⟩, ⟨(.pick 78 (.t 70) (.c (.d true (.bool true))) (.t 77)), none⟩] [])
def c_ref02_Check_l1 : C :=
(.seq (.seq (.rg 9 false [] [⟨(.mv 44 (.t 4)), none⟩, ⟨(.fad 45 (.t 1) 1 0), none⟩, ⟨(.load 46 (.t 45) 0), none⟩, ⟨(.len 47 (.t 46)), none⟩, ⟨(.bin 48 .lss (.t 44) (.t 47)), none⟩] [])
 (.cond (.t 48) .skip (.exit 0)))
 (.seq (.block 1 (.seq c_ref02_Check_p3
 (.cond (.t 78) (.seq (.rg 12 false [] [⟨(.mv 2 (.c (.d true (.int .i64 8)))), none⟩] [])
 .ret) .skip)))
 (.rg 10 false [] [⟨(.mv 49 (.t 4)), none⟩, ⟨(.bin 50 .add (.t 49) (.c (.d true (.int .i64 1)))), none⟩, ⟨(.mv 4 (.t 50)), none⟩] [])))
def c_ref02_Check_p4 : C :=
(.rg 17 false [] [⟨(.fad 91 (.t 6) 1 0), none⟩, ⟨(.load 92 (.t 91) 0), none⟩, ⟨(.bin 93 .lss (.t 92) (.c (.d true (.int .i64 0)))), none⟩, ⟨(.mv 94 (.t 93)), none⟩, ⟨(.fad 95 (.t 6) 0 0), (some (94, false))⟩, ⟨(.load 96 (.t 95) 0), (some (94, false))⟩, ⟨(.fad 97 (.t 6) 1 0), (some (94, false))⟩, ⟨(.load 98 (.t 97) 0), (some (94, false))⟩, ⟨(.bin 99 .lss (.t 96) (.t 98)), (some (94, false))⟩, ⟨(.pick 100 (.t 94) (.c (.d true (.bool true))) (.t 99)), none⟩, ⟨(.mv 101 (.t 100)), none⟩, ⟨(.fad 102 (.t 6) 0 0), (some (101, false))⟩, ⟨(.load 103 (.t 102) 0), (some (101, false))⟩, ⟨(.bin 104 .quo (.t 103) (.c (.d true (.int .i64 2)))), (some (101, false))⟩, ⟨(.fad 105 (.t 1) 0 0), (some (101, false))⟩, ⟨(.load 106 (.t 105) 0), (some (101, false))⟩, ⟨(.fad 107 (.t 1) 1 0), (some (101, false))⟩, ⟨(.load 108 (.t 107) 0), (some (101, false))⟩, ⟨(.len 109 (.t 108)), (some (101, false))⟩, ⟨(.bin 110 .add (.t 106) (.t 109)), (some (101, false))⟩, ⟨(.mv 111 (.t 5)), (some (101, false))⟩, ⟨(.bin 112 .add (.t 110) (.t 111)), (some (101, false))⟩, ⟨(.bin 113 .gtr (.t 104) (.t 112)), (some (101, false))⟩, ⟨(.pick 114 (.t 101) (.c (.d true (.bool true))) (.t 113)), none⟩] [])
def c_ref02_Check_l2 : C :=
(.seq (.seq (.rg 14 false [] [⟨(.mv 79 (.t 5)), none⟩, ⟨(.fad 80 (.t 1) 2 0), none⟩, ⟨(.load 81 (.t 80) 0), none⟩, ⟨(.len 82 (.t 81)), none⟩, ⟨(.bin 83 .lss (.t 79) (.t 82)), none⟩] [])
 (.cond (.t 83) .skip (.exit 2)))
 (.seq (.block 3 (.seq (.rg 16 false [(.kill 2 3)] [⟨(.fad 86 (.t 1) 2 0), none⟩, ⟨(.load 87 (.t 86) 0), none⟩, ⟨(.mv 88 (.t 5)), none⟩, ⟨(.ix 89 (.t 87) (.t 88) 2), none⟩, ⟨(.load 90 (.t 89) 3), none⟩, ⟨(.alloc 6 2 [(.k (.int .i64 0)), (.k (.int .i64 0))]), none⟩, ⟨(.store (.t 6) (.t 90) 3), none⟩] [])
 (.seq c_ref02_Check_p4
 (.cond (.t 114) (.seq (.rg 18 false [] [⟨(.mv 2 (.c (.d true (.int .i64 8)))), none⟩] [])
 .ret) .skip))))
 (.rg 15 false [] [⟨(.mv 84 (.t 5)), none⟩, ⟨(.bin 85 .add (.t 84) (.c (.d true (.int .i64 1)))), none⟩, ⟨(.mv 5 (.t 85)), none⟩] [])))
def c_ref02_Check : C :=
(.seq (.rg 0 false [] [⟨(.box 1 0 (.t 0) 6), none⟩, ⟨(.mv 2 (.c (.d true (.int .i64 0)))), none⟩] [])
 (.seq (.seq (.rg 1 false [] [⟨(.fad 7 (.t 1) 0 0), none⟩, ⟨(.load 8 (.t 7) 0), none⟩, ⟨(.bin 9 .lss (.t 8) (.c (.d true (.int .i64 0)))), none⟩] [])
 (.cond (.t 9) (.seq (.rg 2 false [] [⟨(.mv 2 (.c (.d true (.int .i64 8)))), none⟩] [])
 .ret) .skip))
 (.seq (.seq c_ref02_Check_p1
 (.cond (.t 29) (.seq (.rg 4 false [] [⟨(.mv 2 (.c (.d true (.int .i64 4)))), none⟩] [])
 .ret) .skip))
 (.seq (.rg 5 false [] [⟨(.load 30 (.t 1) 6), none⟩, ⟨(.call 31 k_ref02_Size [(.t 30)] none), none⟩, ⟨(.mv 3 (.t 31)), none⟩] [])
 (.seq (.seq c_ref02_Check_p2
 (.cond (.t 43) (.seq (.rg 7 false [] [⟨(.mv 2 (.c (.d true (.int .i64 8)))), none⟩] [])
 .ret) .skip))
 (.seq (.seq (.rg 8 false [] [⟨(.mv 4 (.c (.d true (.int .i64 0)))), none⟩] [])
 (.block 0 (.loop c_ref02_Check_l1)))
 (.seq (.seq (.rg 13 false [] [⟨(.mv 5 (.c (.d true (.int .i64 0)))), none⟩] [])
 (.block 2 (.loop c_ref02_Check_l2)))
 (.seq (.rg 19 false [] [⟨(.mv 2 (.c (.d true (.int .i64 0)))), none⟩] [])
 .ret))))))))
def n_ref02_Check : Fn := ⟨c_ref02_Check, [.s 2], (some [false])⟩
def c_unroll_Trace_p1 : C :=
(.rg 18 false [] [⟨(.mv 67 (.t 13)), none⟩, ⟨(.mv 68 (.t 14)), none⟩, ⟨(.ix 69 (.t 67) (.t 68) 1), none⟩, ⟨(.load 70 (.t 69) 0), none⟩, ⟨(.bin 71 .lss (.t 70) (.c (.d true (.int .i64 0)))), none⟩, ⟨(.mv 72 (.t 71)), none⟩, ⟨(.mv 73 (.t 14)), (some (72, true))⟩, ⟨(.mv 74 (.t 11)), (some (72, true))⟩, ⟨(.bin 75 .lss (.t 73) (.t 74)), (some (72, true))⟩, ⟨(.mv 76 (.t 75)), (some (72, true))⟩, ⟨(.mv 77 (.t 12)), (some (76, false))⟩, ⟨(.bin 78 .eql (.t 77) (.c (.d true (.int .i64 0)))), (some (76, false))⟩, ⟨(.pick 79 (.t 76) (.c (.d true (.bool true))) (.t 78)), (some (72, true))⟩, ⟨(.pick 80 (.t 72) (.t 79) (.c (.d true (.bool false)))), none⟩] [])
def c_unroll_Trace_l1 : C :=
(.seq (.seq (.rg 16 false [] [⟨(.mv 58 (.t 14)), none⟩, ⟨(.mv 59 (.t 11)), none⟩, ⟨(.fad 60 (.t 3) 1 0), none⟩, ⟨(.load 61 (.t 60) 0), none⟩, ⟨(.len 62 (.t 61)), none⟩, ⟨(.bin 63 .add (.t 59) (.t 62)), none⟩, ⟨(.bin 64 .lss (.t 58) (.t 63)), none⟩] [])
 (.cond (.t 64) .skip (.exit 2)))
 (.seq (.block 3 (.seq c_unroll_Trace_p1
 (.cond (.t 80) (.seq (.rg 19 false [] [⟨(.bld 81 [(.n 1), (.n 1)] []), none⟩, ⟨(.store (.t 6) (.t 81) 3), none⟩, ⟨(.mv 7 (.c (.d true (.int .i64 8)))), none⟩] [])
 .ret) .skip)))
 (.rg 17 false [] [⟨(.mv 65 (.t 14)), none⟩, ⟨(.bin 66 .add (.t 65) (.c (.d true (.int .i64 1)))), none⟩, ⟨(.mv 14 (.t 66)), none⟩] [])))
def c_unroll_Trace_l2 : C :=
(.seq (.rg 11 false [] [⟨(.bin 48 .lss (.t 47) (.t 46)), none⟩] [])
 (.seq (.cond (.t 48) .skip (.exit 0))
 (.seq (.block 1 (.seq (.rg 12 false [] [⟨(.mv 49 (.t 47)), none⟩, ⟨(.ix 50 (.t 45) (.t 47) 1), none⟩, ⟨(.load 51 (.t 50) 0), none⟩, ⟨(.mv 12 (.t 49)), none⟩, ⟨(.mv 13 (.t 51)), none⟩] [])
 (.seq (.seq (.rg 13 false [] [⟨(.mv 52 (.t 13)), none⟩, ⟨(.len 53 (.t 52)), none⟩, ⟨(.mv 54 (.t 8)), none⟩, ⟨(.bin 55 .add (.t 54) (.c (.d true (.int .i64 1)))), none⟩, ⟨(.bin 56 .neq (.t 53) (.t 55)), none⟩] [])
 (.cond (.t 56) (.seq (.rg 14 false [] [⟨(.bld 57 [(.n 1), (.n 1)] []), none⟩, ⟨(.store (.t 6) (.t 57) 3), none⟩, ⟨(.mv 7 (.c (.d true (.int .i64 8)))), none⟩] [])
 .ret) .skip))
 (.seq (.rg 15 false [] [⟨(.mv 14 (.c (.d true (.int .i64 1)))), none⟩] [])
 (.block 2 (.loop c_unroll_Trace_l1))))))
 (.rg 20 false [] [⟨(.bin 82 .add (.t 47) (.c (.d true (.int .i64 1)))), none⟩, ⟨(.mv 47 (.t 82)), none⟩] []))))
def c_unroll_Trace_l3 : C :=
(.seq (.rg 25 false [] [⟨(.bin 93 .lss (.t 92) (.t 91)), none⟩] [])
 (.seq (.cond (.t 93) .skip (.exit 4))
 (.seq (.block 5 (.seq (.rg 26 false [] [⟨(.mv 94 (.t 92)), none⟩, ⟨(.mv 16 (.t 94)), none⟩] [])
 (.rg 27 true [(.kill 8 9)] [⟨(.fad 95 (.t 15) 0 0), none⟩, ⟨(.load 96 (.t 95) 0), none⟩, ⟨(.fad 97 (.t 4) 1 0), none⟩, ⟨(.load 98 (.t 97) 0), none⟩, ⟨(.ix 99 (.t 98) (.c (.d true (.int .i64 0))) 1), none⟩, ⟨(.load 100 (.t 99) 0), none⟩, ⟨(.mv 101 (.t 11)), none⟩, ⟨(.mv 102 (.t 16)), none⟩, ⟨(.bin 103 .add (.t 101) (.t 102)), none⟩, ⟨(.ix 104 (.t 100) (.t 103) 1), none⟩, ⟨(.load 105 (.t 104) 0), none⟩, ⟨(.mv 106 (.t 2)), none⟩, ⟨(.call 107 k_unroll_value [(.t 105), (.t 106)] none), none⟩, ⟨(.bsl 108 8 1 1 (.k (.bool false)) [(0, (.t 107))]), none⟩, ⟨(.app 109 9 1 (.t 96) (.t 108)), none⟩, ⟨(.fad 110 (.t 15) 0 0), none⟩, ⟨(.store (.t 110) (.t 109) 0), none⟩] [])))
 (.rg 28 false [] [⟨(.bin 111 .add (.t 92) (.c (.d true (.int .i64 1)))), none⟩, ⟨(.mv 92 (.t 111)), none⟩] []))))
def c_unroll_Trace_l4 : C :=
(.seq (.seq (.rg 34 false [] [⟨(.mv 119 (.t 20)), none⟩, ⟨(.mv 120 (.t 11)), none⟩, ⟨(.bin 121 .lss (.t 119) (.t 120)), none⟩] [])
 (.cond (.t 121) .skip (.exit 8)))
 (.seq (.block 9 (.rg 36 false [(.kill 11 12)] [⟨(.mv 124 (.t 19)), none⟩, ⟨(.mv 125 (.t 18)), none⟩, ⟨(.mv 126 (.t 20)), none⟩, ⟨(.ix 127 (.t 125) (.t 126) 1), none⟩, ⟨(.load 128 (.t 127) 0), none⟩, ⟨(.mv 129 (.t 2)), none⟩, ⟨(.call 130 k_unroll_value [(.t 128), (.t 129)] none), none⟩, ⟨(.bsl 131 11 1 1 (.k (.bool false)) [(0, (.t 130))]), none⟩, ⟨(.app 132 12 1 (.t 124) (.t 131)), none⟩, ⟨(.mv 19 (.t 132)), none⟩] []))
 (.rg 35 false [] [⟨(.mv 122 (.t 20)), none⟩, ⟨(.bin 123 .add (.t 122) (.c (.d true (.int .i64 1)))), none⟩, ⟨(.mv 20 (.t 123)), none⟩] [])))
def c_unroll_Trace_l5 : C :=
(.seq (.rg 30 false [] [⟨(.bin 116 .lss (.t 115) (.t 114)), none⟩] [])
 (.seq (.cond (.t 116) .skip (.exit 6))
 (.seq (.block 7 (.seq (.rg 31 false [] [⟨(.ix 117 (.t 113) (.t 115) 1), none⟩, ⟨(.load 118 (.t 117) 0), none⟩, ⟨(.mv 18 (.t 118)), none⟩] [])
 (.seq (.rg 32 false [(.kill 10 11)] [⟨(.nilr 19 10 1), none⟩] [])
 (.seq (.seq (.rg 33 false [] [⟨(.mv 20 (.c (.d true (.int .i64 1)))), none⟩] [])
 (.block 8 (.loop c_unroll_Trace_l4)))
 (.rg 37 false [(.kill 13 14)] [⟨(.fad 133 (.t 15) 1 0), none⟩, ⟨(.load 134 (.t 133) 0), none⟩, ⟨(.mv 135 (.t 19)), none⟩, ⟨(.bsl 136 13 1 1 (.k (.lst 1 [])) [(0, (.t 135))]), none⟩, ⟨(.app 137 14 1 (.t 134) (.t 136)), none⟩, ⟨(.fad 138 (.t 15) 1 0), none⟩, ⟨(.store (.t 138) (.t 137) 0), none⟩] [])))))
 (.rg 38 false [] [⟨(.bin 139 .add (.t 115) (.c (.d true (.int .i64 1)))), none⟩, ⟨(.mv 115 (.t 139)), none⟩] []))))
def c_unroll_Trace : C :=
(.seq (.rg 0 false [] [⟨(.box 3 0 (.t 0) 6), none⟩, ⟨(.box 4 1 (.t 1) 4), none⟩, ⟨(.alloc 6 2 [(.r 3 1), (.r 4 1)]), none⟩, ⟨(.mv 7 (.c (.d true (.int .i64 0)))), none⟩] [])
 (.seq (.rg 1 false [] [⟨(.load 22 (.t 3) 6), none⟩, ⟨(.call 23 k_gates_Vars [(.t 22)] none), none⟩, ⟨(.mv 21 (.t 23)), none⟩, ⟨(.xt 24 (.t 21) 0), none⟩, ⟨(.xt 25 (.t 21) 1), none⟩, ⟨(.mv 8 (.t 24)), none⟩, ⟨(.mv 9 (.t 25)), none⟩] [])
 (.seq (.seq (.rg 2 false [] [⟨(.mv 26 (.t 9)), none⟩, ⟨(.bin 27 .neq (.t 26) (.c (.d true (.int .i64 0)))), none⟩] [])
 (.cond (.t 27) (.seq (.rg 3 false [] [⟨(.bld 28 [(.n 1), (.n 1)] []), none⟩, ⟨(.mv 29 (.t 9)), none⟩, ⟨(.store (.t 6) (.t 28) 3), none⟩, ⟨(.mv 7 (.t 29)), none⟩] [])
 .ret) .skip))
 (.seq (.seq (.rg 4 false [] [⟨(.load 30 (.t 4) 4), none⟩, ⟨(.call 31 k_tseitin_Check [(.t 30)] none), none⟩, ⟨(.mv 10 (.t 31)), none⟩] [])
 (.seq (.rg 5 false [] [⟨(.mv 32 (.t 10)), none⟩, ⟨(.bin 33 .neq (.t 32) (.c (.d true (.int .i64 0)))), none⟩] [])
 (.cond (.t 33) (.seq (.rg 6 false [] [⟨(.bld 34 [(.n 1), (.n 1)] []), none⟩, ⟨(.mv 35 (.t 10)), none⟩, ⟨(.store (.t 6) (.t 34) 3), none⟩, ⟨(.mv 7 (.t 35)), none⟩] [])
 .ret) .skip)))
 (.seq (.seq (.rg 7 false [] [⟨(.fad 36 (.t 4) 1 0), none⟩, ⟨(.load 37 (.t 36) 0), none⟩, ⟨(.len 38 (.t 37)), none⟩, ⟨(.bin 39 .eql (.t 38) (.c (.d true (.int .i64 0)))), none⟩] [])
 (.cond (.t 39) (.seq (.rg 8 false [] [⟨(.bld 40 [(.n 1), (.n 1)] []), none⟩, ⟨(.store (.t 6) (.t 40) 3), none⟩, ⟨(.mv 7 (.c (.d true (.int .i64 8)))), none⟩] [])
 .ret) .skip))
 (.seq (.rg 9 false [] [⟨(.fad 41 (.t 3) 0 0), none⟩, ⟨(.load 42 (.t 41) 0), none⟩, ⟨(.bin 43 .add (.c (.d true (.int .i64 1))) (.t 42)), none⟩, ⟨(.mv 11 (.t 43)), none⟩] [])
 (.seq (.seq (.rg 10 false [] [⟨(.fad 44 (.t 4) 1 0), none⟩, ⟨(.load 45 (.t 44) 0), none⟩, ⟨(.len 46 (.t 45)), none⟩, ⟨(.mv 47 (.c (.d true (.int .i64 0)))), none⟩] [])
 (.block 0 (.loop c_unroll_Trace_l2)))
 (.seq (.seq (.rg 21 false [] [⟨(.mv 83 (.t 2)), none⟩, ⟨(.len 84 (.t 83)), none⟩, ⟨(.fad 85 (.t 4) 0 0), none⟩, ⟨(.load 86 (.t 85) 0), none⟩, ⟨(.bin 87 .neq (.t 84) (.t 86)), none⟩] [])
 (.cond (.t 87) (.seq (.rg 22 false [] [⟨(.bld 88 [(.n 1), (.n 1)] []), none⟩, ⟨(.store (.t 6) (.t 88) 3), none⟩, ⟨(.mv 7 (.c (.d true (.int .i64 2)))), none⟩] [])
 .ret) .skip))
 (.seq (.rg 23 false [] [⟨(.alloc 15 5 [(.r 6 1), (.r 7 1)]), none⟩] [])
 (.seq (.seq (.rg 24 false [] [⟨(.fad 89 (.t 3) 1 0), none⟩, ⟨(.load 90 (.t 89) 0), none⟩, ⟨(.len 91 (.t 90)), none⟩, ⟨(.mv 92 (.c (.d true (.int .i64 0)))), none⟩] [])
 (.block 4 (.loop c_unroll_Trace_l3)))
 (.seq (.seq (.rg 29 false [] [⟨(.fad 112 (.t 4) 1 0), none⟩, ⟨(.load 113 (.t 112) 0), none⟩, ⟨(.len 114 (.t 113)), none⟩, ⟨(.mv 115 (.c (.d true (.int .i64 0)))), none⟩] [])
 (.block 6 (.loop c_unroll_Trace_l5)))
 (.seq (.rg 39 false [] [⟨(.load 140 (.t 15) 3), none⟩, ⟨(.store (.t 6) (.t 140) 3), none⟩, ⟨(.mv 7 (.c (.d true (.int .i64 0)))), none⟩] [])
 .ret))))))))))))
def n_unroll_Trace : Fn := ⟨c_unroll_Trace, [.c 6 3, .s 7], (some [false, false, false])⟩
def c_law23_turns : C :=
(.seq (.rg 0 false [] [⟨.alloc 0 0 [.k (.int .i64 0), .r 1 2, .r 2 2, .r 3 1, .r 4 1], none⟩] [])
 (.seq (.rg 1 false [] [⟨.bld 1 [.k (.int .i64 0), .k (.int .i64 0)] [(0, 0, (.c (.d true (.int .i64 3))))], none⟩, ⟨.bsl 2 5 2 1 (.k (.agg [(.int .i64 0), (.int .i64 0)])) [(0, (.t 1))], none⟩, ⟨.bld 3 [.k (.int .i64 0), .n 2, .n 2, .n 1, .n 1] [(1, 0, (.t 2))], none⟩, ⟨.store (.t 0) (.t 3) 6, none⟩] [])
 .ret))
def n_law23_turns : Fn := ⟨c_law23_turns, [.c 0 6], (some [])⟩
def c_ref06_Same_p1 : C :=
(.rg 1 false [] [⟨(.fad 5 (.t 2) 0 0), none⟩, ⟨(.load 6 (.t 5) 0), none⟩, ⟨(.fad 7 (.t 3) 0 0), none⟩, ⟨(.load 8 (.t 7) 0), none⟩, ⟨(.call 9 k_ref04_Same [(.t 6), (.t 8)] none), none⟩, ⟨(.mv 10 (.t 9)), none⟩, ⟨(.fad 11 (.t 2) 1 0), (some (10, true))⟩, ⟨(.load 12 (.t 11) 0), (some (10, true))⟩, ⟨(.fad 13 (.t 3) 1 0), (some (10, true))⟩, ⟨(.load 14 (.t 13) 0), (some (10, true))⟩, ⟨(.call 15 k_ref06_SameAll [(.t 12), (.t 14)] none), (some (10, true))⟩, ⟨(.pick 16 (.t 10) (.t 15) (.c (.d true (.bool false)))), none⟩, ⟨(.mv 4 (.t 16)), none⟩] [])
def c_ref06_Same : C :=
(.seq (.rg 0 false [] [⟨(.box 2 0 (.t 0) 3), none⟩, ⟨(.box 3 1 (.t 1) 3), none⟩, ⟨(.mv 4 (.c (.d true (.bool false)))), none⟩] [])
 (.seq c_ref06_Same_p1
 .ret))
def n_ref06_Same : Fn := ⟨c_ref06_Same, [.s 4], (some [false, false])⟩
def c_values_Next : C :=
(.seq (.rg 0 false [] [⟨.box 3 0 (.t 0) 6, none⟩, ⟨.mv 6 (.c (.nil 1)), none⟩, ⟨.mv 7 (.c (.d true (.int .i64 0))), none⟩] [])
 (.seq (.rg 1 false [] [⟨.load 8 (.t 3) 6, none⟩, ⟨.mv 9 (.t 1), none⟩, ⟨.mv 10 (.t 2), none⟩, ⟨.fad 11 (.t 3) 1 0, none⟩, ⟨.load 12 (.t 11) 0, none⟩, ⟨.len 13 (.t 12), none⟩, ⟨.fn 14 k_values_Next_1 [(.t 3)], none⟩, ⟨.call 15 k_values_list [(.t 8), (.t 9), (.t 10), (.t 13), (.t 14)] none, none⟩, ⟨.xt 16 (.t 15) 0, none⟩, ⟨.xt 17 (.t 15) 1, none⟩, ⟨.mv 6 (.t 16), none⟩, ⟨.mv 7 (.t 17), none⟩] [])
 .ret))
def n_values_Next : Fn := ⟨c_values_Next, [.s 6, .s 7], (some [false, false, false])⟩
def c_ref22_Check_p1 : C :=
(.rg 3 false [] [⟨(.fad 10 (.t 1) 0 0), none⟩, ⟨(.load 11 (.t 10) 0), none⟩, ⟨(.call 12 k_ref13_Vars [(.t 11)] none), none⟩, ⟨(.un 13 .not (.t 12)), none⟩, ⟨(.mv 14 (.t 13)), none⟩, ⟨(.fad 15 (.t 1) 0 0), (some (14, false))⟩, ⟨(.load 16 (.t 15) 0), (some (14, false))⟩, ⟨(.fad 17 (.t 1) 2 0), (some (14, false))⟩, ⟨(.load 18 (.t 17) 0), (some (14, false))⟩, ⟨(.call 19 k_ref15_Wrong [(.t 16), (.t 18)] none), (some (14, false))⟩, ⟨(.bin 20 .neq (.t 19) (.c (.d true (.int .i64 0)))), (some (14, false))⟩, ⟨(.pick 21 (.t 14) (.c (.d true (.bool true))) (.t 20)), none⟩] [])
def c_ref22_Check_p2 : C :=
(.rg 8 true [] [⟨(.fad 29 (.t 1) 1 0), none⟩, ⟨(.load 30 (.t 29) 0), none⟩, ⟨(.mv 31 (.t 3)), none⟩, ⟨(.ix 32 (.t 30) (.t 31) 1), none⟩, ⟨(.load 33 (.t 32) 0), none⟩, ⟨(.len 34 (.t 33)), none⟩, ⟨(.bin 35 .eql (.t 34) (.c (.d true (.int .i64 0)))), none⟩, ⟨(.mv 36 (.t 35)), none⟩, ⟨(.fad 37 (.t 1) 1 0), (some (36, false))⟩, ⟨(.load 38 (.t 37) 0), (some (36, false))⟩, ⟨(.mv 39 (.t 3)), (some (36, false))⟩, ⟨(.ix 40 (.t 38) (.t 39) 1), (some (36, false))⟩, ⟨(.load 41 (.t 40) 0), (some (36, false))⟩, ⟨(.len 42 (.t 41)), (some (36, false))⟩, ⟨(.fad 43 (.t 1) 1 0), (some (36, false))⟩, ⟨(.load 44 (.t 43) 0), (some (36, false))⟩, ⟨(.ix 45 (.t 44) (.c (.d true (.int .i64 0))) 1), (some (36, false))⟩, ⟨(.load 46 (.t 45) 0), (some (36, false))⟩, ⟨(.len 47 (.t 46)), (some (36, false))⟩, ⟨(.bin 48 .neq (.t 42) (.t 47)), (some (36, false))⟩, ⟨(.pick 49 (.t 36) (.c (.d true (.bool true))) (.t 48)), none⟩, ⟨(.mv 50 (.t 49)), none⟩, ⟨(.fad 51 (.t 1) 1 0), (some (50, false))⟩, ⟨(.load 52 (.t 51) 0), (some (50, false))⟩, ⟨(.mv 53 (.t 3)), (some (50, false))⟩, ⟨(.ix 54 (.t 52) (.t 53) 1), (some (50, false))⟩, ⟨(.load 55 (.t 54) 0), (some (50, false))⟩, ⟨(.ix 56 (.t 55) (.c (.d true (.int .i64 0))) 1), (some (50, false))⟩, ⟨(.load 57 (.t 56) 0), (some (50, false))⟩, ⟨(.bin 58 .neq (.t 57) (.c (.d true (.int .i64 0)))), (some (50, false))⟩, ⟨(.pick 59 (.t 50) (.c (.d true (.bool true))) (.t 58)), none⟩] [])
def c_ref22_Check_p3 : C :=
(.rg 14 false [] [⟨(.mv 78 (.t 5)), none⟩, ⟨(.bin 79 .lss (.t 78) (.c (.d true (.int .i64 (-1))))), none⟩, ⟨(.mv 80 (.t 79)), none⟩, ⟨(.mv 81 (.t 5)), (some (80, false))⟩, ⟨(.fad 82 (.t 1) 0 0), (some (80, false))⟩, ⟨(.load 83 (.t 82) 0), (some (80, false))⟩, ⟨(.bin 84 .mul (.c (.d true (.int .i64 2))) (.t 83)), (some (80, false))⟩, ⟨(.bin 85 .add (.t 84) (.c (.d true (.int .i64 1)))), (some (80, false))⟩, ⟨(.bin 86 .gtr (.t 81) (.t 85)), (some (80, false))⟩, ⟨(.pick 87 (.t 80) (.c (.d true (.bool true))) (.t 86)), none⟩] [])
def c_ref22_Check_l1 : C :=
(.seq (.seq (.rg 11 false [] [⟨(.mv 60 (.t 4)), none⟩, ⟨(.fad 61 (.t 1) 1 0), none⟩, ⟨(.load 62 (.t 61) 0), none⟩, ⟨(.mv 63 (.t 3)), none⟩, ⟨(.ix 64 (.t 62) (.t 63) 1), none⟩, ⟨(.load 65 (.t 64) 0), none⟩, ⟨(.len 66 (.t 65)), none⟩, ⟨(.bin 67 .lss (.t 60) (.t 66)), none⟩] [])
 (.cond (.t 67) .skip (.exit 2)))
 (.seq (.block 3 (.seq (.rg 13 false [] [⟨(.fad 70 (.t 1) 1 0), none⟩, ⟨(.load 71 (.t 70) 0), none⟩, ⟨(.mv 72 (.t 3)), none⟩, ⟨(.ix 73 (.t 71) (.t 72) 1), none⟩, ⟨(.load 74 (.t 73) 0), none⟩, ⟨(.mv 75 (.t 4)), none⟩, ⟨(.ix 76 (.t 74) (.t 75) 1), none⟩, ⟨(.load 77 (.t 76) 0), none⟩, ⟨(.mv 5 (.t 77)), none⟩] [])
 (.seq c_ref22_Check_p3
 (.cond (.t 87) (.seq (.rg 15 false [] [⟨(.mv 2 (.c (.d true (.int .i64 8)))), none⟩] [])
 .ret) .skip))))
 (.rg 12 false [] [⟨(.mv 68 (.t 4)), none⟩, ⟨(.bin 69 .add (.t 68) (.c (.d true (.int .i64 1)))), none⟩, ⟨(.mv 4 (.t 69)), none⟩] [])))
def c_ref22_Check_l2 : C :=
(.seq (.seq (.rg 6 false [] [⟨(.mv 22 (.t 3)), none⟩, ⟨(.fad 23 (.t 1) 1 0), none⟩, ⟨(.load 24 (.t 23) 0), none⟩, ⟨(.len 25 (.t 24)), none⟩, ⟨(.bin 26 .lss (.t 22) (.t 25)), none⟩] [])
 (.cond (.t 26) .skip (.exit 0)))
 (.seq (.block 1 (.seq (.seq c_ref22_Check_p2
 (.cond (.t 59) (.seq (.rg 9 false [] [⟨(.mv 2 (.c (.d true (.int .i64 8)))), none⟩] [])
 .ret) .skip))
 (.seq (.rg 10 false [] [⟨(.mv 4 (.c (.d true (.int .i64 0)))), none⟩] [])
 (.block 2 (.loop c_ref22_Check_l1)))))
 (.rg 7 false [] [⟨(.mv 27 (.t 3)), none⟩, ⟨(.bin 28 .add (.t 27) (.c (.d true (.int .i64 1)))), none⟩, ⟨(.mv 3 (.t 28)), none⟩] [])))
def c_ref22_Check : C :=
(.seq (.rg 0 false [] [⟨(.box 1 0 (.t 0) 4), none⟩, ⟨(.mv 2 (.c (.d true (.int .i64 0)))), none⟩] [])
 (.seq (.seq (.rg 1 false [] [⟨(.fad 6 (.t 1) 2 0), none⟩, ⟨(.load 7 (.t 6) 0), none⟩, ⟨(.len 8 (.t 7)), none⟩, ⟨(.bin 9 .gtr (.t 8) (.c (.d true (.int .i64 20000)))), none⟩] [])
 (.cond (.t 9) (.seq (.rg 2 false [] [⟨(.mv 2 (.c (.d true (.int .i64 4)))), none⟩] [])
 .ret) .skip))
 (.seq (.seq c_ref22_Check_p1
 (.cond (.t 21) (.seq (.rg 4 false [] [⟨(.mv 2 (.c (.d true (.int .i64 8)))), none⟩] [])
 .ret) .skip))
 (.seq (.seq (.rg 5 false [] [⟨(.mv 3 (.c (.d true (.int .i64 0)))), none⟩] [])
 (.block 0 (.loop c_ref22_Check_l2)))
 (.seq (.rg 16 false [] [⟨(.mv 2 (.c (.d true (.int .i64 0)))), none⟩] [])
 .ret)))))
def n_ref22_Check : Fn := ⟨c_ref22_Check, [.s 2], (some [false])⟩
def c_law23_named_p1 : C :=
(.rg 6 false [] [⟨(.mv 43 (.t 14)), none⟩, ⟨(.bin 44 .neq (.t 43) (.c (.d true (.int .i64 0)))), none⟩, ⟨(.mv 45 (.t 44)), none⟩, ⟨(.mv 46 (.t 13)), (some (45, false))⟩, ⟨(.len 47 (.t 46)), (some (45, false))⟩, ⟨(.fad 48 (.t 5) 1 0), (some (45, false))⟩, ⟨(.load 49 (.t 48) 0), (some (45, false))⟩, ⟨(.mv 50 (.t 12)), (some (45, false))⟩, ⟨(.ix 51 (.t 49) (.t 50) 1), (some (45, false))⟩, ⟨(.load 52 (.t 51) 0), (some (45, false))⟩, ⟨(.len 53 (.t 52)), (some (45, false))⟩, ⟨(.bin 54 .neq (.t 47) (.t 53)), (some (45, false))⟩, ⟨(.pick 55 (.t 45) (.c (.d true (.bool true))) (.t 54)), none⟩] [])
def c_law23_named_p2 : C :=
(.rg 12 false [] [⟨(.mv 70 (.t 16)), none⟩, ⟨(.bin 71 .geq (.t 70) (.c (.d true (.int .i64 2)))), none⟩, ⟨(.mv 72 (.t 71)), none⟩, ⟨(.mv 73 (.t 11)), (some (72, true))⟩, ⟨(.mv 74 (.t 16)), (some (72, true))⟩, ⟨(.bin 75 .quo (.t 74) (.c (.d true (.int .i64 2)))), (some (72, true))⟩, ⟨(.bin 76 .sub (.t 75) (.c (.d true (.int .i64 1)))), (some (72, true))⟩, ⟨(.ix 77 (.t 73) (.t 76) 1), (some (72, true))⟩, ⟨(.load 78 (.t 77) 0), (some (72, true))⟩, ⟨(.un 79 .not (.t 78)), (some (72, true))⟩, ⟨(.pick 80 (.t 72) (.t 79) (.c (.d true (.bool false)))), none⟩] [])
def c_law23_named_p3 : C :=
(.seq c_law23_named_p2
 (.cond (.t 80) (.seq (.rg 13 false [] [⟨(.mv 81 (.t 11)), none⟩, ⟨(.mv 82 (.t 16)), none⟩, ⟨(.bin 83 .quo (.t 82) (.c (.d true (.int .i64 2)))), none⟩, ⟨(.bin 84 .sub (.t 83) (.c (.d true (.int .i64 1)))), none⟩, ⟨(.ix 85 (.t 81) (.t 84) 1), none⟩, ⟨(.store (.t 85) (.c (.d true (.bool true))) 0), none⟩] [])
 (.rg 14 false [] [⟨(.mv 86 (.t 10)), none⟩, ⟨(.mv 87 (.t 16)), none⟩, ⟨(.bin 88 .quo (.t 87) (.c (.d true (.int .i64 2)))), none⟩, ⟨(.bin 89 .sub (.t 88) (.c (.d true (.int .i64 1)))), none⟩, ⟨(.mv 90 (.t 13)), none⟩, ⟨(.mv 91 (.t 15)), none⟩, ⟨(.ix 92 (.t 90) (.t 91) 1), none⟩, ⟨(.load 93 (.t 92) 0), none⟩, ⟨(.mv 94 (.t 16)), none⟩, ⟨(.bin 95 .rem (.t 94) (.c (.d true (.int .i64 2)))), none⟩, ⟨(.bin 96 .eql (.t 95) (.c (.d true (.int .i64 0)))), none⟩, ⟨(.beq 97 false (.t 93) (.t 96)), none⟩, ⟨(.ix 98 (.t 86) (.t 89) 1), none⟩, ⟨(.store (.t 98) (.t 97) 0), none⟩] [])) .skip))
def c_law23_named_p4 : C :=
(.rg 15 true [] [⟨(.mv 99 (.t 16)), none⟩, ⟨(.bin 100 .lss (.t 99) (.c (.d true (.int .i64 0)))), none⟩, ⟨(.mv 101 (.t 100)), none⟩, ⟨(.mv 102 (.t 16)), (some (101, false))⟩, ⟨(.mv 103 (.t 10)), (some (101, false))⟩, ⟨(.call 104 k_ref22_True [(.t 102), (.t 103)] none), (some (101, false))⟩, ⟨(.mv 105 (.t 13)), (some (101, false))⟩, ⟨(.mv 106 (.t 15)), (some (101, false))⟩, ⟨(.ix 107 (.t 105) (.t 106) 1), (some (101, false))⟩, ⟨(.load 108 (.t 107) 0), (some (101, false))⟩, ⟨(.beq 109 true (.t 104) (.t 108)), (some (101, false))⟩, ⟨(.pick 110 (.t 101) (.c (.d true (.bool true))) (.t 109)), none⟩] [])
def c_law23_named_l1 : C :=
(.seq (.seq (.rg 9 false [] [⟨(.mv 56 (.t 15)), none⟩, ⟨(.mv 57 (.t 13)), none⟩, ⟨(.len 58 (.t 57)), none⟩, ⟨(.bin 59 .lss (.t 56) (.t 58)), none⟩] [])
 (.cond (.t 59) .skip (.exit 2)))
 (.seq (.block 3 (.seq (.rg 11 false [] [⟨(.fad 62 (.t 5) 1 0), none⟩, ⟨(.load 63 (.t 62) 0), none⟩, ⟨(.mv 64 (.t 12)), none⟩, ⟨(.ix 65 (.t 63) (.t 64) 1), none⟩, ⟨(.load 66 (.t 65) 0), none⟩, ⟨(.mv 67 (.t 15)), none⟩, ⟨(.ix 68 (.t 66) (.t 67) 1), none⟩, ⟨(.load 69 (.t 68) 0), none⟩, ⟨(.mv 16 (.t 69)), none⟩] [])
 (.seq c_law23_named_p3
 (.seq c_law23_named_p4
 (.cond (.t 110) (.seq (.rg 16 false [] [⟨(.mv 8 (.c (.nil 1))), none⟩, ⟨(.mv 9 (.c (.d true (.bool false)))), none⟩] [])
 .ret) .skip)))))
 (.rg 10 false [] [⟨(.mv 60 (.t 15)), none⟩, ⟨(.bin 61 .add (.t 60) (.c (.d true (.int .i64 1)))), none⟩, ⟨(.mv 15 (.t 61)), none⟩] [])))
def c_law23_named_l2 : C :=
(.seq (.seq (.rg 3 false [] [⟨(.mv 23 (.t 12)), none⟩, ⟨(.fad 24 (.t 5) 1 0), none⟩, ⟨(.load 25 (.t 24) 0), none⟩, ⟨(.len 26 (.t 25)), none⟩, ⟨(.bin 27 .lss (.t 23) (.t 26)), none⟩] [])
 (.cond (.t 27) .skip (.exit 0)))
 (.seq (.block 1 (.seq (.rg 5 true [] [⟨(.load 31 (.t 4) 6), none⟩, ⟨(.mv 32 (.t 2)), none⟩, ⟨(.mv 33 (.t 12)), none⟩, ⟨(.ix 34 (.t 32) (.t 33) 1), none⟩, ⟨(.load 35 (.t 34) 0), none⟩, ⟨(.mv 36 (.t 3)), none⟩, ⟨(.mv 37 (.t 12)), none⟩, ⟨(.ix 38 (.t 36) (.t 37) 1), none⟩, ⟨(.load 39 (.t 38) 0), none⟩, ⟨(.call 40 k_values_All [(.t 31), (.t 35), (.t 39)] none), none⟩, ⟨(.mv 30 (.t 40)), none⟩, ⟨(.xt 41 (.t 30) 0), none⟩, ⟨(.xt 42 (.t 30) 1), none⟩, ⟨(.mv 13 (.t 41)), none⟩, ⟨(.mv 14 (.t 42)), none⟩] [])
 (.seq (.seq c_law23_named_p1
 (.cond (.t 55) (.seq (.rg 7 false [] [⟨(.mv 8 (.c (.nil 1))), none⟩, ⟨(.mv 9 (.c (.d true (.bool false)))), none⟩] [])
 .ret) .skip))
 (.seq (.rg 8 false [] [⟨(.mv 15 (.c (.d true (.int .i64 0)))), none⟩] [])
 (.block 2 (.loop c_law23_named_l1))))))
 (.rg 4 false [] [⟨(.mv 28 (.t 12)), none⟩, ⟨(.bin 29 .add (.t 28) (.c (.d true (.int .i64 1)))), none⟩, ⟨(.mv 12 (.t 29)), none⟩] [])))
def c_law23_named : C :=
(.seq (.rg 0 false [] [⟨(.box 4 0 (.t 0) 6), none⟩, ⟨(.box 5 1 (.t 1) 4), none⟩, ⟨(.mv 8 (.c (.nil 1))), none⟩, ⟨(.mv 9 (.c (.d true (.bool false)))), none⟩] [])
 (.seq (.rg 1 true [] [⟨(.fad 17 (.t 5) 0 0), none⟩, ⟨(.load 18 (.t 17) 0), none⟩, ⟨(.mks 19 2 1 (.t 18) (.t 18) (.k (.bool false))), none⟩, ⟨(.fad 20 (.t 5) 0 0), none⟩, ⟨(.load 21 (.t 20) 0), none⟩, ⟨(.mks 22 3 1 (.t 21) (.t 21) (.k (.bool false))), none⟩, ⟨(.mv 10 (.t 19)), none⟩, ⟨(.mv 11 (.t 22)), none⟩] [])
 (.seq (.seq (.rg 2 false [] [⟨(.mv 12 (.c (.d true (.int .i64 0)))), none⟩] [])
 (.block 0 (.loop c_law23_named_l2)))
 (.seq (.rg 17 false [] [⟨(.mv 111 (.t 10)), none⟩, ⟨(.mv 8 (.t 111)), none⟩, ⟨(.mv 9 (.c (.d true (.bool true)))), none⟩] [])
 .ret))))
def n_law23_named : Fn := ⟨c_law23_named, [.s 8, .s 9], (some [false, false, false, false])⟩
def c_solve_Model_p1 : C :=
(.rg 1 false [] [⟨(.mv 13 (.t 0)), none⟩, ⟨(.bin 14 .lss (.t 13) (.c (.d true (.int .i64 0)))), none⟩, ⟨(.mv 15 (.t 14)), none⟩, ⟨(.mv 16 (.t 0)), (some (15, false))⟩, ⟨(.bin 17 .gtr (.t 16) (.c (.d true (.int .i64 4000)))), (some (15, false))⟩, ⟨(.pick 18 (.t 15) (.c (.d true (.bool true))) (.t 17)), none⟩, ⟨(.mv 19 (.t 18)), none⟩, ⟨(.mv 20 (.t 2)), (some (19, false))⟩, ⟨(.len 21 (.t 20)), (some (19, false))⟩, ⟨(.mv 22 (.t 0)), (some (19, false))⟩, ⟨(.bin 23 .neq (.t 21) (.t 22)), (some (19, false))⟩, ⟨(.pick 24 (.t 19) (.c (.d true (.bool true))) (.t 23)), none⟩] [])
def c_solve_Model_p2 : C :=
(.rg 10 false [] [⟨(.mv 43 (.t 12)), none⟩, ⟨(.bin 44 .neq (.t 43) (.c (.d true (.int .i64 0)))), none⟩, ⟨(.mv 45 (.t 44)), none⟩, ⟨(.mv 46 (.t 11)), (some (45, false))⟩, ⟨(.un 47 .not (.t 46)), (some (45, false))⟩, ⟨(.pick 48 (.t 45) (.c (.d true (.bool true))) (.t 47)), none⟩] [])
def c_solve_Model_l1 : C :=
(.seq (.rg 7 false [] [⟨(.bin 34 .lss (.t 33) (.t 32)), none⟩] [])
 (.seq (.cond (.t 34) .skip (.exit 0))
 (.seq (.block 1 (.seq (.rg 8 false [] [⟨(.ix 35 (.t 31) (.t 33) 1), none⟩, ⟨(.load 36 (.t 35) 0), none⟩, ⟨(.mv 10 (.t 36)), none⟩] [])
 (.seq (.rg 9 false [] [⟨(.mv 38 (.t 10)), none⟩, ⟨(.mv 39 (.t 2)), none⟩, ⟨(.call 40 k_clause_True [(.t 38), (.t 39)] none), none⟩, ⟨(.mv 37 (.t 40)), none⟩, ⟨(.xt 41 (.t 37) 0), none⟩, ⟨(.xt 42 (.t 37) 1), none⟩, ⟨(.mv 11 (.t 41)), none⟩, ⟨(.mv 12 (.t 42)), none⟩] [])
 (.seq c_solve_Model_p2
 (.cond (.t 48) (.seq (.rg 11 false [] [⟨(.mv 49 (.t 12)), none⟩, ⟨(.mv 6 (.c (.d true (.bool false)))), none⟩, ⟨(.mv 7 (.t 49)), none⟩] [])
 .ret) .skip)))))
 (.rg 12 false [] [⟨(.bin 50 .add (.t 33) (.c (.d true (.int .i64 1)))), none⟩, ⟨(.mv 33 (.t 50)), none⟩] []))))
def c_solve_Model : C :=
(.seq (.rg 0 false [] [⟨(.mv 6 (.c (.d true (.bool false)))), none⟩, ⟨(.mv 7 (.c (.d true (.int .i64 0)))), none⟩] [])
 (.seq (.seq c_solve_Model_p1
 (.cond (.t 24) (.seq (.rg 2 false [] [⟨(.mv 6 (.c (.d true (.bool false)))), none⟩, ⟨(.mv 7 (.c (.d true (.int .i64 2)))), none⟩] [])
 .ret) .skip))
 (.seq (.seq (.rg 3 false [] [⟨(.mv 25 (.t 0)), none⟩, ⟨(.mv 26 (.t 1)), none⟩, ⟨(.call 27 k_solve_check [(.t 25), (.t 26)] none), none⟩, ⟨(.mv 8 (.t 27)), none⟩] [])
 (.seq (.rg 4 false [] [⟨(.mv 28 (.t 8)), none⟩, ⟨(.bin 29 .neq (.t 28) (.c (.d true (.int .i64 0)))), none⟩] [])
 (.cond (.t 29) (.seq (.rg 5 false [] [⟨(.mv 30 (.t 8)), none⟩, ⟨(.mv 6 (.c (.d true (.bool false)))), none⟩, ⟨(.mv 7 (.t 30)), none⟩] [])
 .ret) .skip)))
 (.seq (.seq (.rg 6 false [] [⟨(.mv 31 (.t 1)), none⟩, ⟨(.len 32 (.t 31)), none⟩, ⟨(.mv 33 (.c (.d true (.int .i64 0)))), none⟩] [])
 (.block 0 (.loop c_solve_Model_l1)))
 (.seq (.rg 13 false [] [⟨(.mv 6 (.c (.d true (.bool true)))), none⟩, ⟨(.mv 7 (.c (.d true (.int .i64 0)))), none⟩] [])
 .ret)))))
def n_solve_Model : Fn := ⟨c_solve_Model, [.s 6, .s 7], (some [false, false, false])⟩
def c_clause_Check_p1 : C :=
(.rg 1 false [] [⟨(.mv 7 (.t 0)), none⟩, ⟨(.bin 8 .lss (.t 7) (.c (.d true (.int .i64 0)))), none⟩, ⟨(.mv 9 (.t 8)), none⟩, ⟨(.mv 10 (.t 0)), (some (9, false))⟩, ⟨(.bin 11 .gtr (.t 10) (.c (.d true (.int .i64 4000)))), (some (9, false))⟩, ⟨(.pick 12 (.t 9) (.c (.d true (.bool true))) (.t 11)), none⟩] [])
def c_clause_Check_p2 : C :=
(.rg 6 false [] [⟨(.mv 20 (.t 0)), none⟩, ⟨(.mv 21 (.t 6)), none⟩, ⟨(.call 22 k_clause_known [(.t 20), (.t 21)] none), none⟩, ⟨(.un 23 .not (.t 22)), none⟩, ⟨(.mv 24 (.t 23)), none⟩, ⟨(.mv 25 (.t 5)), (some (24, false))⟩, ⟨(.bin 26 .gtr (.t 25) (.c (.d true (.int .i64 0)))), (some (24, false))⟩, ⟨(.mv 27 (.t 26)), (some (24, false))⟩, ⟨(.mv 28 (.t 6)), (some (27, true))⟩, ⟨(.mv 29 (.t 1)), (some (27, true))⟩, ⟨(.mv 30 (.t 5)), (some (27, true))⟩, ⟨(.bin 31 .sub (.t 30) (.c (.d true (.int .i64 1)))), (some (27, true))⟩, ⟨(.ix 32 (.t 29) (.t 31) 1), (some (27, true))⟩, ⟨(.load 33 (.t 32) 0), (some (27, true))⟩, ⟨(.bin 34 .leq (.t 28) (.t 33)), (some (27, true))⟩, ⟨(.mv 35 (.t 34)), (some (27, true))⟩, ⟨(.mv 36 (.t 6)), (some (35, false))⟩, ⟨(.bin 37 .quo (.t 36) (.c (.d true (.int .i64 2)))), (some (35, false))⟩, ⟨(.mv 38 (.t 1)), (some (35, false))⟩, ⟨(.mv 39 (.t 5)), (some (35, false))⟩, ⟨(.bin 40 .sub (.t 39) (.c (.d true (.int .i64 1)))), (some (35, false))⟩, ⟨(.ix 41 (.t 38) (.t 40) 1), (some (35, false))⟩, ⟨(.load 42 (.t 41) 0), (some (35, false))⟩, ⟨(.bin 43 .quo (.t 42) (.c (.d true (.int .i64 2)))), (some (35, false))⟩, ⟨(.bin 44 .eql (.t 37) (.t 43)), (some (35, false))⟩, ⟨(.pick 45 (.t 35) (.c (.d true (.bool true))) (.t 44)), (some (27, true))⟩, ⟨(.pick 46 (.t 27) (.t 45) (.c (.d true (.bool false)))), (some (24, false))⟩, ⟨(.pick 47 (.t 24) (.c (.d true (.bool true))) (.t 46)), none⟩] [])
def c_clause_Check_l1 : C :=
(.seq (.rg 4 false [] [⟨(.bin 16 .lss (.t 15) (.t 14)), none⟩] [])
 (.seq (.cond (.t 16) .skip (.exit 0))
 (.seq (.block 1 (.seq (.rg 5 false [] [⟨(.mv 17 (.t 15)), none⟩, ⟨(.ix 18 (.t 13) (.t 15) 1), none⟩, ⟨(.load 19 (.t 18) 0), none⟩, ⟨(.mv 5 (.t 17)), none⟩, ⟨(.mv 6 (.t 19)), none⟩] [])
 (.seq c_clause_Check_p2
 (.cond (.t 47) (.seq (.rg 7 false [] [⟨(.mv 4 (.c (.d true (.int .i64 8)))), none⟩] [])
 .ret) .skip))))
 (.rg 8 false [] [⟨(.bin 48 .add (.t 15) (.c (.d true (.int .i64 1)))), none⟩, ⟨(.mv 15 (.t 48)), none⟩] []))))
def c_clause_Check : C :=
(.seq (.rg 0 false [] [⟨(.mv 4 (.c (.d true (.int .i64 0)))), none⟩] [])
 (.seq (.seq c_clause_Check_p1
 (.cond (.t 12) (.seq (.rg 2 false [] [⟨(.mv 4 (.c (.d true (.int .i64 2)))), none⟩] [])
 .ret) .skip))
 (.seq (.seq (.rg 3 false [] [⟨(.mv 13 (.t 1)), none⟩, ⟨(.len 14 (.t 13)), none⟩, ⟨(.mv 15 (.c (.d true (.int .i64 0)))), none⟩] [])
 (.block 0 (.loop c_clause_Check_l1)))
 (.seq (.rg 9 false [] [⟨(.mv 4 (.c (.d true (.int .i64 0)))), none⟩] [])
 .ret))))
def n_clause_Check : Fn := ⟨c_clause_Check, [.s 4], (some [false, false])⟩
def c_ref13_Valid_p1 : C :=
(.rg 4 true [] [⟨(.mv 12 (.t 0)), none⟩, ⟨(.mv 13 (.t 1)), none⟩, ⟨(.mv 14 (.t 5)), none⟩, ⟨(.ix 15 (.t 13) (.t 14) 1), none⟩, ⟨(.load 16 (.t 15) 0), none⟩, ⟨(.call 17 k_ref13_Lit [(.t 12), (.t 16)] none), none⟩, ⟨(.un 18 .not (.t 17)), none⟩, ⟨(.mv 19 (.t 18)), none⟩, ⟨(.mv 20 (.t 5)), (some (19, false))⟩, ⟨(.bin 21 .gtr (.t 20) (.c (.d true (.int .i64 0)))), (some (19, false))⟩, ⟨(.mv 22 (.t 21)), (some (19, false))⟩, ⟨(.mv 23 (.t 1)), (some (22, true))⟩, ⟨(.mv 24 (.t 5)), (some (22, true))⟩, ⟨(.ix 25 (.t 23) (.t 24) 1), (some (22, true))⟩, ⟨(.load 26 (.t 25) 0), (some (22, true))⟩, ⟨(.mv 27 (.t 1)), (some (22, true))⟩, ⟨(.mv 28 (.t 5)), (some (22, true))⟩, ⟨(.bin 29 .sub (.t 28) (.c (.d true (.int .i64 1)))), (some (22, true))⟩, ⟨(.ix 30 (.t 27) (.t 29) 1), (some (22, true))⟩, ⟨(.load 31 (.t 30) 0), (some (22, true))⟩, ⟨(.bin 32 .sub (.t 26) (.t 31)), (some (22, true))⟩, ⟨(.bin 33 .lss (.t 32) (.c (.d true (.int .i64 1)))), (some (22, true))⟩, ⟨(.pick 34 (.t 22) (.t 33) (.c (.d true (.bool false)))), (some (19, false))⟩, ⟨(.pick 35 (.t 19) (.c (.d true (.bool true))) (.t 34)), none⟩, ⟨(.mv 36 (.t 35)), none⟩, ⟨(.mv 37 (.t 5)), (some (36, false))⟩, ⟨(.bin 38 .gtr (.t 37) (.c (.d true (.int .i64 0)))), (some (36, false))⟩, ⟨(.mv 39 (.t 38)), (some (36, false))⟩, ⟨(.mv 40 (.t 1)), (some (39, true))⟩, ⟨(.mv 41 (.t 5)), (some (39, true))⟩, ⟨(.bin 42 .sub (.t 41) (.c (.d true (.int .i64 1)))), (some (39, true))⟩, ⟨(.ix 43 (.t 40) (.t 42) 1), (some (39, true))⟩, ⟨(.load 44 (.t 43) 0), (some (39, true))⟩, ⟨(.bin 45 .rem (.t 44) (.c (.d true (.int .i64 2)))), (some (39, true))⟩, ⟨(.bin 46 .eql (.t 45) (.c (.d true (.int .i64 0)))), (some (39, true))⟩, ⟨(.pick 47 (.t 39) (.t 46) (.c (.d true (.bool false)))), (some (36, false))⟩, ⟨(.mv 48 (.t 47)), (some (36, false))⟩, ⟨(.mv 49 (.t 1)), (some (48, true))⟩, ⟨(.mv 50 (.t 5)), (some (48, true))⟩, ⟨(.ix 51 (.t 49) (.t 50) 1), (some (48, true))⟩, ⟨(.load 52 (.t 51) 0), (some (48, true))⟩, ⟨(.mv 53 (.t 1)), (some (48, true))⟩, ⟨(.mv 54 (.t 5)), (some (48, true))⟩, ⟨(.bin 55 .sub (.t 54) (.c (.d true (.int .i64 1)))), (some (48, true))⟩, ⟨(.ix 56 (.t 53) (.t 55) 1), (some (48, true))⟩, ⟨(.load 57 (.t 56) 0), (some (48, true))⟩, ⟨(.bin 58 .add (.t 57) (.c (.d true (.int .i64 1)))), (some (48, true))⟩, ⟨(.bin 59 .eql (.t 52) (.t 58)), (some (48, true))⟩, ⟨(.pick 60 (.t 48) (.t 59) (.c (.d true (.bool false)))), (some (36, false))⟩, ⟨(.pick 61 (.t 36) (.c (.d true (.bool true))) (.t 60)), none⟩] [])
def c_ref13_Valid_l1 : C :=
(.seq (.seq (.rg 2 false [] [⟨(.mv 6 (.t 5)), none⟩, ⟨(.mv 7 (.t 1)), none⟩, ⟨(.len 8 (.t 7)), none⟩, ⟨(.bin 9 .lss (.t 6) (.t 8)), none⟩] [])
 (.cond (.t 9) .skip (.exit 0)))
 (.seq (.block 1 (.seq c_ref13_Valid_p1
 (.cond (.t 61) (.seq (.rg 5 false [] [⟨(.mv 4 (.c (.d true (.bool false)))), none⟩] [])
 .ret) .skip)))
 (.rg 3 false [] [⟨(.mv 10 (.t 5)), none⟩, ⟨(.bin 11 .add (.t 10) (.c (.d true (.int .i64 1)))), none⟩, ⟨(.mv 5 (.t 11)), none⟩] [])))
def c_ref13_Valid : C :=
(.seq (.rg 0 false [] [⟨(.mv 4 (.c (.d true (.bool false)))), none⟩] [])
 (.seq (.seq (.rg 1 false [] [⟨(.mv 5 (.c (.d true (.int .i64 0)))), none⟩] [])
 (.block 0 (.loop c_ref13_Valid_l1)))
 (.seq (.rg 6 false [] [⟨(.mv 4 (.c (.d true (.bool true)))), none⟩] [])
 .ret)))
def n_ref13_Valid : Fn := ⟨c_ref13_Valid, [.s 4], (some [false, false])⟩
def c_slices_ContainsFunc_of_int_p1 : C :=
(.rg 1 false [] [⟨(.mv 5 (.t 0)), none⟩, ⟨(.mv 6 (.t 1)), none⟩, ⟨(.call 7 k_slices_IndexFunc_of_int [(.t 5), (.t 6)] none), none⟩, ⟨(.bin 8 .geq (.t 7) (.c (.d true (.int .i64 0)))), none⟩, ⟨(.mv 4 (.t 8)), none⟩] [])
def c_slices_ContainsFunc_of_int : C :=
(.seq (.rg 0 false [] [⟨(.mv 4 (.c (.d true (.bool false)))), none⟩] [])
 (.seq c_slices_ContainsFunc_of_int_p1
 .ret))
def n_slices_ContainsFunc_of_int : Fn := ⟨c_slices_ContainsFunc_of_int, [.s 4], none⟩
def c_ref02_Great_p1 : C :=
(.rg 1 false [] [⟨(.fad 3 (.t 1) 1 0), none⟩, ⟨(.load 4 (.t 3) 0), none⟩, ⟨(.len 5 (.t 4)), none⟩, ⟨(.bin 6 .gtr (.t 5) (.c (.d true (.int .i64 60)))), none⟩, ⟨(.mv 7 (.t 6)), none⟩, ⟨(.fad 8 (.t 1) 2 0), (some (7, false))⟩, ⟨(.load 9 (.t 8) 0), (some (7, false))⟩, ⟨(.len 10 (.t 9)), (some (7, false))⟩, ⟨(.bin 11 .gtr (.t 10) (.c (.d true (.int .i64 120)))), (some (7, false))⟩, ⟨(.pick 12 (.t 7) (.c (.d true (.bool true))) (.t 11)), none⟩, ⟨(.mv 13 (.t 12)), none⟩, ⟨(.fad 14 (.t 1) 3 0), (some (13, false))⟩, ⟨(.load 15 (.t 14) 0), (some (13, false))⟩, ⟨(.len 16 (.t 15)), (some (13, false))⟩, ⟨(.bin 17 .gtr (.t 16) (.c (.d true (.int .i64 110)))), (some (13, false))⟩, ⟨(.pick 18 (.t 13) (.c (.d true (.bool true))) (.t 17)), none⟩, ⟨(.mv 19 (.t 18)), none⟩, ⟨(.fad 20 (.t 1) 4 0), (some (19, false))⟩, ⟨(.load 21 (.t 20) 0), (some (19, false))⟩, ⟨(.len 22 (.t 21)), (some (19, false))⟩, ⟨(.bin 23 .gtr (.t 22) (.c (.d true (.int .i64 110)))), (some (19, false))⟩, ⟨(.pick 24 (.t 19) (.c (.d true (.bool true))) (.t 23)), none⟩, ⟨(.mv 25 (.t 24)), none⟩, ⟨(.fad 26 (.t 1) 0 0), (some (25, false))⟩, ⟨(.load 27 (.t 26) 0), (some (25, false))⟩, ⟨(.bin 28 .gtr (.t 27) (.c (.d true (.int .i64 40)))), (some (25, false))⟩, ⟨(.mv 29 (.t 28)), (some (25, false))⟩, ⟨(.fad 30 (.t 1) 0 0), (some (29, true))⟩, ⟨(.load 31 (.t 30) 0), (some (29, true))⟩, ⟨(.bin 32 .lss (.t 31) (.c (.d true (.int .i64 996)))), (some (29, true))⟩, ⟨(.pick 33 (.t 29) (.t 32) (.c (.d true (.bool false)))), (some (25, false))⟩, ⟨(.pick 34 (.t 25) (.c (.d true (.bool true))) (.t 33)), none⟩, ⟨(.mv 2 (.t 34)), none⟩] [])
def c_ref02_Great : C :=
(.seq (.rg 0 false [] [⟨(.box 1 0 (.t 0) 6), none⟩, ⟨(.mv 2 (.c (.d true (.bool false)))), none⟩] [])
 (.seq c_ref02_Great_p1
 .ret))
def n_ref02_Great : Fn := ⟨c_ref02_Great, [.s 2], (some [false])⟩
def c_ref02_Size : C :=
(.seq (.rg 0 false [] [⟨.box 1 0 (.t 0) 6, none⟩, ⟨.mv 2 (.c (.d true (.int .i64 0))), none⟩] [])
 (.seq (.rg 1 false [] [⟨.fad 3 (.t 1) 0 0, none⟩, ⟨.load 4 (.t 3) 0, none⟩, ⟨.fad 5 (.t 1) 1 0, none⟩, ⟨.load 6 (.t 5) 0, none⟩, ⟨.len 7 (.t 6), none⟩, ⟨.bin 8 .add (.t 4) (.t 7), none⟩, ⟨.fad 9 (.t 1) 2 0, none⟩, ⟨.load 10 (.t 9) 0, none⟩, ⟨.len 11 (.t 10), none⟩, ⟨.bin 12 .add (.t 8) (.t 11), none⟩, ⟨.mv 2 (.t 12), none⟩] [])
 .ret))
def n_ref02_Size : Fn := ⟨c_ref02_Size, [.s 2], (some [false])⟩
def c_gates_Check_p1 : C :=
(.rg 3 false [] [⟨(.fad 11 (.t 1) 0 0), none⟩, ⟨(.load 12 (.t 11) 0), none⟩, ⟨(.bin 13 .gtr (.t 12) (.c (.d true (.int .i64 1000)))), none⟩, ⟨(.mv 14 (.t 13)), none⟩, ⟨(.load 15 (.t 1) 6), (some (14, false))⟩, ⟨(.call 16 k_gates_starts [(.t 15)] none), (some (14, false))⟩, ⟨(.ixa 17 (.t 16) (.c (.d true (.int .i64 3))) 4 0), (some (14, false))⟩, ⟨(.bin 18 .sub (.t 17) (.c (.d true (.int .i64 1)))), (some (14, false))⟩, ⟨(.bin 19 .gtr (.t 18) (.c (.d true (.int .i64 1000)))), (some (14, false))⟩, ⟨(.pick 20 (.t 14) (.c (.d true (.bool true))) (.t 19)), none⟩, ⟨(.mv 21 (.t 20)), none⟩, ⟨(.fad 22 (.t 1) 3 0), (some (21, false))⟩, ⟨(.load 23 (.t 22) 0), (some (21, false))⟩, ⟨(.len 24 (.t 23)), (some (21, false))⟩, ⟨(.fad 25 (.t 1) 4 0), (some (21, false))⟩, ⟨(.load 26 (.t 25) 0), (some (21, false))⟩, ⟨(.len 27 (.t 26)), (some (21, false))⟩, ⟨(.mx 28 (.t 24) [(.t 27)]), (some (21, false))⟩, ⟨(.bin 29 .gtr (.t 28) (.c (.d true (.int .i64 100)))), (some (21, false))⟩, ⟨(.pick 30 (.t 21) (.c (.d true (.bool true))) (.t 29)), none⟩] [])
def c_gates_Check_p2 : C :=
(.rg 8 false [] [⟨(.fad 35 (.t 1) 3 0), none⟩, ⟨(.load 36 (.t 35) 0), none⟩, ⟨(.load 37 (.t 4) 0), none⟩, ⟨(.call 38 k_slices_ContainsFunc_of_int [(.t 36), (.t 37)] none), none⟩, ⟨(.mv 39 (.t 38)), none⟩, ⟨(.fad 40 (.t 1) 4 0), (some (39, false))⟩, ⟨(.load 41 (.t 40) 0), (some (39, false))⟩, ⟨(.load 42 (.t 4) 0), (some (39, false))⟩, ⟨(.call 43 k_slices_ContainsFunc_of_int [(.t 41), (.t 42)] none), (some (39, false))⟩, ⟨(.pick 44 (.t 39) (.c (.d true (.bool true))) (.t 43)), none⟩, ⟨(.mv 45 (.t 44)), none⟩, ⟨(.fad 46 (.t 1) 1 0), (some (45, false))⟩, ⟨(.load 47 (.t 46) 0), (some (45, false))⟩, ⟨(.mv 48 (.t 5)), (some (45, false))⟩, ⟨(.call 49 k_slices_ContainsFunc_of_api_Latch [(.t 47), (.t 48)] none), (some (45, false))⟩, ⟨(.pick 50 (.t 45) (.c (.d true (.bool true))) (.t 49)), none⟩] [])
def c_gates_Check_p3 : C :=
(.rg 13 false [] [⟨(.fad 59 (.t 7) 1 0), none⟩, ⟨(.load 60 (.t 59) 0), none⟩, ⟨(.bin 61 .lss (.t 60) (.c (.d true (.int .i64 0)))), none⟩, ⟨(.mv 62 (.t 61)), none⟩, ⟨(.fad 63 (.t 7) 0 0), (some (62, false))⟩, ⟨(.load 64 (.t 63) 0), (some (62, false))⟩, ⟨(.fad 65 (.t 7) 1 0), (some (62, false))⟩, ⟨(.load 66 (.t 65) 0), (some (62, false))⟩, ⟨(.bin 67 .lss (.t 64) (.t 66)), (some (62, false))⟩, ⟨(.pick 68 (.t 62) (.c (.d true (.bool true))) (.t 67)), none⟩, ⟨(.mv 69 (.t 68)), none⟩, ⟨(.fad 70 (.t 7) 0 0), (some (69, false))⟩, ⟨(.load 71 (.t 70) 0), (some (69, false))⟩, ⟨(.ixb 72 (.t 3) (.c (.d true (.int .i64 2))) 4 1), (some (69, false))⟩, ⟨(.load 73 (.t 72) 0), (some (69, false))⟩, ⟨(.mv 74 (.t 6)), (some (69, false))⟩, ⟨(.bin 75 .add (.t 73) (.t 74)), (some (69, false))⟩, ⟨(.bin 76 .mul (.c (.d true (.int .i64 2))) (.t 75)), (some (69, false))⟩, ⟨(.bin 77 .geq (.t 71) (.t 76)), (some (69, false))⟩, ⟨(.pick 78 (.t 69) (.c (.d true (.bool true))) (.t 77)), none⟩] [])
def c_gates_Check_l1 : C :=
(.seq (.rg 11 false [] [⟨(.bin 55 .lss (.t 54) (.t 53)), none⟩] [])
 (.seq (.cond (.t 55) .skip (.exit 0))
 (.seq (.block 1 (.seq (.rg 12 false [(.kill 3 4)] [⟨(.mv 56 (.t 54)), none⟩, ⟨(.ix 57 (.t 52) (.t 54) 2), none⟩, ⟨(.load 58 (.t 57) 3), none⟩, ⟨(.alloc 7 3 [(.k (.int .i64 0)), (.k (.int .i64 0))]), none⟩, ⟨(.mv 6 (.t 56)), none⟩, ⟨(.store (.t 7) (.t 58) 3), none⟩] [])
 (.seq c_gates_Check_p3
 (.cond (.t 78) (.seq (.rg 14 false [] [⟨(.mv 2 (.c (.d true (.int .i64 8)))), none⟩] [])
 .ret) .skip))))
 (.rg 15 false [] [⟨(.bin 79 .add (.t 54) (.c (.d true (.int .i64 1)))), none⟩, ⟨(.mv 54 (.t 79)), none⟩] []))))
def c_gates_Check : C :=
(.seq (.rg 0 false [] [⟨(.box 1 0 (.t 0) 6), none⟩, ⟨(.mv 2 (.c (.d true (.int .i64 0)))), none⟩] [])
 (.seq (.seq (.rg 1 false [] [⟨(.fad 8 (.t 1) 0 0), none⟩, ⟨(.load 9 (.t 8) 0), none⟩, ⟨(.bin 10 .lss (.t 9) (.c (.d true (.int .i64 0)))), none⟩] [])
 (.cond (.t 10) (.seq (.rg 2 false [] [⟨(.mv 2 (.c (.d true (.int .i64 8)))), none⟩] [])
 .ret) .skip))
 (.seq (.seq c_gates_Check_p1
 (.cond (.t 30) (.seq (.rg 4 false [] [⟨(.mv 2 (.c (.d true (.int .i64 4)))), none⟩] [])
 .ret) .skip))
 (.seq (.rg 5 false [] [⟨(.load 31 (.t 1) 6), none⟩, ⟨(.call 32 k_gates_starts [(.t 31)] none), none⟩, ⟨(.alloc 3 1 [(.k (.int .i64 0)), (.k (.int .i64 0)), (.k (.int .i64 0)), (.k (.int .i64 0))]), none⟩, ⟨(.store (.t 3) (.t 32) 5), none⟩] [])
 (.seq (.rg 6 false [] [⟨(.fn 33 k_gates_Check_1 [(.t 3)]), none⟩, ⟨(.alloc 4 2 [.u]), none⟩, ⟨(.store (.t 4) (.t 33) 0), none⟩] [])
 (.seq (.rg 7 false [] [⟨(.fn 34 k_gates_Check_2 [(.t 4)]), none⟩, ⟨(.mv 5 (.t 34)), none⟩] [])
 (.seq (.seq c_gates_Check_p2
 (.cond (.t 50) (.seq (.rg 9 false [] [⟨(.mv 2 (.c (.d true (.int .i64 8)))), none⟩] [])
 .ret) .skip))
 (.seq (.seq (.rg 10 false [] [⟨(.fad 51 (.t 1) 2 0), none⟩, ⟨(.load 52 (.t 51) 0), none⟩, ⟨(.len 53 (.t 52)), none⟩, ⟨(.mv 54 (.c (.d true (.int .i64 0)))), none⟩] [])
 (.block 0 (.loop c_gates_Check_l1)))
 (.seq (.rg 16 false [] [⟨(.mv 2 (.c (.d true (.int .i64 0)))), none⟩] [])
 .ret)))))))))
def n_gates_Check : Fn := ⟨c_gates_Check, [.s 2], (some [false])⟩
def c_unroll_made_p1 : C :=
(.rg 1 false [] [⟨(.mv 12 (.t 1)), none⟩, ⟨(.bin 13 .lss (.t 12) (.c (.d true (.int .i64 1)))), none⟩, ⟨(.mv 14 (.t 13)), none⟩, ⟨(.mv 15 (.t 1)), (some (14, false))⟩, ⟨(.bin 16 .gtr (.t 15) (.c (.d true (.int .i64 100)))), (some (14, false))⟩, ⟨(.pick 17 (.t 14) (.c (.d true (.bool true))) (.t 16)), none⟩] [])
def c_unroll_made_l1 : C :=
(.seq (.rg 11 false [] [⟨(.bin 41 .lss (.t 40) (.t 39)), none⟩] [])
 (.seq (.cond (.t 41) .skip (.exit 2))
 (.seq (.block 3 (.seq (.rg 12 false [(.kill 8 9)] [⟨(.ix 42 (.t 38) (.t 40) 2), none⟩, ⟨(.load 43 (.t 42) 3), none⟩, ⟨(.alloc 11 8 [(.k (.int .i64 0)), (.k (.int .i64 0))]), none⟩, ⟨(.store (.t 11) (.t 43) 3), none⟩] [])
 (.rg 13 false [(.kill 9 10)] [⟨(.mv 44 (.t 2)), none⟩, ⟨(.mv 45 (.t 9)), none⟩, ⟨(.fad 46 (.t 11) 0 0), none⟩, ⟨(.load 47 (.t 46) 0), none⟩, ⟨(.call 48 k_unroll_lit [(.t 45), (.t 47)] none), none⟩, ⟨(.bsl 49 9 1 1 (.k (.int .i64 0)) [(0, (.t 48))]), none⟩, ⟨(.app 50 10 1 (.t 44) (.t 49)), none⟩, ⟨(.mv 2 (.t 50)), none⟩] [])))
 (.rg 14 false [] [⟨(.bin 51 .add (.t 40) (.c (.d true (.int .i64 1)))), none⟩, ⟨(.mv 40 (.t 51)), none⟩] []))))
def c_unroll_made_l2 : C :=
(.seq (.rg 5 false [] [⟨(.bin 21 .lss (.t 20) (.t 19)), none⟩] [])
 (.seq (.cond (.t 21) .skip (.exit 0))
 (.seq (.block 1 (.seq (.seq (.rg 6 false [] [⟨(.load 22 (.t 3) 6), none⟩, ⟨(.mv 23 (.t 2)), none⟩, ⟨(.call 24 k_unroll_frames_frame [(.t 8), (.t 22), (.t 23)] none), none⟩, ⟨(.un 25 .not (.t 24)), none⟩] [])
 (.cond (.t 25) (.seq (.rg 7 false [] [⟨(.bld 26 [(.k (.int .i64 0)), (.n 1), (.n 1)] []), none⟩, ⟨(.store (.t 6) (.t 26) 4), none⟩, ⟨(.mv 7 (.c (.d true (.int .i64 4)))), none⟩] [])
 .ret) .skip))
 (.seq (.rg 8 false [] [⟨(.fad 27 (.t 8) 0 4), none⟩, ⟨(.fad 28 (.t 27) 1 0), none⟩, ⟨(.load 29 (.t 28) 0), none⟩, ⟨(.fad 30 (.t 8) 0 4), none⟩, ⟨(.fad 31 (.t 30) 1 0), none⟩, ⟨(.load 32 (.t 31) 0), none⟩, ⟨(.len 33 (.t 32)), none⟩, ⟨(.bin 34 .sub (.t 33) (.c (.d true (.int .i64 1)))), none⟩, ⟨(.ix 35 (.t 29) (.t 34) 1), none⟩, ⟨(.load 36 (.t 35) 0), none⟩, ⟨(.mv 9 (.t 36)), none⟩] [])
 (.seq (.rg 9 false [(.kill 7 8)] [⟨(.nilr 2 7 1), none⟩] [])
 (.seq (.rg 10 false [] [⟨(.fad 37 (.t 3) 1 0), none⟩, ⟨(.load 38 (.t 37) 0), none⟩, ⟨(.len 39 (.t 38)), none⟩, ⟨(.mv 40 (.c (.d true (.int .i64 0)))), none⟩] [])
 (.block 2 (.loop c_unroll_made_l1)))))))
 (.rg 15 false [] [⟨(.bin 52 .add (.t 20) (.c (.d true (.int .i64 1)))), none⟩, ⟨(.mv 20 (.t 52)), none⟩] []))))
def c_unroll_made : C :=
(.seq (.rg 0 false [] [⟨(.box 3 0 (.t 0) 6), none⟩, ⟨(.alloc 6 1 [(.k (.int .i64 0)), (.r 2 1), (.r 3 1)]), none⟩, ⟨(.mv 7 (.c (.d true (.int .i64 0)))), none⟩] [])
 (.seq (.seq c_unroll_made_p1
 (.cond (.t 17) (.seq (.rg 2 false [] [⟨(.bld 18 [(.k (.int .i64 0)), (.n 1), (.n 1)] []), none⟩, ⟨(.store (.t 6) (.t 18) 4), none⟩, ⟨(.mv 7 (.c (.d true (.int .i64 2)))), none⟩] [])
 .ret) .skip))
 (.seq (.rg 3 false [] [⟨(.alloc 8 4 [(.k (.int .i64 0)), (.r 5 1), (.r 6 1)]), none⟩] [])
 (.seq (.seq (.rg 4 false [] [⟨(.mv 19 (.t 1)), none⟩, ⟨(.mv 20 (.c (.d true (.int .i64 0)))), none⟩] [])
 (.block 0 (.loop c_unroll_made_l2)))
 (.seq (.rg 16 false [] [⟨(.fad 53 (.t 8) 0 4), none⟩, ⟨(.load 54 (.t 53) 4), none⟩, ⟨(.store (.t 6) (.t 54) 4), none⟩, ⟨(.mv 7 (.c (.d true (.int .i64 0)))), none⟩] [])
 .ret)))))
def n_unroll_made : Fn := ⟨c_unroll_made, [.c 6 4, .s 7], (some [false, false, false])⟩
def c_ref23_Asked_p1 : C :=
(.rg 4 false [] [⟨(.mv 17 (.t 1)), none⟩, ⟨(.bin 18 .lss (.t 17) (.c (.d true (.int .i64 1)))), none⟩, ⟨(.mv 19 (.t 18)), none⟩, ⟨(.mv 20 (.t 1)), (some (19, false))⟩, ⟨(.bin 21 .gtr (.t 20) (.c (.d true (.int .i64 100)))), (some (19, false))⟩, ⟨(.pick 22 (.t 19) (.c (.d true (.bool true))) (.t 21)), none⟩] [])
def c_ref23_Asked : C :=
(.seq (.rg 0 false [] [⟨(.box 3 0 (.t 0) 6), none⟩, ⟨(.alloc 6 1 [(.k (.int .i64 0)), (.r 2 1), (.r 3 1)]), none⟩, ⟨(.mv 7 (.c (.d true (.int .i64 0)))), none⟩] [])
 (.seq (.seq (.rg 1 false [] [⟨(.load 11 (.t 3) 6), none⟩, ⟨(.call 12 k_ref02_Check [(.t 11)] none), none⟩, ⟨(.mv 8 (.t 12)), none⟩] [])
 (.seq (.rg 2 false [] [⟨(.mv 13 (.t 8)), none⟩, ⟨(.bin 14 .neq (.t 13) (.c (.d true (.int .i64 0)))), none⟩] [])
 (.cond (.t 14) (.seq (.rg 3 false [] [⟨(.bld 15 [(.k (.int .i64 0)), (.n 1), (.n 1)] []), none⟩, ⟨(.mv 16 (.t 8)), none⟩, ⟨(.store (.t 6) (.t 15) 4), none⟩, ⟨(.mv 7 (.t 16)), none⟩] [])
 .ret) .skip)))
 (.seq (.seq c_ref23_Asked_p1
 (.cond (.t 22) (.seq (.rg 5 false [] [⟨(.bld 23 [(.k (.int .i64 0)), (.n 1), (.n 1)] []), none⟩, ⟨(.store (.t 6) (.t 23) 4), none⟩, ⟨(.mv 7 (.c (.d true (.int .i64 2)))), none⟩] [])
 .ret) .skip))
 (.seq (.rg 6 false [] [⟨(.load 25 (.t 3) 6), none⟩, ⟨(.mv 26 (.t 1)), none⟩, ⟨(.mv 27 (.t 2)), none⟩, ⟨(.call 28 k_ref23_Made [(.t 25), (.t 26), (.t 27)] none), none⟩, ⟨(.mv 24 (.t 28)), none⟩, ⟨(.xt 29 (.t 24) 0), none⟩, ⟨(.xt 30 (.t 24) 1), none⟩, ⟨(.alloc 9 4 [(.k (.int .i64 0)), (.n 1), (.n 1)]), none⟩, ⟨(.store (.t 9) (.t 29) 4), none⟩, ⟨(.mv 10 (.t 30)), none⟩] [])
 (.seq (.seq (.rg 7 false [] [⟨(.mv 31 (.t 10)), none⟩, ⟨(.un 32 .not (.t 31)), none⟩] [])
 (.cond (.t 32) (.seq (.rg 8 false [] [⟨(.bld 33 [(.k (.int .i64 0)), (.n 1), (.n 1)] []), none⟩, ⟨(.store (.t 6) (.t 33) 4), none⟩, ⟨(.mv 7 (.c (.d true (.int .i64 4)))), none⟩] [])
 .ret) .skip))
 (.seq (.rg 9 false [] [⟨(.load 34 (.t 9) 4), none⟩, ⟨(.store (.t 6) (.t 34) 4), none⟩, ⟨(.mv 7 (.c (.d true (.int .i64 0)))), none⟩] [])
 .ret))))))
def n_ref23_Asked : Fn := ⟨c_ref23_Asked, [.c 6 4, .s 7], (some [false, false, false])⟩
def c_ref02_literals_p1 : C :=
(.rg 4 false [] [⟨(.mv 12 (.t 0)), none⟩, ⟨(.mv 13 (.t 5)), none⟩, ⟨(.ix 14 (.t 12) (.t 13) 1), none⟩, ⟨(.load 15 (.t 14) 0), none⟩, ⟨(.bin 16 .lss (.t 15) (.c (.d true (.int .i64 0)))), none⟩, ⟨(.mv 17 (.t 16)), none⟩, ⟨(.mv 18 (.t 0)), (some (17, false))⟩, ⟨(.mv 19 (.t 5)), (some (17, false))⟩, ⟨(.ix 20 (.t 18) (.t 19) 1), (some (17, false))⟩, ⟨(.load 21 (.t 20) 0), (some (17, false))⟩, ⟨(.bin 22 .quo (.t 21) (.c (.d true (.int .i64 2)))), (some (17, false))⟩, ⟨(.mv 23 (.t 1)), (some (17, false))⟩, ⟨(.bin 24 .gtr (.t 22) (.t 23)), (some (17, false))⟩, ⟨(.pick 25 (.t 17) (.c (.d true (.bool true))) (.t 24)), none⟩] [])
def c_ref02_literals_l1 : C :=
(.seq (.seq (.rg 2 false [] [⟨(.mv 6 (.t 5)), none⟩, ⟨(.mv 7 (.t 0)), none⟩, ⟨(.len 8 (.t 7)), none⟩, ⟨(.bin 9 .lss (.t 6) (.t 8)), none⟩] [])
 (.cond (.t 9) .skip (.exit 0)))
 (.seq (.block 1 (.seq c_ref02_literals_p1
 (.cond (.t 25) (.seq (.rg 5 false [] [⟨(.mv 4 (.c (.d true (.bool false)))), none⟩] [])
 .ret) .skip)))
 (.rg 3 false [] [⟨(.mv 10 (.t 5)), none⟩, ⟨(.bin 11 .add (.t 10) (.c (.d true (.int .i64 1)))), none⟩, ⟨(.mv 5 (.t 11)), none⟩] [])))
def c_ref02_literals : C :=
(.seq (.rg 0 false [] [⟨(.mv 4 (.c (.d true (.bool false)))), none⟩] [])
 (.seq (.seq (.rg 1 false [] [⟨(.mv 5 (.c (.d true (.int .i64 0)))), none⟩] [])
 (.block 0 (.loop c_ref02_literals_l1)))
 (.seq (.rg 6 false [] [⟨(.mv 4 (.c (.d true (.bool true)))), none⟩] [])
 .ret)))
def n_ref02_literals : Fn := ⟨c_ref02_literals, [.s 4], (some [false, false])⟩
def c_gates_Vars : C :=
(.seq (.rg 0 false [] [⟨.box 1 0 (.t 0) 6, none⟩, ⟨.mv 2 (.c (.d true (.int .i64 0))), none⟩, ⟨.mv 3 (.c (.d true (.int .i64 0))), none⟩] [])
 (.seq (.seq (.rg 1 false [] [⟨.load 5 (.t 1) 6, none⟩, ⟨.call 6 k_gates_Check [(.t 5)] none, none⟩, ⟨.mv 4 (.t 6), none⟩] [])
 (.seq (.rg 2 false [] [⟨.mv 7 (.t 4), none⟩, ⟨.bin 8 .neq (.t 7) (.c (.d true (.int .i64 0))), none⟩] [])
 (.cond (.t 8) (.seq (.rg 3 false [] [⟨.mv 9 (.t 4), none⟩, ⟨.mv 2 (.c (.d true (.int .i64 0))), none⟩, ⟨.mv 3 (.t 9), none⟩] [])
 .ret) .skip)))
 (.seq (.rg 4 false [] [⟨.load 10 (.t 1) 6, none⟩, ⟨.call 11 k_gates_starts [(.t 10)] none, none⟩, ⟨.ixa 12 (.t 11) (.c (.d true (.int .i64 3))) 4 0, none⟩, ⟨.bin 13 .sub (.t 12) (.c (.d true (.int .i64 1))), none⟩, ⟨.mv 2 (.t 13), none⟩, ⟨.mv 3 (.c (.d true (.int .i64 0))), none⟩] [])
 .ret)))
def n_gates_Vars : Fn := ⟨c_gates_Vars, [.s 2, .s 3], (some [false])⟩
def c_tseitin_Check_p1 : C :=
(.rg 3 false [] [⟨(.fad 13 (.t 1) 0 0), none⟩, ⟨(.load 14 (.t 13) 0), none⟩, ⟨(.bin 15 .lss (.t 14) (.c (.d true (.int .i64 0)))), none⟩, ⟨(.mv 16 (.t 15)), none⟩, ⟨(.fad 17 (.t 1) 0 0), (some (16, false))⟩, ⟨(.load 18 (.t 17) 0), (some (16, false))⟩, ⟨(.bin 19 .gtr (.t 18) (.c (.d true (.int .i64 4000)))), (some (16, false))⟩, ⟨(.pick 20 (.t 16) (.c (.d true (.bool true))) (.t 19)), none⟩] [])
def c_tseitin_Check_p2 : C :=
(.rg 8 false [] [⟨(.mv 28 (.t 4)), none⟩, ⟨(.len 29 (.t 28)), none⟩, ⟨(.bin 30 .eql (.t 29) (.c (.d true (.int .i64 0)))), none⟩, ⟨(.mv 31 (.t 30)), none⟩, ⟨(.mv 32 (.t 4)), (some (31, false))⟩, ⟨(.len 33 (.t 32)), (some (31, false))⟩, ⟨(.fad 34 (.t 1) 1 0), (some (31, false))⟩, ⟨(.load 35 (.t 34) 0), (some (31, false))⟩, ⟨(.ix 36 (.t 35) (.c (.d true (.int .i64 0))) 1), (some (31, false))⟩, ⟨(.load 37 (.t 36) 0), (some (31, false))⟩, ⟨(.len 38 (.t 37)), (some (31, false))⟩, ⟨(.bin 39 .neq (.t 33) (.t 38)), (some (31, false))⟩, ⟨(.pick 40 (.t 31) (.c (.d true (.bool true))) (.t 39)), none⟩, ⟨(.mv 41 (.t 40)), none⟩, ⟨(.mv 42 (.t 4)), (some (41, false))⟩, ⟨(.ix 43 (.t 42) (.c (.d true (.int .i64 0))) 1), (some (41, false))⟩, ⟨(.load 44 (.t 43) 0), (some (41, false))⟩, ⟨(.bin 45 .neq (.t 44) (.c (.d true (.int .i64 0)))), (some (41, false))⟩, ⟨(.pick 46 (.t 41) (.c (.d true (.bool true))) (.t 45)), none⟩] [])
def c_tseitin_Check_p3 : C :=
(.rg 13 false [] [⟨(.mv 53 (.t 6)), none⟩, ⟨(.bin 54 .lss (.t 53) (.c (.d true (.int .i64 (-1))))), none⟩, ⟨(.mv 55 (.t 54)), none⟩, ⟨(.mv 56 (.t 6)), (some (55, false))⟩, ⟨(.fad 57 (.t 1) 0 0), (some (55, false))⟩, ⟨(.load 58 (.t 57) 0), (some (55, false))⟩, ⟨(.bin 59 .mul (.c (.d true (.int .i64 2))) (.t 58)), (some (55, false))⟩, ⟨(.bin 60 .add (.t 59) (.c (.d true (.int .i64 1)))), (some (55, false))⟩, ⟨(.bin 61 .gtr (.t 56) (.t 60)), (some (55, false))⟩, ⟨(.pick 62 (.t 55) (.c (.d true (.bool true))) (.t 61)), none⟩] [])
def c_tseitin_Check_l1 : C :=
(.seq (.rg 11 false [] [⟨(.bin 50 .lss (.t 49) (.t 48)), none⟩] [])
 (.seq (.cond (.t 50) .skip (.exit 2))
 (.seq (.block 3 (.seq (.rg 12 false [] [⟨(.ix 51 (.t 47) (.t 49) 1), none⟩, ⟨(.load 52 (.t 51) 0), none⟩, ⟨(.mv 6 (.t 52)), none⟩] [])
 (.seq c_tseitin_Check_p3
 (.cond (.t 62) (.seq (.rg 14 false [] [⟨(.mv 2 (.c (.d true (.int .i64 8)))), none⟩] [])
 .ret) .skip))))
 (.rg 15 false [] [⟨(.bin 63 .add (.t 49) (.c (.d true (.int .i64 1)))), none⟩, ⟨(.mv 49 (.t 63)), none⟩] []))))
def c_tseitin_Check_l2 : C :=
(.seq (.rg 6 false [] [⟨(.bin 25 .lss (.t 24) (.t 23)), none⟩] [])
 (.seq (.cond (.t 25) .skip (.exit 0))
 (.seq (.block 1 (.seq (.rg 7 false [] [⟨(.ix 26 (.t 22) (.t 24) 1), none⟩, ⟨(.load 27 (.t 26) 0), none⟩, ⟨(.mv 4 (.t 27)), none⟩] [])
 (.seq (.seq c_tseitin_Check_p2
 (.cond (.t 46) (.seq (.rg 9 false [] [⟨(.mv 2 (.c (.d true (.int .i64 8)))), none⟩] [])
 .ret) .skip))
 (.seq (.rg 10 false [] [⟨(.mv 47 (.t 4)), none⟩, ⟨(.len 48 (.t 47)), none⟩, ⟨(.mv 49 (.c (.d true (.int .i64 0)))), none⟩] [])
 (.block 2 (.loop c_tseitin_Check_l1))))))
 (.rg 16 false [] [⟨(.bin 64 .add (.t 24) (.c (.d true (.int .i64 1)))), none⟩, ⟨(.mv 24 (.t 64)), none⟩] []))))
def c_tseitin_Check_l3 : C :=
(.seq (.rg 18 false [] [⟨(.bin 69 .lss (.t 68) (.t 67)), none⟩] [])
 (.seq (.cond (.t 69) .skip (.exit 4))
 (.seq (.block 5 (.seq (.rg 19 false [] [⟨(.ix 70 (.t 66) (.t 68) 1), none⟩, ⟨(.load 71 (.t 70) 0), none⟩, ⟨(.mv 8 (.t 71)), none⟩] [])
 (.seq (.rg 20 false [] [⟨(.fad 72 (.t 1) 0 0), none⟩, ⟨(.load 73 (.t 72) 0), none⟩, ⟨(.mv 74 (.t 8)), none⟩, ⟨(.call 75 k_clause_Check [(.t 73), (.t 74)] none), none⟩, ⟨(.bin 76 .neq (.t 75) (.c (.d true (.int .i64 0)))), none⟩] [])
 (.cond (.t 76) (.seq (.rg 21 false [] [⟨(.mv 2 (.c (.d true (.int .i64 8)))), none⟩] [])
 .ret) .skip))))
 (.rg 22 false [] [⟨(.bin 77 .add (.t 68) (.c (.d true (.int .i64 1)))), none⟩, ⟨(.mv 68 (.t 77)), none⟩] []))))
def c_tseitin_Check : C :=
(.seq (.rg 0 false [] [⟨(.box 1 0 (.t 0) 4), none⟩, ⟨(.mv 2 (.c (.d true (.int .i64 0)))), none⟩] [])
 (.seq (.seq (.rg 1 false [] [⟨(.fad 9 (.t 1) 2 0), none⟩, ⟨(.load 10 (.t 9) 0), none⟩, ⟨(.len 11 (.t 10)), none⟩, ⟨(.bin 12 .gtr (.t 11) (.c (.d true (.int .i64 20000)))), none⟩] [])
 (.cond (.t 12) (.seq (.rg 2 false [] [⟨(.mv 2 (.c (.d true (.int .i64 4)))), none⟩] [])
 .ret) .skip))
 (.seq (.seq c_tseitin_Check_p1
 (.cond (.t 20) (.seq (.rg 4 false [] [⟨(.mv 2 (.c (.d true (.int .i64 8)))), none⟩] [])
 .ret) .skip))
 (.seq (.seq (.rg 5 false [] [⟨(.fad 21 (.t 1) 1 0), none⟩, ⟨(.load 22 (.t 21) 0), none⟩, ⟨(.len 23 (.t 22)), none⟩, ⟨(.mv 24 (.c (.d true (.int .i64 0)))), none⟩] [])
 (.block 0 (.loop c_tseitin_Check_l2)))
 (.seq (.seq (.rg 17 false [] [⟨(.fad 65 (.t 1) 2 0), none⟩, ⟨(.load 66 (.t 65) 0), none⟩, ⟨(.len 67 (.t 66)), none⟩, ⟨(.mv 68 (.c (.d true (.int .i64 0)))), none⟩] [])
 (.block 4 (.loop c_tseitin_Check_l3)))
 (.seq (.rg 23 false [] [⟨(.mv 2 (.c (.d true (.int .i64 0)))), none⟩] [])
 .ret))))))
def n_tseitin_Check : Fn := ⟨c_tseitin_Check, [.s 2], (some [false])⟩
def c_unroll_value : C :=
(.seq (.rg 0 false [] [⟨.mv 4 (.c (.d true (.bool false))), none⟩] [])
 (.seq (.seq (.rg 1 false [] [⟨.mv 5 (.t 0), none⟩, ⟨.bin 6 .lss (.t 5) (.c (.d true (.int .i64 2))), none⟩] [])
 (.cond (.t 6) (.seq (.rg 2 false [] [⟨.mv 7 (.t 0), none⟩, ⟨.bin 8 .eql (.t 7) (.c (.d true (.int .i64 1))), none⟩, ⟨.mv 4 (.t 8), none⟩] [])
 .ret) .skip))
 (.seq (.rg 3 false [] [⟨.mv 9 (.t 1), none⟩, ⟨.mv 10 (.t 0), none⟩, ⟨.bin 11 .quo (.t 10) (.c (.d true (.int .i64 2))), none⟩, ⟨.bin 12 .sub (.t 11) (.c (.d true (.int .i64 1))), none⟩, ⟨.ix 13 (.t 9) (.t 12) 1, none⟩, ⟨.load 14 (.t 13) 0, none⟩, ⟨.mv 15 (.t 0), none⟩, ⟨.bin 16 .rem (.t 15) (.c (.d true (.int .i64 2))), none⟩, ⟨.bin 17 .eql (.t 16) (.c (.d true (.int .i64 0))), none⟩, ⟨.beq 18 false (.t 14) (.t 17), none⟩, ⟨.mv 4 (.t 18), none⟩] [])
 .ret)))
def n_unroll_value : Fn := ⟨c_unroll_value, [.s 4], (some [false, false])⟩
def c_ref04_Same_l1 : C :=
(.seq (.seq (.rg 4 false [] [⟨.mv 11 (.t 5), none⟩, ⟨.mv 12 (.t 0), none⟩, ⟨.len 13 (.t 12), none⟩, ⟨.bin 14 .lss (.t 11) (.t 13), none⟩] [])
 (.cond (.t 14) .skip (.exit 0)))
 (.seq (.block 1 (.seq (.rg 6 true [] [⟨.mv 17 (.t 0), none⟩, ⟨.mv 18 (.t 5), none⟩, ⟨.ix 19 (.t 17) (.t 18) 1, none⟩, ⟨.load 20 (.t 19) 0, none⟩, ⟨.mv 21 (.t 1), none⟩, ⟨.mv 22 (.t 5), none⟩, ⟨.ix 23 (.t 21) (.t 22) 1, none⟩, ⟨.load 24 (.t 23) 0, none⟩, ⟨.beq 25 true (.t 20) (.t 24), none⟩] [])
 (.cond (.t 25) (.seq (.rg 7 false [] [⟨.mv 4 (.c (.d true (.bool false))), none⟩] [])
 .ret) .skip)))
 (.rg 5 false [] [⟨.mv 15 (.t 5), none⟩, ⟨.bin 16 .add (.t 15) (.c (.d true (.int .i64 1))), none⟩, ⟨.mv 5 (.t 16), none⟩] [])))
def c_ref04_Same : C :=
(.seq (.rg 0 false [] [⟨.mv 4 (.c (.d true (.bool false))), none⟩] [])
 (.seq (.seq (.rg 1 false [] [⟨.mv 6 (.t 0), none⟩, ⟨.len 7 (.t 6), none⟩, ⟨.mv 8 (.t 1), none⟩, ⟨.len 9 (.t 8), none⟩, ⟨.bin 10 .neq (.t 7) (.t 9), none⟩] [])
 (.cond (.t 10) (.seq (.rg 2 false [] [⟨.mv 4 (.c (.d true (.bool false))), none⟩] [])
 .ret) .skip))
 (.seq (.seq (.rg 3 false [] [⟨.mv 5 (.c (.d true (.int .i64 0))), none⟩] [])
 (.block 0 (.loop c_ref04_Same_l1)))
 (.seq (.rg 8 false [] [⟨.mv 4 (.c (.d true (.bool true))), none⟩] [])
 .ret))))
def n_ref04_Same : Fn := ⟨c_ref04_Same, [.s 4], (some [false, false])⟩
def c_ref06_SameAll_l1 : C :=
(.seq (.seq (.rg 4 false [] [⟨.mv 11 (.t 5), none⟩, ⟨.mv 12 (.t 0), none⟩, ⟨.len 13 (.t 12), none⟩, ⟨.bin 14 .lss (.t 11) (.t 13), none⟩] [])
 (.cond (.t 14) .skip (.exit 0)))
 (.seq (.block 1 (.seq (.rg 6 true [] [⟨.mv 17 (.t 0), none⟩, ⟨.mv 18 (.t 5), none⟩, ⟨.ix 19 (.t 17) (.t 18) 1, none⟩, ⟨.load 20 (.t 19) 0, none⟩, ⟨.mv 21 (.t 1), none⟩, ⟨.mv 22 (.t 5), none⟩, ⟨.ix 23 (.t 21) (.t 22) 1, none⟩, ⟨.load 24 (.t 23) 0, none⟩, ⟨.call 25 k_ref04_Same [(.t 20), (.t 24)] none, none⟩, ⟨.un 26 .not (.t 25), none⟩] [])
 (.cond (.t 26) (.seq (.rg 7 false [] [⟨.mv 4 (.c (.d true (.bool false))), none⟩] [])
 .ret) .skip)))
 (.rg 5 false [] [⟨.mv 15 (.t 5), none⟩, ⟨.bin 16 .add (.t 15) (.c (.d true (.int .i64 1))), none⟩, ⟨.mv 5 (.t 16), none⟩] [])))
def c_ref06_SameAll : C :=
(.seq (.rg 0 false [] [⟨.mv 4 (.c (.d true (.bool false))), none⟩] [])
 (.seq (.seq (.rg 1 false [] [⟨.mv 6 (.t 0), none⟩, ⟨.len 7 (.t 6), none⟩, ⟨.mv 8 (.t 1), none⟩, ⟨.len 9 (.t 8), none⟩, ⟨.bin 10 .neq (.t 7) (.t 9), none⟩] [])
 (.cond (.t 10) (.seq (.rg 2 false [] [⟨.mv 4 (.c (.d true (.bool false))), none⟩] [])
 .ret) .skip))
 (.seq (.seq (.rg 3 false [] [⟨.mv 5 (.c (.d true (.int .i64 0))), none⟩] [])
 (.block 0 (.loop c_ref06_SameAll_l1)))
 (.seq (.rg 8 false [] [⟨.mv 4 (.c (.d true (.bool true))), none⟩] [])
 .ret))))
def n_ref06_SameAll : Fn := ⟨c_ref06_SameAll, [.s 4], (some [false, false])⟩
def c_values_list_l1 : C :=
(.seq (.rg 6 false [] [⟨.bin 28 .lss (.t 27) (.t 26), none⟩] [])
 (.seq (.cond (.t 28) .skip (.exit 0))
 (.seq (.block 1 (.seq (.rg 7 false [] [⟨.mv 29 (.t 27), none⟩, ⟨.mv 15 (.t 29), none⟩] [])
 (.rg 8 false [.kill 2 3] [⟨.mv 30 (.t 14), none⟩, ⟨.mv 31 (.t 12), none⟩, ⟨.mv 32 (.t 4), none⟩, ⟨.mv 33 (.t 15), none⟩, ⟨.callv 34 (.t 32) [(.t 33)] none, none⟩, ⟨.call 35 k_values_of [(.t 31), (.t 34)] none, none⟩, ⟨.bsl 36 2 1 1 (.k (.bool false)) [(0, (.t 35))], none⟩, ⟨.app 37 3 1 (.t 30) (.t 36), none⟩, ⟨.mv 14 (.t 37), none⟩] [])))
 (.rg 9 false [] [⟨.bin 38 .add (.t 27) (.c (.d true (.int .i64 1))), none⟩, ⟨.mv 27 (.t 38), none⟩] []))))
def c_values_list : C :=
(.seq (.rg 0 false [] [⟨.box 5 0 (.t 0) 6, none⟩, ⟨.mv 10 (.c (.nil 1)), none⟩, ⟨.mv 11 (.c (.d true (.int .i64 0))), none⟩] [])
 (.seq (.rg 1 false [] [⟨.load 17 (.t 5) 6, none⟩, ⟨.mv 18 (.t 1), none⟩, ⟨.mv 19 (.t 2), none⟩, ⟨.call 20 k_values_All [(.t 17), (.t 18), (.t 19)] none, none⟩, ⟨.mv 16 (.t 20), none⟩, ⟨.xt 21 (.t 16) 0, none⟩, ⟨.xt 22 (.t 16) 1, none⟩, ⟨.mv 12 (.t 21), none⟩, ⟨.mv 13 (.t 22), none⟩] [])
 (.seq (.seq (.rg 2 false [] [⟨.mv 23 (.t 13), none⟩, ⟨.bin 24 .neq (.t 23) (.c (.d true (.int .i64 0))), none⟩] [])
 (.cond (.t 24) (.seq (.rg 3 false [] [⟨.mv 25 (.t 13), none⟩, ⟨.mv 10 (.c (.nil 1)), none⟩, ⟨.mv 11 (.t 25), none⟩] [])
 .ret) .skip))
 (.seq (.rg 4 false [] [⟨.nilr 14 1 1, none⟩] [])
 (.seq (.seq (.rg 5 false [] [⟨.mv 26 (.t 3), none⟩, ⟨.mv 27 (.c (.d true (.int .i64 0))), none⟩] [])
 (.block 0 (.loop c_values_list_l1)))
 (.seq (.rg 10 false [] [⟨.mv 39 (.t 14), none⟩, ⟨.mv 10 (.t 39), none⟩, ⟨.mv 11 (.c (.d true (.int .i64 0))), none⟩] [])
 .ret))))))
def n_values_list : Fn := ⟨c_values_list, [.s 10, .s 11], none⟩
def c_values_Next_1 : C :=
(.seq (.rg 0 false [] [⟨.mv 3 (.c (.d true (.int .i64 0))), none⟩] [])
 (.seq (.rg 1 false [] [⟨.fad 4 (.t 1) 1 0, none⟩, ⟨.load 5 (.t 4) 0, none⟩, ⟨.mv 6 (.t 0), none⟩, ⟨.ix 7 (.t 5) (.t 6) 2, none⟩, ⟨.fad 8 (.t 7) 0 0, none⟩, ⟨.load 9 (.t 8) 0, none⟩, ⟨.mv 3 (.t 9), none⟩] [])
 .ret))
def n_values_Next_1 : Fn := ⟨c_values_Next_1, [.s 3], none⟩
def c_ref13_Vars_p1 : C :=
(.rg 1 false [] [⟨(.mv 3 (.t 0)), none⟩, ⟨(.bin 4 .geq (.t 3) (.c (.d true (.int .i64 0)))), none⟩, ⟨(.mv 5 (.t 4)), none⟩, ⟨(.mv 6 (.t 0)), (some (5, true))⟩, ⟨(.bin 7 .leq (.t 6) (.c (.d true (.int .i64 4000)))), (some (5, true))⟩, ⟨(.pick 8 (.t 5) (.t 7) (.c (.d true (.bool false)))), none⟩, ⟨(.mv 2 (.t 8)), none⟩] [])
def c_ref13_Vars : C :=
(.seq (.rg 0 false [] [⟨(.mv 2 (.c (.d true (.bool false)))), none⟩] [])
 (.seq c_ref13_Vars_p1
 .ret))
def n_ref13_Vars : Fn := ⟨c_ref13_Vars, [.s 2], (some [false])⟩
def c_ref15_Wrong_l1 : C :=
(.seq (.seq (.rg 4 false [] [⟨.mv 10 (.t 5), none⟩, ⟨.mv 11 (.t 1), none⟩, ⟨.len 12 (.t 11), none⟩, ⟨.bin 13 .lss (.t 10) (.t 12), none⟩] [])
 (.cond (.t 13) .skip (.exit 0)))
 (.seq (.block 1 (.seq (.rg 6 false [] [⟨.mv 16 (.t 0), none⟩, ⟨.mv 17 (.t 1), none⟩, ⟨.mv 18 (.t 5), none⟩, ⟨.ix 19 (.t 17) (.t 18) 1, none⟩, ⟨.load 20 (.t 19) 0, none⟩, ⟨.call 21 k_ref13_Check [(.t 16), (.t 20)] none, none⟩, ⟨.mv 6 (.t 21), none⟩] [])
 (.seq (.rg 7 false [] [⟨.mv 22 (.t 6), none⟩, ⟨.bin 23 .neq (.t 22) (.c (.d true (.int .i64 0))), none⟩] [])
 (.cond (.t 23) (.seq (.rg 8 false [] [⟨.mv 24 (.t 6), none⟩, ⟨.mv 4 (.t 24), none⟩] [])
 .ret) .skip))))
 (.rg 5 false [] [⟨.mv 14 (.t 5), none⟩, ⟨.bin 15 .add (.t 14) (.c (.d true (.int .i64 1))), none⟩, ⟨.mv 5 (.t 15), none⟩] [])))
def c_ref15_Wrong : C :=
(.seq (.rg 0 false [] [⟨.mv 4 (.c (.d true (.int .i64 0))), none⟩] [])
 (.seq (.seq (.rg 1 false [] [⟨.mv 7 (.t 1), none⟩, ⟨.len 8 (.t 7), none⟩, ⟨.bin 9 .gtr (.t 8) (.c (.d true (.int .i64 20000))), none⟩] [])
 (.cond (.t 9) (.seq (.rg 2 false [] [⟨.mv 4 (.c (.d true (.int .i64 4))), none⟩] [])
 .ret) .skip))
 (.seq (.seq (.rg 3 false [] [⟨.mv 5 (.c (.d true (.int .i64 0))), none⟩] [])
 (.block 0 (.loop c_ref15_Wrong_l1)))
 (.seq (.rg 9 false [] [⟨.mv 4 (.c (.d true (.int .i64 0))), none⟩] [])
 .ret))))
def n_ref15_Wrong : Fn := ⟨c_ref15_Wrong, [.s 4], (some [false, false])⟩
def c_values_All_p1 : C :=
(.rg 4 false [] [⟨(.mv 21 (.t 1)), none⟩, ⟨(.len 22 (.t 21)), none⟩, ⟨(.fad 23 (.t 3) 1 0), none⟩, ⟨(.load 24 (.t 23) 0), none⟩, ⟨(.len 25 (.t 24)), none⟩, ⟨(.bin 26 .neq (.t 22) (.t 25)), none⟩, ⟨(.mv 27 (.t 26)), none⟩, ⟨(.mv 28 (.t 2)), (some (27, false))⟩, ⟨(.len 29 (.t 28)), (some (27, false))⟩, ⟨(.fad 30 (.t 3) 0 0), (some (27, false))⟩, ⟨(.load 31 (.t 30) 0), (some (27, false))⟩, ⟨(.bin 32 .neq (.t 29) (.t 31)), (some (27, false))⟩, ⟨(.pick 33 (.t 27) (.c (.d true (.bool true))) (.t 32)), none⟩] [])
def c_values_All_p2 : C :=
(.block 1 (.seq (.rg 12 false [] [⟨(.mv 64 (.t 62)), none⟩, ⟨(.mv 12 (.t 64)), none⟩] [])
 (.rg 13 false [] [⟨(.mv 65 (.t 10)), none⟩, ⟨(.mv 66 (.t 11)), none⟩, ⟨(.mv 67 (.t 12)), none⟩, ⟨(.bin 68 .add (.t 66) (.t 67)), none⟩, ⟨(.mv 69 (.t 10)), none⟩, ⟨(.fad 70 (.t 3) 2 0), none⟩, ⟨(.load 71 (.t 70) 0), none⟩, ⟨(.mv 72 (.t 12)), none⟩, ⟨(.ix 73 (.t 71) (.t 72) 2), none⟩, ⟨(.fad 74 (.t 73) 0 0), none⟩, ⟨(.load 75 (.t 74) 0), none⟩, ⟨(.call 76 k_values_of [(.t 69), (.t 75)] none), none⟩, ⟨(.mv 77 (.t 76)), none⟩, ⟨(.mv 78 (.t 10)), (some (77, true))⟩, ⟨(.fad 79 (.t 3) 2 0), (some (77, true))⟩, ⟨(.load 80 (.t 79) 0), (some (77, true))⟩, ⟨(.mv 81 (.t 12)), (some (77, true))⟩, ⟨(.ix 82 (.t 80) (.t 81) 2), (some (77, true))⟩, ⟨(.fad 83 (.t 82) 1 0), (some (77, true))⟩, ⟨(.load 84 (.t 83) 0), (some (77, true))⟩, ⟨(.call 85 k_values_of [(.t 78), (.t 84)] none), (some (77, true))⟩, ⟨(.pick 86 (.t 77) (.t 85) (.c (.d true (.bool false)))), none⟩, ⟨(.ix 87 (.t 65) (.t 68) 1), none⟩, ⟨(.store (.t 87) (.t 86) 0), none⟩] [])))
def c_values_All_l1 : C :=
(.seq (.rg 11 false [] [⟨(.bin 63 .lss (.t 62) (.t 61)), none⟩] [])
 (.seq (.cond (.t 63) .skip (.exit 0))
 (.seq c_values_All_p2
 (.rg 14 false [] [⟨(.bin 88 .add (.t 62) (.c (.d true (.int .i64 1)))), none⟩, ⟨(.mv 62 (.t 88)), none⟩] []))))
def c_values_All : C :=
(.seq (.rg 0 false [] [⟨(.box 3 0 (.t 0) 6), none⟩, ⟨(.mv 6 (.c (.nil 1))), none⟩, ⟨(.mv 7 (.c (.d true (.int .i64 0)))), none⟩] [])
 (.seq (.rg 1 false [] [⟨(.load 14 (.t 3) 6), none⟩, ⟨(.call 15 k_gates_Vars [(.t 14)] none), none⟩, ⟨(.mv 13 (.t 15)), none⟩, ⟨(.xt 16 (.t 13) 0), none⟩, ⟨(.xt 17 (.t 13) 1), none⟩, ⟨(.mv 8 (.t 16)), none⟩, ⟨(.mv 9 (.t 17)), none⟩] [])
 (.seq (.seq (.rg 2 false [] [⟨(.mv 18 (.t 9)), none⟩, ⟨(.bin 19 .neq (.t 18) (.c (.d true (.int .i64 0)))), none⟩] [])
 (.cond (.t 19) (.seq (.rg 3 false [] [⟨(.mv 20 (.t 9)), none⟩, ⟨(.mv 6 (.c (.nil 1))), none⟩, ⟨(.mv 7 (.t 20)), none⟩] [])
 .ret) .skip))
 (.seq (.seq c_values_All_p1
 (.cond (.t 33) (.seq (.rg 5 false [] [⟨(.mv 6 (.c (.nil 1))), none⟩, ⟨(.mv 7 (.c (.d true (.int .i64 2)))), none⟩] [])
 .ret) .skip))
 (.seq (.rg 6 false [] [⟨(.mv 34 (.t 8)), none⟩, ⟨(.bin 35 .add (.t 34) (.c (.d true (.int .i64 1)))), none⟩, ⟨(.mks 36 1 1 (.t 35) (.t 35) (.k (.bool false))), none⟩, ⟨(.mv 10 (.t 36)), none⟩] [])
 (.seq (.rg 7 false [] [⟨(.mv 37 (.t 10)), none⟩, ⟨(.slc 38 1 (.t 37) (some (.c (.d true (.int .i64 1)))) none none), none⟩, ⟨(.mv 39 (.t 2)), none⟩, ⟨(.cpy 40 1 (.t 38) (.t 39)), none⟩, ⟨(.bin 41 .add (.c (.d true (.int .i64 1))) (.t 40)), none⟩, ⟨(.mv 11 (.t 41)), none⟩] [])
 (.seq (.rg 8 false [] [⟨(.mv 42 (.t 10)), none⟩, ⟨(.mv 43 (.t 11)), none⟩, ⟨(.mv 44 (.t 11)), none⟩, ⟨(.mv 45 (.t 1)), none⟩, ⟨(.len 46 (.t 45)), none⟩, ⟨(.bin 47 .add (.t 44) (.t 46)), none⟩, ⟨(.mv 48 (.t 11)), none⟩, ⟨(.mv 49 (.t 1)), none⟩, ⟨(.len 50 (.t 49)), none⟩, ⟨(.bin 51 .add (.t 48) (.t 50)), none⟩, ⟨(.slc 52 1 (.t 42) (some (.t 43)) (some (.t 47)) (some (.t 51))), none⟩, ⟨(.mv 53 (.t 1)), none⟩, ⟨(.cpy 54 1 (.t 52) (.t 53)), none⟩] [])
 (.seq (.rg 9 false [] [⟨(.mv 55 (.t 11)), none⟩, ⟨(.mv 56 (.t 1)), none⟩, ⟨(.len 57 (.t 56)), none⟩, ⟨(.bin 58 .add (.t 55) (.t 57)), none⟩, ⟨(.mv 11 (.t 58)), none⟩] [])
 (.seq (.seq (.rg 10 false [] [⟨(.fad 59 (.t 3) 2 0), none⟩, ⟨(.load 60 (.t 59) 0), none⟩, ⟨(.len 61 (.t 60)), none⟩, ⟨(.mv 62 (.c (.d true (.int .i64 0)))), none⟩] [])
 (.block 0 (.loop c_values_All_l1)))
 (.seq (.rg 15 false [] [⟨(.mv 89 (.t 10)), none⟩, ⟨(.mv 6 (.t 89)), none⟩, ⟨(.mv 7 (.c (.d true (.int .i64 0)))), none⟩] [])
 .ret))))))))))
def n_values_All : Fn := ⟨c_values_All, [.s 6, .s 7], (some [false, false, false])⟩
def c_ref22_True : C :=
(.seq (.rg 0 false [] [⟨.mv 4 (.c (.d true (.bool false))), none⟩] [])
 (.seq (.seq (.rg 1 false [] [⟨.mv 5 (.t 0), none⟩, ⟨.bin 6 .lss (.t 5) (.c (.d true (.int .i64 2))), none⟩] [])
 (.cond (.t 6) (.seq (.rg 2 false [] [⟨.mv 7 (.t 0), none⟩, ⟨.bin 8 .eql (.t 7) (.c (.d true (.int .i64 1))), none⟩, ⟨.mv 4 (.t 8), none⟩] [])
 .ret) .skip))
 (.seq (.rg 3 false [] [⟨.mv 9 (.t 0), none⟩, ⟨.mv 10 (.t 1), none⟩, ⟨.call 11 k_ref13_Truth [(.t 9), (.t 10)] none, none⟩, ⟨.mv 4 (.t 11), none⟩] [])
 .ret)))
def n_ref22_True : Fn := ⟨c_ref22_True, [.s 4], (some [false, false])⟩
def c_solve_check_l1 : C :=
(.seq (.rg 4 false [] [⟨.bin 13 .lss (.t 12) (.t 11), none⟩] [])
 (.seq (.cond (.t 13) .skip (.exit 0))
 (.seq (.block 1 (.seq (.rg 5 false [] [⟨.ix 14 (.t 10) (.t 12) 1, none⟩, ⟨.load 15 (.t 14) 0, none⟩, ⟨.mv 6 (.t 15), none⟩] [])
 (.seq (.rg 6 false [] [⟨.mv 16 (.t 0), none⟩, ⟨.mv 17 (.t 6), none⟩, ⟨.call 18 k_clause_Check [(.t 16), (.t 17)] none, none⟩, ⟨.bin 19 .neq (.t 18) (.c (.d true (.int .i64 0))), none⟩] [])
 (.cond (.t 19) (.seq (.rg 7 false [] [⟨.mv 4 (.c (.d true (.int .i64 8))), none⟩] [])
 .ret) .skip))))
 (.rg 8 false [] [⟨.bin 20 .add (.t 12) (.c (.d true (.int .i64 1))), none⟩, ⟨.mv 12 (.t 20), none⟩] []))))
def c_solve_check : C :=
(.seq (.rg 0 false [] [⟨.mv 4 (.c (.d true (.int .i64 0))), none⟩] [])
 (.seq (.seq (.rg 1 false [] [⟨.mv 7 (.t 1), none⟩, ⟨.len 8 (.t 7), none⟩, ⟨.bin 9 .gtr (.t 8) (.c (.d true (.int .i64 20000))), none⟩] [])
 (.cond (.t 9) (.seq (.rg 2 false [] [⟨.mv 4 (.c (.d true (.int .i64 4))), none⟩] [])
 .ret) .skip))
 (.seq (.seq (.rg 3 false [] [⟨.mv 10 (.t 1), none⟩, ⟨.len 11 (.t 10), none⟩, ⟨.mv 12 (.c (.d true (.int .i64 0))), none⟩] [])
 (.block 0 (.loop c_solve_check_l1)))
 (.seq (.rg 9 false [] [⟨.mv 4 (.c (.d true (.int .i64 0))), none⟩] [])
 .ret))))
def n_solve_check : Fn := ⟨c_solve_check, [.s 4], (some [false, false])⟩
def c_clause_True_l1 : C :=
(.seq (.rg 5 false [] [⟨.bin 19 .lss (.t 18) (.t 17), none⟩] [])
 (.seq (.cond (.t 19) .skip (.exit 0))
 (.seq (.block 1 (.seq (.rg 6 false [] [⟨.ix 20 (.t 16) (.t 18) 1, none⟩, ⟨.load 21 (.t 20) 0, none⟩, ⟨.mv 8 (.t 21), none⟩] [])
 (.seq (.rg 7 false [] [⟨.mv 22 (.t 1), none⟩, ⟨.mv 23 (.t 8), none⟩, ⟨.bin 24 .quo (.t 23) (.c (.d true (.int .i64 2))), none⟩, ⟨.bin 25 .sub (.t 24) (.c (.d true (.int .i64 1))), none⟩, ⟨.ix 26 (.t 22) (.t 25) 1, none⟩, ⟨.load 27 (.t 26) 0, none⟩, ⟨.mv 28 (.t 8), none⟩, ⟨.bin 29 .rem (.t 28) (.c (.d true (.int .i64 2))), none⟩, ⟨.bin 30 .eql (.t 29) (.c (.d true (.int .i64 0))), none⟩, ⟨.beq 31 false (.t 27) (.t 30), none⟩] [])
 (.cond (.t 31) (.seq (.rg 8 false [] [⟨.mv 4 (.c (.d true (.bool true))), none⟩, ⟨.mv 5 (.c (.d true (.int .i64 0))), none⟩] [])
 .ret) .skip))))
 (.rg 9 false [] [⟨.bin 32 .add (.t 18) (.c (.d true (.int .i64 1))), none⟩, ⟨.mv 18 (.t 32), none⟩] []))))
def c_clause_True : C :=
(.seq (.rg 0 false [] [⟨.mv 4 (.c (.d true (.bool false))), none⟩, ⟨.mv 5 (.c (.d true (.int .i64 0))), none⟩] [])
 (.seq (.seq (.rg 1 false [] [⟨.mv 9 (.t 1), none⟩, ⟨.len 10 (.t 9), none⟩, ⟨.mv 11 (.t 0), none⟩, ⟨.call 12 k_clause_Check [(.t 10), (.t 11)] none, none⟩, ⟨.mv 6 (.t 12), none⟩] [])
 (.seq (.rg 2 false [] [⟨.mv 13 (.t 6), none⟩, ⟨.bin 14 .neq (.t 13) (.c (.d true (.int .i64 0))), none⟩] [])
 (.cond (.t 14) (.seq (.rg 3 false [] [⟨.mv 15 (.t 6), none⟩, ⟨.mv 4 (.c (.d true (.bool false))), none⟩, ⟨.mv 5 (.t 15), none⟩] [])
 .ret) .skip)))
 (.seq (.seq (.rg 4 false [] [⟨.mv 16 (.t 0), none⟩, ⟨.len 17 (.t 16), none⟩, ⟨.mv 18 (.c (.d true (.int .i64 0))), none⟩] [])
 (.block 0 (.loop c_clause_True_l1)))
 (.seq (.rg 10 false [] [⟨.mv 4 (.c (.d true (.bool false))), none⟩, ⟨.mv 5 (.c (.d true (.int .i64 0))), none⟩] [])
 .ret))))
def n_clause_True : Fn := ⟨c_clause_True, [.s 4, .s 5], (some [false, false])⟩
def c_clause_known_p1 : C :=
(.rg 1 false [] [⟨(.mv 5 (.t 1)), none⟩, ⟨(.bin 6 .geq (.t 5) (.c (.d true (.int .i64 2)))), none⟩, ⟨(.mv 7 (.t 6)), none⟩, ⟨(.mv 8 (.t 1)), (some (7, true))⟩, ⟨(.bin 9 .quo (.t 8) (.c (.d true (.int .i64 2)))), (some (7, true))⟩, ⟨(.mv 10 (.t 0)), (some (7, true))⟩, ⟨(.bin 11 .leq (.t 9) (.t 10)), (some (7, true))⟩, ⟨(.pick 12 (.t 7) (.t 11) (.c (.d true (.bool false)))), none⟩, ⟨(.mv 4 (.t 12)), none⟩] [])
def c_clause_known : C :=
(.seq (.rg 0 false [] [⟨(.mv 4 (.c (.d true (.bool false)))), none⟩] [])
 (.seq c_clause_known_p1
 .ret))
def n_clause_known : Fn := ⟨c_clause_known, [.s 4], (some [false, false])⟩
def c_ref13_Lit_p1 : C :=
(.rg 1 false [] [⟨(.mv 5 (.t 1)), none⟩, ⟨(.bin 6 .geq (.t 5) (.c (.d true (.int .i64 2)))), none⟩, ⟨(.mv 7 (.t 6)), none⟩, ⟨(.mv 8 (.t 1)), (some (7, true))⟩, ⟨(.mv 9 (.t 0)), (some (7, true))⟩, ⟨(.bin 10 .mul (.c (.d true (.int .i64 2))) (.t 9)), (some (7, true))⟩, ⟨(.bin 11 .add (.t 10) (.c (.d true (.int .i64 1)))), (some (7, true))⟩, ⟨(.bin 12 .leq (.t 8) (.t 11)), (some (7, true))⟩, ⟨(.pick 13 (.t 7) (.t 12) (.c (.d true (.bool false)))), none⟩, ⟨(.mv 4 (.t 13)), none⟩] [])
def c_ref13_Lit : C :=
(.seq (.rg 0 false [] [⟨(.mv 4 (.c (.d true (.bool false)))), none⟩] [])
 (.seq c_ref13_Lit_p1
 .ret))
def n_ref13_Lit : Fn := ⟨c_ref13_Lit, [.s 4], (some [false, false])⟩
def c_slices_IndexFunc_of_int_l1 : C :=
(.seq (.rg 2 false [] [⟨.bin 9 .lss (.t 8) (.t 7), none⟩] [])
 (.seq (.cond (.t 9) .skip (.exit 0))
 (.seq (.block 1 (.seq (.rg 3 false [] [⟨.mv 10 (.t 8), none⟩, ⟨.mv 5 (.t 10), none⟩] [])
 (.seq (.rg 4 false [] [⟨.mv 11 (.t 1), none⟩, ⟨.mv 12 (.t 0), none⟩, ⟨.mv 13 (.t 5), none⟩, ⟨.ix 14 (.t 12) (.t 13) 1, none⟩, ⟨.load 15 (.t 14) 0, none⟩, ⟨.callv 16 (.t 11) [(.t 15)] none, none⟩] [])
 (.cond (.t 16) (.seq (.rg 5 false [] [⟨.mv 17 (.t 5), none⟩, ⟨.mv 4 (.t 17), none⟩] [])
 .ret) .skip))))
 (.rg 6 false [] [⟨.bin 18 .add (.t 8) (.c (.d true (.int .i64 1))), none⟩, ⟨.mv 8 (.t 18), none⟩] []))))
def c_slices_IndexFunc_of_int : C :=
(.seq (.rg 0 false [] [⟨.mv 4 (.c (.d true (.int .i64 0))), none⟩] [])
 (.seq (.seq (.rg 1 false [] [⟨.mv 6 (.t 0), none⟩, ⟨.len 7 (.t 6), none⟩, ⟨.mv 8 (.c (.d true (.int .i64 0))), none⟩] [])
 (.block 0 (.loop c_slices_IndexFunc_of_int_l1)))
 (.seq (.rg 7 false [] [⟨.mv 4 (.c (.d true (.int .i64 (-1)))), none⟩] [])
 .ret)))
def n_slices_IndexFunc_of_int : Fn := ⟨c_slices_IndexFunc_of_int, [.s 4], none⟩
def c_gates_starts : C :=
(.seq (.rg 0 false [] [⟨.box 1 0 (.t 0) 6, none⟩, ⟨.alloc 2 1 [.k (.int .i64 0), .k (.int .i64 0), .k (.int .i64 0), .k (.int .i64 0)], none⟩] [])
 (.seq (.rg 1 false [] [⟨.fad 5 (.t 1) 0 0, none⟩, ⟨.load 6 (.t 5) 0, none⟩, ⟨.bin 7 .add (.c (.d true (.int .i64 1))) (.t 6), none⟩, ⟨.mv 3 (.t 7), none⟩] [])
 (.seq (.rg 2 false [] [⟨.mv 8 (.t 3), none⟩, ⟨.fad 9 (.t 1) 1 0, none⟩, ⟨.load 10 (.t 9) 0, none⟩, ⟨.len 11 (.t 10), none⟩, ⟨.bin 12 .add (.t 8) (.t 11), none⟩, ⟨.mv 4 (.t 12), none⟩] [])
 (.seq (.rg 3 false [] [⟨.mv 13 (.t 3), none⟩, ⟨.mv 14 (.t 4), none⟩, ⟨.mv 15 (.t 4), none⟩, ⟨.fad 16 (.t 1) 2 0, none⟩, ⟨.load 17 (.t 16) 0, none⟩, ⟨.len 18 (.t 17), none⟩, ⟨.bin 19 .add (.t 15) (.t 18), none⟩, ⟨.bld 20 [.k (.int .i64 0), .k (.int .i64 0), .k (.int .i64 0), .k (.int .i64 0)] [(0, 0, (.c (.d true (.int .i64 1)))), (1, 0, (.t 13)), (2, 0, (.t 14)), (3, 0, (.t 19))], none⟩, ⟨.store (.t 2) (.t 20) 5, none⟩] [])
 .ret))))
def n_gates_starts : Fn := ⟨c_gates_starts, [.c 2 5], (some [false])⟩
def c_gates_Check_1_p1 : C :=
(.rg 1 false [] [⟨(.mv 4 (.t 0)), none⟩, ⟨(.bin 5 .lss (.t 4) (.c (.d true (.int .i64 0)))), none⟩, ⟨(.mv 6 (.t 5)), none⟩, ⟨(.mv 7 (.t 0)), (some (6, false))⟩, ⟨(.bin 8 .shr (.t 7) (.c (.d true (.int .u64 1)))), (some (6, false))⟩, ⟨(.ixb 9 (.t 1) (.c (.d true (.int .i64 3))) 4 1), (some (6, false))⟩, ⟨(.load 10 (.t 9) 0), (some (6, false))⟩, ⟨(.bin 11 .geq (.t 8) (.t 10)), (some (6, false))⟩, ⟨(.pick 12 (.t 6) (.c (.d true (.bool true))) (.t 11)), none⟩, ⟨(.mv 3 (.t 12)), none⟩] [])
def c_gates_Check_1 : C :=
(.seq (.rg 0 false [] [⟨(.mv 3 (.c (.d true (.bool false)))), none⟩] [])
 (.seq c_gates_Check_1_p1
 .ret))
def n_gates_Check_1 : Fn := ⟨c_gates_Check_1, [.s 3], none⟩
def c_gates_Check_2_p1 : C :=
(.rg 1 false [] [⟨(.load 4 (.t 1) 0), none⟩, ⟨(.fad 5 (.t 2) 0 0), none⟩, ⟨(.load 6 (.t 5) 0), none⟩, ⟨(.callv 7 (.t 4) [(.t 6)] none), none⟩, ⟨(.mv 8 (.t 7)), none⟩, ⟨(.fad 9 (.t 2) 1 0), (some (8, false))⟩, ⟨(.load 10 (.t 9) 0), (some (8, false))⟩, ⟨(.bin 11 .lss (.t 10) (.c (.d true (.int .i64 0)))), (some (8, false))⟩, ⟨(.pick 12 (.t 8) (.c (.d true (.bool true))) (.t 11)), none⟩, ⟨(.mv 13 (.t 12)), none⟩, ⟨(.fad 14 (.t 2) 1 0), (some (13, false))⟩, ⟨(.load 15 (.t 14) 0), (some (13, false))⟩, ⟨(.bin 16 .gtr (.t 15) (.c (.d true (.int .i64 2)))), (some (13, false))⟩, ⟨(.pick 17 (.t 13) (.c (.d true (.bool true))) (.t 16)), none⟩, ⟨(.mv 3 (.t 17)), none⟩] [])
def c_gates_Check_2 : C :=
(.seq (.rg 0 false [] [⟨(.box 2 0 (.t 0) 3), none⟩, ⟨(.mv 3 (.c (.d true (.bool false)))), none⟩] [])
 (.seq c_gates_Check_2_p1
 .ret))
def n_gates_Check_2 : Fn := ⟨c_gates_Check_2, [.s 3], none⟩
def c_slices_ContainsFunc_of_api_Latch_p1 : C :=
(.rg 1 false [] [⟨(.mv 5 (.t 0)), none⟩, ⟨(.mv 6 (.t 1)), none⟩, ⟨(.call 7 k_slices_IndexFunc_of_api_Latch [(.t 5), (.t 6)] none), none⟩, ⟨(.bin 8 .geq (.t 7) (.c (.d true (.int .i64 0)))), none⟩, ⟨(.mv 4 (.t 8)), none⟩] [])
def c_slices_ContainsFunc_of_api_Latch : C :=
(.seq (.rg 0 false [] [⟨(.mv 4 (.c (.d true (.bool false)))), none⟩] [])
 (.seq c_slices_ContainsFunc_of_api_Latch_p1
 .ret))
def n_slices_ContainsFunc_of_api_Latch : Fn := ⟨c_slices_ContainsFunc_of_api_Latch, [.s 4], none⟩
def c_unroll_frames_frame_l1 : C :=
(.seq (.rg 3 false [] [⟨(.bin 19 .lss (.t 18) (.t 17)), none⟩] [])
 (.seq (.cond (.t 19) .skip (.exit 0))
 (.seq (.block 1 (.rg 4 false [(.kill 2 3)] [⟨(.mv 20 (.t 7)), none⟩, ⟨(.mv 21 (.t 0)), none⟩, ⟨(.call 22 k_unroll_frames_fresh [(.t 21)] none), none⟩, ⟨(.bsl 23 2 1 1 (.k (.int .i64 0)) [(0, (.t 22))]), none⟩, ⟨(.app 24 3 1 (.t 20) (.t 23)), none⟩, ⟨(.mv 7 (.t 24)), none⟩] []))
 (.rg 5 false [] [⟨(.bin 25 .add (.t 18) (.c (.d true (.int .i64 1)))), none⟩, ⟨(.mv 18 (.t 25)), none⟩] []))))
def c_unroll_frames_frame_p1 : C :=
(.seq (.rg 9 false [] [⟨(.mv 32 (.t 9)), none⟩, ⟨(.bin 33 .lss (.t 32) (.c (.d true (.int .i64 0)))), none⟩] [])
 (.cond (.t 33) (.rg 10 false [] [⟨(.mv 34 (.t 0)), none⟩, ⟨(.call 35 k_unroll_frames_fresh [(.t 34)] none), none⟩, ⟨(.mv 9 (.t 35)), none⟩] []) .skip))
def c_unroll_frames_frame_l2 : C :=
(.seq (.rg 7 false [] [⟨(.bin 29 .lss (.t 28) (.t 27)), none⟩] [])
 (.seq (.cond (.t 29) .skip (.exit 2))
 (.seq (.block 3 (.seq (.rg 8 false [] [⟨(.ix 30 (.t 26) (.t 28) 1), none⟩, ⟨(.load 31 (.t 30) 0), none⟩, ⟨(.mv 9 (.t 31)), none⟩] [])
 (.seq c_unroll_frames_frame_p1
 (.rg 11 false [(.kill 4 5)] [⟨(.mv 36 (.t 7)), none⟩, ⟨(.mv 37 (.t 9)), none⟩, ⟨(.bsl 38 4 1 1 (.k (.int .i64 0)) [(0, (.t 37))]), none⟩, ⟨(.app 39 5 1 (.t 36) (.t 38)), none⟩, ⟨(.mv 7 (.t 39)), none⟩] []))))
 (.rg 12 false [] [⟨(.bin 40 .add (.t 28) (.c (.d true (.int .i64 1)))), none⟩, ⟨(.mv 28 (.t 40)), none⟩] []))))
def c_unroll_frames_frame_l3 : C :=
(.seq (.rg 14 false [] [⟨(.bin 45 .lss (.t 44) (.t 43)), none⟩] [])
 (.seq (.cond (.t 45) .skip (.exit 4))
 (.seq (.block 5 (.seq (.rg 15 false [(.kill 6 7)] [⟨(.ix 46 (.t 42) (.t 44) 2), none⟩, ⟨(.load 47 (.t 46) 3), none⟩, ⟨(.alloc 11 6 [(.k (.int .i64 0)), (.k (.int .i64 0))]), none⟩, ⟨(.store (.t 11) (.t 47) 3), none⟩] [])
 (.seq (.rg 16 false [] [⟨(.mv 48 (.t 0)), none⟩, ⟨(.call 49 k_unroll_frames_fresh [(.t 48)] none), none⟩, ⟨(.mv 12 (.t 49)), none⟩] [])
 (.seq (.seq (.rg 17 false [] [⟨(.mv 50 (.t 0)), none⟩, ⟨(.chk 51 (.t 50)), none⟩, ⟨(.fad 52 (.t 51) 0 4), none⟩, ⟨(.fad 53 (.t 52) 0 0), none⟩, ⟨(.load 54 (.t 53) 0), none⟩, ⟨(.bin 55 .gtr (.t 54) (.c (.d true (.int .i64 4000)))), none⟩] [])
 (.cond (.t 55) (.seq (.rg 18 false [] [⟨(.mv 6 (.c (.d true (.bool false)))), none⟩] [])
 .ret) .skip))
 (.seq (.rg 19 true [] [⟨(.mv 56 (.t 7)), none⟩, ⟨(.fad 57 (.t 11) 0 0), none⟩, ⟨(.load 58 (.t 57) 0), none⟩, ⟨(.call 59 k_unroll_lit [(.t 56), (.t 58)] none), none⟩, ⟨(.mv 60 (.t 7)), none⟩, ⟨(.fad 61 (.t 11) 1 0), none⟩, ⟨(.load 62 (.t 61) 0), none⟩, ⟨(.call 63 k_unroll_lit [(.t 60), (.t 62)] none), none⟩, ⟨(.mv 13 (.t 59)), none⟩, ⟨(.mv 14 (.t 63)), none⟩] [])
 (.seq (.rg 20 false [(.kill 7 8)] [⟨(.mv 64 (.t 7)), none⟩, ⟨(.mv 65 (.t 12)), none⟩, ⟨(.bsl 66 7 1 1 (.k (.int .i64 0)) [(0, (.t 65))]), none⟩, ⟨(.app 67 8 1 (.t 64) (.t 66)), none⟩, ⟨(.mv 7 (.t 67)), none⟩] [])
 (.seq (.rg 21 false [(.kill 9 10)] [⟨(.mv 68 (.t 0)), none⟩, ⟨(.mv 69 (.t 12)), none⟩, ⟨(.bin 70 .xor (.t 69) (.c (.d true (.int .i64 1)))), none⟩, ⟨(.mv 71 (.t 13)), none⟩, ⟨(.bsl 72 9 1 2 (.k (.int .i64 0)) [(0, (.t 70)), (1, (.t 71))]), none⟩, ⟨(.call 73 k_unroll_frames_add [(.t 68), (.t 72)] none), none⟩] [])
 (.seq (.rg 22 false [(.kill 10 11)] [⟨(.mv 74 (.t 0)), none⟩, ⟨(.mv 75 (.t 12)), none⟩, ⟨(.bin 76 .xor (.t 75) (.c (.d true (.int .i64 1)))), none⟩, ⟨(.mv 77 (.t 14)), none⟩, ⟨(.bsl 78 10 1 2 (.k (.int .i64 0)) [(0, (.t 76)), (1, (.t 77))]), none⟩, ⟨(.call 79 k_unroll_frames_add [(.t 74), (.t 78)] none), none⟩] [])
 (.rg 23 false [(.kill 11 12)] [⟨(.mv 80 (.t 0)), none⟩, ⟨(.mv 81 (.t 12)), none⟩, ⟨(.mv 82 (.t 13)), none⟩, ⟨(.bin 83 .xor (.t 82) (.c (.d true (.int .i64 1)))), none⟩, ⟨(.mv 84 (.t 14)), none⟩, ⟨(.bin 85 .xor (.t 84) (.c (.d true (.int .i64 1)))), none⟩, ⟨(.bsl 86 11 1 3 (.k (.int .i64 0)) [(0, (.t 81)), (1, (.t 83)), (2, (.t 85))]), none⟩, ⟨(.call 87 k_unroll_frames_add [(.t 80), (.t 86)] none), none⟩] [])))))))))
 (.rg 24 false [] [⟨(.bin 88 .add (.t 44) (.c (.d true (.int .i64 1)))), none⟩, ⟨(.mv 44 (.t 88)), none⟩] []))))
def c_unroll_frames_frame_p2 : C :=
(.rg 26 false [] [⟨(.mv 101 (.t 0)), none⟩, ⟨(.chk 102 (.t 101)), none⟩, ⟨(.fad 103 (.t 102) 0 4), none⟩, ⟨(.fad 104 (.t 103) 0 0), none⟩, ⟨(.load 105 (.t 104) 0), none⟩, ⟨(.bin 106 .leq (.t 105) (.c (.d true (.int .i64 4000)))), none⟩, ⟨(.mv 107 (.t 106)), none⟩, ⟨(.mv 108 (.t 0)), (some (107, true))⟩, ⟨(.chk 109 (.t 108)), (some (107, true))⟩, ⟨(.fad 110 (.t 109) 0 4), (some (107, true))⟩, ⟨(.fad 111 (.t 110) 2 0), (some (107, true))⟩, ⟨(.load 112 (.t 111) 0), (some (107, true))⟩, ⟨(.len 113 (.t 112)), (some (107, true))⟩, ⟨(.bin 114 .leq (.t 113) (.c (.d true (.int .i64 20000)))), (some (107, true))⟩, ⟨(.pick 115 (.t 107) (.t 114) (.c (.d true (.bool false)))), none⟩, ⟨(.mv 6 (.t 115)), none⟩] [])
def c_unroll_frames_frame : C :=
(.seq (.rg 0 false [] [⟨(.box 4 0 (.t 1) 6), none⟩, ⟨(.mv 6 (.c (.d true (.bool false)))), none⟩] [])
 (.seq (.rg 1 false [] [⟨(.bsl 15 1 1 1 (.k (.int .i64 0)) [(0, (.c (.d true (.int .i64 0))))]), none⟩, ⟨(.mv 7 (.t 15)), none⟩] [])
 (.seq (.seq (.rg 2 false [] [⟨(.fad 16 (.t 4) 0 0), none⟩, ⟨(.load 17 (.t 16) 0), none⟩, ⟨(.mv 18 (.c (.d true (.int .i64 0)))), none⟩] [])
 (.block 0 (.loop c_unroll_frames_frame_l1)))
 (.seq (.seq (.rg 6 false [] [⟨(.mv 26 (.t 2)), none⟩, ⟨(.len 27 (.t 26)), none⟩, ⟨(.mv 28 (.c (.d true (.int .i64 0)))), none⟩] [])
 (.block 2 (.loop c_unroll_frames_frame_l2)))
 (.seq (.seq (.rg 13 false [] [⟨(.fad 41 (.t 4) 2 0), none⟩, ⟨(.load 42 (.t 41) 0), none⟩, ⟨(.len 43 (.t 42)), none⟩, ⟨(.mv 44 (.c (.d true (.int .i64 0)))), none⟩] [])
 (.block 4 (.loop c_unroll_frames_frame_l3)))
 (.seq (.rg 25 false [] [⟨(.mv 89 (.t 0)), none⟩, ⟨(.mv 90 (.t 0)), none⟩, ⟨(.chk 91 (.t 90)), none⟩, ⟨(.fad 92 (.t 91) 0 4), none⟩, ⟨(.fad 93 (.t 92) 1 0), none⟩, ⟨(.load 94 (.t 93) 0), none⟩, ⟨(.mv 95 (.t 7)), none⟩, ⟨(.bsl 96 12 1 1 (.k (.lst 1 [])) [(0, (.t 95))]), none⟩, ⟨(.app 97 13 1 (.t 94) (.t 96)), none⟩, ⟨(.chk 98 (.t 89)), none⟩, ⟨(.fad 99 (.t 98) 0 4), none⟩, ⟨(.fad 100 (.t 99) 1 0), none⟩, ⟨(.store (.t 100) (.t 97) 0), none⟩] [])
 (.seq c_unroll_frames_frame_p2
 .ret)))))))
def n_unroll_frames_frame : Fn := ⟨c_unroll_frames_frame, [.s 6], none⟩
def c_unroll_lit : C :=
(.seq (.rg 0 false [] [⟨.mv 4 (.c (.d true (.int .i64 0))), none⟩] [])
 (.seq (.rg 1 false [] [⟨.mv 5 (.t 0), none⟩, ⟨.mv 6 (.t 1), none⟩, ⟨.bin 7 .quo (.t 6) (.c (.d true (.int .i64 2))), none⟩, ⟨.ix 8 (.t 5) (.t 7) 1, none⟩, ⟨.load 9 (.t 8) 0, none⟩, ⟨.mv 10 (.t 1), none⟩, ⟨.bin 11 .and (.t 10) (.c (.d true (.int .i64 1))), none⟩, ⟨.bin 12 .xor (.t 9) (.t 11), none⟩, ⟨.mv 4 (.t 12), none⟩] [])
 .ret))
def n_unroll_lit : Fn := ⟨c_unroll_lit, [.s 4], (some [false, false])⟩
def c_ref23_Made_p1 : C :=
(.rg 7 false [] [⟨(.fad 23 (.t 8) 0 0), none⟩, ⟨(.load 24 (.t 23) 0), none⟩, ⟨(.bin 25 .gtr (.t 24) (.c (.d true (.int .i64 4000)))), none⟩, ⟨(.mv 26 (.t 25)), none⟩, ⟨(.fad 27 (.t 8) 2 0), (some (26, false))⟩, ⟨(.load 28 (.t 27) 0), (some (26, false))⟩, ⟨(.len 29 (.t 28)), (some (26, false))⟩, ⟨(.bin 30 .gtr (.t 29) (.c (.d true (.int .i64 20000)))), (some (26, false))⟩, ⟨(.pick 31 (.t 26) (.c (.d true (.bool true))) (.t 30)), none⟩] [])
def c_ref23_Made_l1 : C :=
(.seq (.seq (.rg 4 false [] [⟨(.mv 14 (.t 10)), none⟩, ⟨(.mv 15 (.t 1)), none⟩, ⟨(.bin 16 .lss (.t 14) (.t 15)), none⟩] [])
 (.cond (.t 16) .skip (.exit 0)))
 (.seq (.block 1 (.seq (.rg 6 false [] [⟨(.load 19 (.t 3) 6), none⟩, ⟨(.load 20 (.t 8) 4), none⟩, ⟨(.mv 21 (.t 9)), none⟩, ⟨(.call 22 k_ref23_More [(.t 19), (.t 20), (.t 21)] none), none⟩, ⟨(.store (.t 8) (.t 22) 4), none⟩] [])
 (.seq (.seq c_ref23_Made_p1
 (.cond (.t 31) (.seq (.rg 8 false [] [⟨(.bld 32 [(.k (.int .i64 0)), (.n 1), (.n 1)] []), none⟩, ⟨(.store (.t 6) (.t 32) 4), none⟩, ⟨(.mv 7 (.c (.d true (.bool false)))), none⟩] [])
 .ret) .skip))
 (.rg 9 true [] [⟨(.load 33 (.t 3) 6), none⟩, ⟨(.fad 34 (.t 8) 1 0), none⟩, ⟨(.load 35 (.t 34) 0), none⟩, ⟨(.mv 36 (.t 10)), none⟩, ⟨(.ix 37 (.t 35) (.t 36) 1), none⟩, ⟨(.load 38 (.t 37) 0), none⟩, ⟨(.call 39 k_ref23_Behind [(.t 33), (.t 38)] none), none⟩, ⟨(.mv 9 (.t 39)), none⟩] []))))
 (.rg 5 false [] [⟨(.mv 17 (.t 10)), none⟩, ⟨(.bin 18 .add (.t 17) (.c (.d true (.int .i64 1)))), none⟩, ⟨(.mv 10 (.t 18)), none⟩] [])))
def c_ref23_Made : C :=
(.seq (.rg 0 false [] [⟨(.box 3 0 (.t 0) 6), none⟩, ⟨(.alloc 6 1 [(.k (.int .i64 0)), (.r 2 1), (.r 3 1)]), none⟩, ⟨(.mv 7 (.c (.d true (.bool false)))), none⟩] [])
 (.seq (.rg 1 false [] [⟨(.alloc 8 4 [(.k (.int .i64 0)), (.r 5 1), (.r 6 1)]), none⟩] [])
 (.seq (.rg 2 false [] [⟨(.load 11 (.t 3) 6), none⟩, ⟨(.mv 12 (.t 2)), none⟩, ⟨(.call 13 k_ref23_Resets [(.t 11), (.t 12)] none), none⟩, ⟨(.mv 9 (.t 13)), none⟩] [])
 (.seq (.seq (.rg 3 false [] [⟨(.mv 10 (.c (.d true (.int .i64 0)))), none⟩] [])
 (.block 0 (.loop c_ref23_Made_l1)))
 (.seq (.rg 10 false [] [⟨(.load 40 (.t 8) 4), none⟩, ⟨(.store (.t 6) (.t 40) 4), none⟩, ⟨(.mv 7 (.c (.d true (.bool true)))), none⟩] [])
 .ret)))))
def n_ref23_Made : Fn := ⟨c_ref23_Made, [.c 6 4, .s 7], (some [false, false, false])⟩
def c_slices_Sort_of_int : C :=
(.seq (.rg 0 false [] [⟨.mv 3 (.t 0), none⟩, ⟨.len 4 (.t 3), none⟩, ⟨.mv 2 (.t 4), none⟩] [])
 (.rg 1 false [] [⟨.mv 5 (.t 0), none⟩, ⟨.mv 6 (.t 2), none⟩, ⟨.mv 7 (.t 2), none⟩, ⟨.cvt 8 .u64 (.t 7), none⟩, ⟨.call 9 k_bits_Len [(.t 8)] none, none⟩, ⟨.call 10 k_slices_pdqsortOrdered_of_int [(.t 5), (.c (.d true (.int .i64 0))), (.t 6), (.t 9)] none, none⟩] []))
def n_slices_Sort_of_int : Fn := ⟨c_slices_Sort_of_int, [], none⟩
def c_slices_Compact_of_int_l1 : C :=
(.seq (.seq (.rg 9 false [] [⟨.mv 29 (.t 5), none⟩, ⟨.mv 30 (.t 4), none⟩, ⟨.len 31 (.t 30), none⟩, ⟨.bin 32 .lss (.t 29) (.t 31), none⟩] [])
 (.cond (.t 32) .skip (.exit 2)))
 (.seq (.block 3 (.seq (.rg 11 true [] [⟨.mv 35 (.t 4), none⟩, ⟨.mv 36 (.t 5), none⟩, ⟨.ix 37 (.t 35) (.t 36) 1, none⟩, ⟨.load 38 (.t 37) 0, none⟩, ⟨.mv 39 (.t 4), none⟩, ⟨.mv 40 (.t 5), none⟩, ⟨.bin 41 .sub (.t 40) (.c (.d true (.int .i64 1))), none⟩, ⟨.ix 42 (.t 39) (.t 41) 1, none⟩, ⟨.load 43 (.t 42) 0, none⟩, ⟨.bin 44 .neq (.t 38) (.t 43), none⟩] [])
 (.cond (.t 44) (.seq (.rg 12 false [] [⟨.mv 45 (.t 0), none⟩, ⟨.mv 46 (.t 3), none⟩, ⟨.mv 47 (.t 4), none⟩, ⟨.mv 48 (.t 5), none⟩, ⟨.ix 49 (.t 47) (.t 48) 1, none⟩, ⟨.load 50 (.t 49) 0, none⟩, ⟨.ix 51 (.t 45) (.t 46) 1, none⟩, ⟨.store (.t 51) (.t 50) 0, none⟩] [])
 (.rg 13 false [] [⟨.mv 52 (.t 3), none⟩, ⟨.bin 53 .add (.t 52) (.c (.d true (.int .i64 1))), none⟩, ⟨.mv 3 (.t 53), none⟩] [])) .skip)))
 (.rg 10 false [] [⟨.mv 33 (.t 5), none⟩, ⟨.bin 34 .add (.t 33) (.c (.d true (.int .i64 1))), none⟩, ⟨.mv 5 (.t 34), none⟩] [])))
def c_slices_Compact_of_int_l2 : C :=
(.seq (.seq (.rg 4 false [] [⟨.mv 10 (.t 3), none⟩, ⟨.mv 11 (.t 0), none⟩, ⟨.len 12 (.t 11), none⟩, ⟨.bin 13 .lss (.t 10) (.t 12), none⟩] [])
 (.cond (.t 13) .skip (.exit 0)))
 (.seq (.block 1 (.seq (.rg 6 true [] [⟨.mv 16 (.t 0), none⟩, ⟨.mv 17 (.t 3), none⟩, ⟨.ix 18 (.t 16) (.t 17) 1, none⟩, ⟨.load 19 (.t 18) 0, none⟩, ⟨.mv 20 (.t 0), none⟩, ⟨.mv 21 (.t 3), none⟩, ⟨.bin 22 .sub (.t 21) (.c (.d true (.int .i64 1))), none⟩, ⟨.ix 23 (.t 20) (.t 22) 1, none⟩, ⟨.load 24 (.t 23) 0, none⟩, ⟨.bin 25 .eql (.t 19) (.t 24), none⟩] [])
 (.cond (.t 25) (.seq (.rg 7 false [] [⟨.mv 26 (.t 0), none⟩, ⟨.mv 27 (.t 3), none⟩, ⟨.slc 28 1 (.t 26) (some (.t 27)) none none, none⟩, ⟨.mv 4 (.t 28), none⟩] [])
 (.seq (.seq (.rg 8 false [] [⟨.mv 5 (.c (.d true (.int .i64 1))), none⟩] [])
 (.block 2 (.loop c_slices_Compact_of_int_l1)))
 (.seq (.rg 14 false [] [⟨.mv 54 (.t 0), none⟩, ⟨.mv 55 (.t 3), none⟩, ⟨.slc 56 1 (.t 54) (some (.t 55)) none none, none⟩, ⟨.clr 1 (.t 56) (.k (.int .i64 0)), none⟩] [])
 (.seq (.rg 15 false [] [⟨.mv 57 (.t 0), none⟩, ⟨.mv 58 (.t 3), none⟩, ⟨.slc 59 1 (.t 57) none (some (.t 58)) none, none⟩, ⟨.mv 2 (.t 59), none⟩] [])
 .ret)))) .skip)))
 (.rg 5 false [] [⟨.mv 14 (.t 3), none⟩, ⟨.bin 15 .add (.t 14) (.c (.d true (.int .i64 1))), none⟩, ⟨.mv 3 (.t 15), none⟩] [])))
def c_slices_Compact_of_int : C :=
(.seq (.rg 0 false [] [⟨.mv 2 (.c (.nil 1)), none⟩] [])
 (.seq (.seq (.rg 1 false [] [⟨.mv 6 (.t 0), none⟩, ⟨.len 7 (.t 6), none⟩, ⟨.bin 8 .lss (.t 7) (.c (.d true (.int .i64 2))), none⟩] [])
 (.cond (.t 8) (.seq (.rg 2 false [] [⟨.mv 9 (.t 0), none⟩, ⟨.mv 2 (.t 9), none⟩] [])
 .ret) .skip))
 (.seq (.seq (.rg 3 false [] [⟨.mv 3 (.c (.d true (.int .i64 1))), none⟩] [])
 (.block 0 (.loop c_slices_Compact_of_int_l2)))
 (.seq (.rg 16 false [] [⟨.mv 60 (.t 0), none⟩, ⟨.mv 2 (.t 60), none⟩] [])
 .ret))))
def n_slices_Compact_of_int : Fn := ⟨c_slices_Compact_of_int, [.s 2], none⟩
def c_ref22_Put : C :=
(.seq (.rg 0 false [] [⟨.mv 4 (.c (.nil 1)), none⟩] [])
 (.seq (.seq (.rg 1 false [] [⟨.mv 6 (.t 1), none⟩, ⟨.call 7 k_ref13_Has [(.t 6), (.c (.d true (.int .i64 1)))] none, none⟩] [])
 (.cond (.t 7) (.seq (.rg 2 false [] [⟨.mv 8 (.t 0), none⟩, ⟨.mv 4 (.t 8), none⟩] [])
 .ret) .skip))
 (.seq (.rg 3 false [] [⟨.mv 9 (.t 1), none⟩, ⟨.call 10 k_ref13_Without [(.t 9), (.c (.d true (.int .i64 0)))] none, none⟩, ⟨.mv 5 (.t 10), none⟩] [])
 (.seq (.seq (.rg 4 false [] [⟨.mv 11 (.t 5), none⟩, ⟨.call 12 k_ref13_Always [(.t 11)] none, none⟩] [])
 (.cond (.t 12) (.seq (.rg 5 false [] [⟨.mv 13 (.t 0), none⟩, ⟨.mv 4 (.t 13), none⟩] [])
 .ret) .skip))
 (.seq (.rg 6 false [] [⟨.mv 14 (.t 0), none⟩, ⟨.mv 15 (.t 5), none⟩, ⟨.call 16 k_ref13_Sorted [(.t 15)] none, none⟩, ⟨.bsl 17 0 1 1 (.k (.lst 1 [])) [(0, (.t 16))], none⟩, ⟨.app 18 1 1 (.t 14) (.t 17), none⟩, ⟨.mv 4 (.t 18), none⟩] [])
 .ret)))))
def c_values_of : C :=
(.seq (.rg 0 false [] [⟨.mv 4 (.c (.d true (.bool false))), none⟩] [])
 (.seq (.rg 1 false [] [⟨.mv 5 (.t 0), none⟩, ⟨.mv 6 (.t 1), none⟩, ⟨.bin 7 .shr (.t 6) (.c (.d true (.int .u64 1))), none⟩, ⟨.ix 8 (.t 5) (.t 7) 1, none⟩, ⟨.load 9 (.t 8) 0, none⟩, ⟨.mv 10 (.t 1), none⟩, ⟨.bin 11 .and (.t 10) (.c (.d true (.int .i64 1))), none⟩, ⟨.bin 12 .eql (.t 11) (.c (.d true (.int .i64 1))), none⟩, ⟨.beq 13 true (.t 9) (.t 12), none⟩, ⟨.mv 4 (.t 13), none⟩] [])
 .ret))
def n_values_of : Fn := ⟨c_values_of, [.s 4], (some [false, false])⟩
def c_ref13_Check : C :=
(.seq (.rg 0 false [] [⟨.mv 4 (.c (.d true (.int .i64 0))), none⟩] [])
 (.seq (.seq (.rg 1 false [] [⟨.mv 5 (.t 0), none⟩, ⟨.call 6 k_ref13_Vars [(.t 5)] none, none⟩, ⟨.un 7 .not (.t 6), none⟩] [])
 (.cond (.t 7) (.seq (.rg 2 false [] [⟨.mv 4 (.c (.d true (.int .i64 2))), none⟩] [])
 .ret) .skip))
 (.seq (.seq (.rg 3 false [] [⟨.mv 8 (.t 0), none⟩, ⟨.mv 9 (.t 1), none⟩, ⟨.call 10 k_ref13_Valid [(.t 8), (.t 9)] none, none⟩, ⟨.un 11 .not (.t 10), none⟩] [])
 (.cond (.t 11) (.seq (.rg 4 false [] [⟨.mv 4 (.c (.d true (.int .i64 8))), none⟩] [])
 .ret) .skip))
 (.seq (.rg 5 false [] [⟨.mv 4 (.c (.d true (.int .i64 0))), none⟩] [])
 .ret))))
def n_ref13_Check : Fn := ⟨c_ref13_Check, [.s 4], (some [false, false])⟩
def c_ref13_Truth : C :=
(.seq (.rg 0 false [] [⟨.mv 4 (.c (.d true (.bool false))), none⟩] [])
 (.seq (.seq (.rg 1 false [] [⟨.mv 5 (.t 0), none⟩, ⟨.bin 6 .rem (.t 5) (.c (.d true (.int .i64 2))), none⟩, ⟨.bin 7 .eql (.t 6) (.c (.d true (.int .i64 1))), none⟩] [])
 (.cond (.t 7) (.seq (.rg 2 false [] [⟨.mv 8 (.t 1), none⟩, ⟨.mv 9 (.t 0), none⟩, ⟨.bin 10 .quo (.t 9) (.c (.d true (.int .i64 2))), none⟩, ⟨.bin 11 .sub (.t 10) (.c (.d true (.int .i64 1))), none⟩, ⟨.ix 12 (.t 8) (.t 11) 1, none⟩, ⟨.load 13 (.t 12) 0, none⟩, ⟨.un 14 .not (.t 13), none⟩, ⟨.mv 4 (.t 14), none⟩] [])
 .ret) .skip))
 (.seq (.rg 3 false [] [⟨.mv 15 (.t 1), none⟩, ⟨.mv 16 (.t 0), none⟩, ⟨.bin 17 .quo (.t 16) (.c (.d true (.int .i64 2))), none⟩, ⟨.bin 18 .sub (.t 17) (.c (.d true (.int .i64 1))), none⟩, ⟨.ix 19 (.t 15) (.t 18) 1, none⟩, ⟨.load 20 (.t 19) 0, none⟩, ⟨.mv 4 (.t 20), none⟩] [])
 .ret)))
def n_ref13_Truth : Fn := ⟨c_ref13_Truth, [.s 4], (some [false, false])⟩
def c_cmp_Less_of_int : C :=
(.seq (.rg 0 false [] [⟨.mv 4 (.c (.d true (.bool false))), none⟩] [])
 (.seq (.rg 1 false [] [⟨.mv 5 (.t 0), none⟩, ⟨.call 6 k_cmp_isNaN_of_int [(.t 5)] none, none⟩, ⟨.mv 7 (.t 6), none⟩, ⟨.mv 8 (.t 1), some (7, true)⟩, ⟨.call 9 k_cmp_isNaN_of_int [(.t 8)] none, some (7, true)⟩, ⟨.un 10 .not (.t 9), some (7, true)⟩, ⟨.pick 11 (.t 7) (.t 10) (.c (.d true (.bool false))), none⟩, ⟨.mv 12 (.t 11), none⟩, ⟨.mv 13 (.t 0), some (12, false)⟩, ⟨.mv 14 (.t 1), some (12, false)⟩, ⟨.bin 15 .lss (.t 13) (.t 14), some (12, false)⟩, ⟨.pick 16 (.t 12) (.c (.d true (.bool true))) (.t 15), none⟩, ⟨.mv 4 (.t 16), none⟩] [])
 .ret))
def n_cmp_Less_of_int : Fn := ⟨c_cmp_Less_of_int, [.s 4], (some [false, false])⟩
def c_ref13_Has_l1 : C :=
(.seq (.seq (.rg 2 false [] [⟨.mv 6 (.t 5), none⟩, ⟨.mv 7 (.t 0), none⟩, ⟨.len 8 (.t 7), none⟩, ⟨.bin 9 .lss (.t 6) (.t 8), none⟩] [])
 (.cond (.t 9) .skip (.exit 0)))
 (.seq (.block 1 (.seq (.rg 4 false [] [⟨.mv 12 (.t 0), none⟩, ⟨.mv 13 (.t 5), none⟩, ⟨.ix 14 (.t 12) (.t 13) 1, none⟩, ⟨.load 15 (.t 14) 0, none⟩, ⟨.mv 16 (.t 1), none⟩, ⟨.bin 17 .eql (.t 15) (.t 16), none⟩] [])
 (.cond (.t 17) (.seq (.rg 5 false [] [⟨.mv 4 (.c (.d true (.bool true))), none⟩] [])
 .ret) .skip)))
 (.rg 3 false [] [⟨.mv 10 (.t 5), none⟩, ⟨.bin 11 .add (.t 10) (.c (.d true (.int .i64 1))), none⟩, ⟨.mv 5 (.t 11), none⟩] [])))
def c_ref13_Has : C :=
(.seq (.rg 0 false [] [⟨.mv 4 (.c (.d true (.bool false))), none⟩] [])
 (.seq (.seq (.rg 1 false [] [⟨.mv 5 (.c (.d true (.int .i64 0))), none⟩] [])
 (.block 0 (.loop c_ref13_Has_l1)))
 (.seq (.rg 6 false [] [⟨.mv 4 (.c (.d true (.bool false))), none⟩] [])
 .ret)))
def n_ref13_Has : Fn := ⟨c_ref13_Has, [.s 4], (some [false, false])⟩
def c_slices_IndexFunc_of_api_Latch_l1 : C :=
(.seq (.rg 2 false [] [⟨.bin 9 .lss (.t 8) (.t 7), none⟩] [])
 (.seq (.cond (.t 9) .skip (.exit 0))
 (.seq (.block 1 (.seq (.rg 3 false [] [⟨.mv 10 (.t 8), none⟩, ⟨.mv 5 (.t 10), none⟩] [])
 (.seq (.rg 4 false [] [⟨.mv 11 (.t 1), none⟩, ⟨.mv 12 (.t 0), none⟩, ⟨.mv 13 (.t 5), none⟩, ⟨.ix 14 (.t 12) (.t 13) 2, none⟩, ⟨.load 15 (.t 14) 3, none⟩, ⟨.callv 16 (.t 11) [(.t 15)] none, none⟩] [])
 (.cond (.t 16) (.seq (.rg 5 false [] [⟨.mv 17 (.t 5), none⟩, ⟨.mv 4 (.t 17), none⟩] [])
 .ret) .skip))))
 (.rg 6 false [] [⟨.bin 18 .add (.t 8) (.c (.d true (.int .i64 1))), none⟩, ⟨.mv 8 (.t 18), none⟩] []))))
def c_slices_IndexFunc_of_api_Latch : C :=
(.seq (.rg 0 false [] [⟨.mv 4 (.c (.d true (.int .i64 0))), none⟩] [])
 (.seq (.seq (.rg 1 false [] [⟨.mv 6 (.t 0), none⟩, ⟨.len 7 (.t 6), none⟩, ⟨.mv 8 (.c (.d true (.int .i64 0))), none⟩] [])
 (.block 0 (.loop c_slices_IndexFunc_of_api_Latch_l1)))
 (.seq (.rg 7 false [] [⟨.mv 4 (.c (.d true (.int .i64 (-1)))), none⟩] [])
 .ret)))
def n_slices_IndexFunc_of_api_Latch : Fn := ⟨c_slices_IndexFunc_of_api_Latch, [.s 4], none⟩
def c_unroll_frames_fresh : C :=
(.seq (.rg 0 false [] [⟨.mv 2 (.c (.d true (.int .i64 0))), none⟩] [])
 (.seq (.rg 1 false [] [⟨.mv 3 (.t 0), none⟩, ⟨.chk 4 (.t 3), none⟩, ⟨.fad 5 (.t 4) 0 4, none⟩, ⟨.fad 6 (.t 5) 0 0, none⟩, ⟨.load 7 (.t 6) 0, none⟩, ⟨.bin 8 .add (.t 7) (.c (.d true (.int .i64 1))), none⟩, ⟨.chk 9 (.t 3), none⟩, ⟨.fad 10 (.t 9) 0 4, none⟩, ⟨.fad 11 (.t 10) 0 0, none⟩, ⟨.store (.t 11) (.t 8) 0, none⟩] [])
 (.seq (.rg 2 false [] [⟨.mv 12 (.t 0), none⟩, ⟨.chk 13 (.t 12), none⟩, ⟨.fad 14 (.t 13) 0 4, none⟩, ⟨.fad 15 (.t 14) 0 0, none⟩, ⟨.load 16 (.t 15) 0, none⟩, ⟨.bin 17 .mul (.c (.d true (.int .i64 2))) (.t 16), none⟩, ⟨.mv 2 (.t 17), none⟩] [])
 .ret)))
def n_unroll_frames_fresh : Fn := ⟨c_unroll_frames_fresh, [.s 2], none⟩
def c_unroll_frames_add_p1 : C :=
(.block 1 (.seq (.rg 3 false [] [⟨(.ix 14 (.t 10) (.t 12) 1), none⟩, ⟨(.load 15 (.t 14) 0), none⟩, ⟨(.mv 6 (.t 15)), none⟩] [])
 (.seq (.seq (.rg 4 false [] [⟨(.mv 16 (.t 6)), none⟩, ⟨(.bin 17 .eql (.t 16) (.c (.d true (.int .i64 1)))), none⟩] [])
 (.cond (.t 17) .ret .skip))
 (.seq (.rg 5 false [] [⟨(.mv 18 (.t 6)), none⟩, ⟨(.bin 19 .gtr (.t 18) (.c (.d true (.int .i64 1)))), none⟩] [])
 (.cond (.t 19) (.rg 6 false [(.kill 1 2)] [⟨(.mv 20 (.t 4)), none⟩, ⟨(.mv 21 (.t 6)), none⟩, ⟨(.bsl 22 1 1 1 (.k (.int .i64 0)) [(0, (.t 21))]), none⟩, ⟨(.app 23 2 1 (.t 20) (.t 22)), none⟩, ⟨(.mv 4 (.t 23)), none⟩] []) .skip)))))
def c_unroll_frames_add_l1 : C :=
(.seq (.rg 2 false [] [⟨(.bin 13 .lss (.t 12) (.t 11)), none⟩] [])
 (.seq (.cond (.t 13) .skip (.exit 0))
 (.seq c_unroll_frames_add_p1
 (.rg 7 false [] [⟨(.bin 24 .add (.t 12) (.c (.d true (.int .i64 1)))), none⟩, ⟨(.mv 12 (.t 24)), none⟩] []))))
def c_unroll_frames_add_p2 : C :=
(.rg 9 false [] [⟨(.mv 36 (.t 9)), none⟩, ⟨(.bin 37 .eql (.t 36) (.c (.d true (.int .i64 0)))), none⟩, ⟨(.mv 38 (.t 37)), none⟩, ⟨(.mv 39 (.t 8)), (some (38, true))⟩, ⟨(.un 40 .not (.t 39)), (some (38, true))⟩, ⟨(.pick 41 (.t 38) (.t 40) (.c (.d true (.bool false)))), none⟩] [])
def c_unroll_frames_add : C :=
(.seq (.rg 0 false [] [⟨(.nilr 4 0 1), none⟩] [])
 (.seq (.seq (.rg 1 false [] [⟨(.mv 10 (.t 1)), none⟩, ⟨(.len 11 (.t 10)), none⟩, ⟨(.mv 12 (.c (.d true (.int .i64 0)))), none⟩] [])
 (.block 0 (.loop c_unroll_frames_add_l1)))
 (.seq (.rg 8 false [] [⟨(.mv 26 (.t 0)), none⟩, ⟨(.chk 27 (.t 26)), none⟩, ⟨(.fad 28 (.t 27) 0 4), none⟩, ⟨(.fad 29 (.t 28) 0 0), none⟩, ⟨(.load 30 (.t 29) 0), none⟩, ⟨(.mv 31 (.t 4)), none⟩, ⟨(.call 32 k_clause_Make [(.t 30), (.t 31)] none), none⟩, ⟨(.mv 25 (.t 32)), none⟩, ⟨(.xt 33 (.t 25) 0), none⟩, ⟨(.xt 34 (.t 25) 1), none⟩, ⟨(.xt 35 (.t 25) 2), none⟩, ⟨(.mv 7 (.t 33)), none⟩, ⟨(.mv 8 (.t 34)), none⟩, ⟨(.mv 9 (.t 35)), none⟩] [])
 (.seq c_unroll_frames_add_p2
 (.cond (.t 41) (.rg 10 false [] [⟨(.mv 42 (.t 0)), none⟩, ⟨(.mv 43 (.t 0)), none⟩, ⟨(.chk 44 (.t 43)), none⟩, ⟨(.fad 45 (.t 44) 0 4), none⟩, ⟨(.fad 46 (.t 45) 2 0), none⟩, ⟨(.load 47 (.t 46) 0), none⟩, ⟨(.mv 48 (.t 7)), none⟩, ⟨(.bsl 49 3 1 1 (.k (.lst 1 [])) [(0, (.t 48))]), none⟩, ⟨(.app 50 4 1 (.t 47) (.t 49)), none⟩, ⟨(.chk 51 (.t 42)), none⟩, ⟨(.fad 52 (.t 51) 0 4), none⟩, ⟨(.fad 53 (.t 52) 2 0), none⟩, ⟨(.store (.t 53) (.t 50) 0), none⟩] []) .skip)))))
def n_unroll_frames_add : Fn := ⟨c_unroll_frames_add, [], none⟩
def c_ref23_Resets_p1 : C :=
(.rg 6 false [] [⟨(.mv 21 (.t 1)), none⟩, ⟨(.mv 22 (.t 21)), none⟩, ⟨(.mv 23 (.t 7)), (some (22, false))⟩, ⟨(.bin 24 .eql (.t 23) (.c (.d true (.int .i64 2)))), (some (22, false))⟩, ⟨(.pick 25 (.t 22) (.c (.d true (.bool true))) (.t 24)), none⟩] [])
def c_ref23_Resets_p2 : C :=
(.seq c_ref23_Resets_p1
 (.cond (.t 25) (.rg 7 false [] [⟨(.mv 7 (.c (.d true (.int .i64 (-1))))), none⟩] []) .skip))
def c_ref23_Resets_l1 : C :=
(.seq (.seq (.rg 3 false [] [⟨(.mv 8 (.t 6)), none⟩, ⟨(.fad 9 (.t 2) 1 0), none⟩, ⟨(.load 10 (.t 9) 0), none⟩, ⟨(.len 11 (.t 10)), none⟩, ⟨(.bin 12 .lss (.t 8) (.t 11)), none⟩] [])
 (.cond (.t 12) .skip (.exit 0)))
 (.seq (.block 1 (.seq (.rg 5 false [] [⟨(.fad 15 (.t 2) 1 0), none⟩, ⟨(.load 16 (.t 15) 0), none⟩, ⟨(.mv 17 (.t 6)), none⟩, ⟨(.ix 18 (.t 16) (.t 17) 2), none⟩, ⟨(.fad 19 (.t 18) 1 0), none⟩, ⟨(.load 20 (.t 19) 0), none⟩, ⟨(.mv 7 (.t 20)), none⟩] [])
 (.seq c_ref23_Resets_p2
 (.rg 8 false [(.kill 2 3)] [⟨(.mv 26 (.t 5)), none⟩, ⟨(.mv 27 (.t 7)), none⟩, ⟨(.bsl 28 2 1 1 (.k (.int .i64 0)) [(0, (.t 27))]), none⟩, ⟨(.app 29 3 1 (.t 26) (.t 28)), none⟩, ⟨(.mv 5 (.t 29)), none⟩] []))))
 (.rg 4 false [] [⟨(.mv 13 (.t 6)), none⟩, ⟨(.bin 14 .add (.t 13) (.c (.d true (.int .i64 1)))), none⟩, ⟨(.mv 6 (.t 14)), none⟩] [])))
def c_ref23_Resets : C :=
(.seq (.rg 0 false [] [⟨(.box 2 0 (.t 0) 6), none⟩, ⟨(.mv 4 (.c (.nil 1))), none⟩] [])
 (.seq (.rg 1 false [] [⟨(.nilr 5 1 1), none⟩] [])
 (.seq (.seq (.rg 2 false [] [⟨(.mv 6 (.c (.d true (.int .i64 0)))), none⟩] [])
 (.block 0 (.loop c_ref23_Resets_l1)))
 (.seq (.rg 9 false [] [⟨(.mv 30 (.t 5)), none⟩, ⟨(.mv 4 (.t 30)), none⟩] [])
 .ret))))
def n_ref23_Resets : Fn := ⟨c_ref23_Resets, [.s 4], (some [false, false])⟩
def c_ref23_More_p1 : C :=
(.rg 6 false [] [⟨(.mv 26 (.t 9)), none⟩, ⟨(.bin 27 .geq (.t 26) (.c (.d true (.int .i64 0)))), none⟩, ⟨(.mv 28 (.t 27)), none⟩, ⟨(.mv 29 (.t 10)), (some (28, true))⟩, ⟨(.bin 30 .lss (.t 29) (.c (.d true (.int .i64 0)))), (some (28, true))⟩, ⟨(.pick 31 (.t 28) (.t 30) (.c (.d true (.bool false)))), none⟩, ⟨(.mv 32 (.t 31)), none⟩, ⟨(.mv 33 (.t 2)), (some (32, true))⟩, ⟨(.mv 34 (.t 9)), (some (32, true))⟩, ⟨(.ix 35 (.t 33) (.t 34) 1), (some (32, true))⟩, ⟨(.load 36 (.t 35) 0), (some (32, true))⟩, ⟨(.bin 37 .geq (.t 36) (.c (.d true (.int .i64 0)))), (some (32, true))⟩, ⟨(.pick 38 (.t 32) (.t 37) (.c (.d true (.bool false)))), none⟩] [])
def c_ref23_More_p2 : C :=
(.block 1 (.seq (.rg 5 true [] [⟨(.mv 18 (.t 8)), none⟩, ⟨(.bin 19 .sub (.t 18) (.c (.d true (.int .i64 1)))), none⟩, ⟨(.fad 20 (.t 3) 0 0), none⟩, ⟨(.load 21 (.t 20) 0), none⟩, ⟨(.bin 22 .sub (.t 19) (.t 21)), none⟩, ⟨(.load 23 (.t 3) 6), none⟩, ⟨(.mv 24 (.t 8)), none⟩, ⟨(.call 25 k_ref02_Gate [(.t 23), (.t 24)] none), none⟩, ⟨(.mv 9 (.t 22)), none⟩, ⟨(.mv 10 (.t 25)), none⟩] [])
 (.seq (.seq c_ref23_More_p1
 (.cond (.t 38) (.seq (.rg 7 false [(.kill 6 7)] [⟨(.mv 39 (.t 7)), none⟩, ⟨(.mv 40 (.t 2)), none⟩, ⟨(.mv 41 (.t 9)), none⟩, ⟨(.ix 42 (.t 40) (.t 41) 1), none⟩, ⟨(.load 43 (.t 42) 0), none⟩, ⟨(.bsl 44 6 1 1 (.k (.int .i64 0)) [(0, (.t 43))]), none⟩, ⟨(.app 45 7 1 (.t 39) (.t 44)), none⟩, ⟨(.mv 7 (.t 45)), none⟩] [])
 (.exit 1)) .skip))
 (.seq (.rg 8 false [] [⟨(.fad 46 (.t 4) 0 0), none⟩, ⟨(.load 47 (.t 46) 0), none⟩, ⟨(.bin 48 .add (.t 47) (.c (.d true (.int .i64 1)))), none⟩, ⟨(.fad 49 (.t 4) 0 0), none⟩, ⟨(.store (.t 49) (.t 48) 0), none⟩] [])
 (.seq (.rg 9 false [(.kill 8 9)] [⟨(.mv 50 (.t 7)), none⟩, ⟨(.fad 51 (.t 4) 0 0), none⟩, ⟨(.load 52 (.t 51) 0), none⟩, ⟨(.bin 53 .mul (.c (.d true (.int .i64 2))) (.t 52)), none⟩, ⟨(.bsl 54 8 1 1 (.k (.int .i64 0)) [(0, (.t 53))]), none⟩, ⟨(.app 55 9 1 (.t 50) (.t 54)), none⟩, ⟨(.mv 7 (.t 55)), none⟩] [])
 (.seq (.rg 10 false [] [⟨(.mv 56 (.t 10)), none⟩, ⟨(.bin 57 .geq (.t 56) (.c (.d true (.int .i64 0)))), none⟩] [])
 (.cond (.t 57) (.rg 11 true [] [⟨(.fad 58 (.t 4) 2 0), none⟩, ⟨(.load 59 (.t 58) 0), none⟩, ⟨(.fad 60 (.t 4) 0 0), none⟩, ⟨(.load 61 (.t 60) 0), none⟩, ⟨(.bin 62 .mul (.c (.d true (.int .i64 2))) (.t 61)), none⟩, ⟨(.mv 63 (.t 7)), none⟩, ⟨(.fad 64 (.t 3) 2 0), none⟩, ⟨(.load 65 (.t 64) 0), none⟩, ⟨(.mv 66 (.t 10)), none⟩, ⟨(.ix 67 (.t 65) (.t 66) 2), none⟩, ⟨(.fad 68 (.t 67) 0 0), none⟩, ⟨(.load 69 (.t 68) 0), none⟩, ⟨(.call 70 k_ref22_Lit [(.t 63), (.t 69)] none), none⟩, ⟨(.mv 71 (.t 7)), none⟩, ⟨(.fad 72 (.t 3) 2 0), none⟩, ⟨(.load 73 (.t 72) 0), none⟩, ⟨(.mv 74 (.t 10)), none⟩, ⟨(.ix 75 (.t 73) (.t 74) 2), none⟩, ⟨(.fad 76 (.t 75) 1 0), none⟩, ⟨(.load 77 (.t 76) 0), none⟩, ⟨(.call 78 k_ref22_Lit [(.t 71), (.t 77)] none), none⟩, ⟨(.call 79 k_ref22_Gate [(.t 59), (.t 62), (.t 70), (.t 78)] none), none⟩, ⟨(.fad 80 (.t 4) 2 0), none⟩, ⟨(.store (.t 80) (.t 79) 0), none⟩] []) .skip)))))))
def c_ref23_More_l1 : C :=
(.seq (.seq (.rg 3 false [] [⟨(.mv 12 (.t 8)), none⟩, ⟨(.load 13 (.t 3) 6), none⟩, ⟨(.call 14 k_ref02_Size [(.t 13)] none), none⟩, ⟨(.bin 15 .leq (.t 12) (.t 14)), none⟩] [])
 (.cond (.t 15) .skip (.exit 0)))
 (.seq c_ref23_More_p2
 (.rg 4 false [] [⟨(.mv 16 (.t 8)), none⟩, ⟨(.bin 17 .add (.t 16) (.c (.d true (.int .i64 1)))), none⟩, ⟨(.mv 8 (.t 17)), none⟩] [])))
def c_ref23_More : C :=
(.seq (.rg 0 false [] [⟨(.box 3 0 (.t 0) 6), none⟩, ⟨(.box 4 1 (.t 1) 4), none⟩, ⟨(.alloc 6 2 [(.k (.int .i64 0)), (.r 3 1), (.r 4 1)]), none⟩] [])
 (.seq (.rg 1 false [] [⟨(.bsl 11 5 1 1 (.k (.int .i64 0)) [(0, (.c (.d true (.int .i64 0))))]), none⟩, ⟨(.mv 7 (.t 11)), none⟩] [])
 (.seq (.seq (.rg 2 false [] [⟨(.mv 8 (.c (.d true (.int .i64 1)))), none⟩] [])
 (.block 0 (.loop c_ref23_More_l1)))
 (.seq (.rg 12 false [] [⟨(.fad 81 (.t 4) 1 0), none⟩, ⟨(.load 82 (.t 81) 0), none⟩, ⟨(.mv 83 (.t 7)), none⟩, ⟨(.bsl 84 10 1 1 (.k (.lst 1 [])) [(0, (.t 83))]), none⟩, ⟨(.app 85 11 1 (.t 82) (.t 84)), none⟩, ⟨(.fad 86 (.t 4) 1 0), none⟩, ⟨(.store (.t 86) (.t 85) 0), none⟩] [])
 (.seq (.rg 13 false [] [⟨(.load 87 (.t 4) 4), none⟩, ⟨(.store (.t 6) (.t 87) 4), none⟩] [])
 .ret)))))
def n_ref23_More : Fn := ⟨c_ref23_More, [.c 6 4], none⟩
def c_ref23_Behind_l1 : C :=
(.seq (.seq (.rg 3 false [] [⟨.mv 7 (.t 6), none⟩, ⟨.fad 8 (.t 2) 1 0, none⟩, ⟨.load 9 (.t 8) 0, none⟩, ⟨.len 10 (.t 9), none⟩, ⟨.bin 11 .lss (.t 7) (.t 10), none⟩] [])
 (.cond (.t 11) .skip (.exit 0)))
 (.seq (.block 1 (.rg 5 false [.kill 2 3] [⟨.mv 14 (.t 5), none⟩, ⟨.mv 15 (.t 1), none⟩, ⟨.fad 16 (.t 2) 1 0, none⟩, ⟨.load 17 (.t 16) 0, none⟩, ⟨.mv 18 (.t 6), none⟩, ⟨.ix 19 (.t 17) (.t 18) 2, none⟩, ⟨.fad 20 (.t 19) 0 0, none⟩, ⟨.load 21 (.t 20) 0, none⟩, ⟨.call 22 k_ref22_Lit [(.t 15), (.t 21)] none, none⟩, ⟨.bsl 23 2 1 1 (.k (.int .i64 0)) [(0, (.t 22))], none⟩, ⟨.app 24 3 1 (.t 14) (.t 23), none⟩, ⟨.mv 5 (.t 24), none⟩] []))
 (.rg 4 false [] [⟨.mv 12 (.t 6), none⟩, ⟨.bin 13 .add (.t 12) (.c (.d true (.int .i64 1))), none⟩, ⟨.mv 6 (.t 13), none⟩] [])))
def c_ref23_Behind : C :=
(.seq (.rg 0 false [] [⟨.box 2 0 (.t 0) 6, none⟩, ⟨.mv 4 (.c (.nil 1)), none⟩] [])
 (.seq (.rg 1 false [] [⟨.nilr 5 1 1, none⟩] [])
 (.seq (.seq (.rg 2 false [] [⟨.mv 6 (.c (.d true (.int .i64 0))), none⟩] [])
 (.block 0 (.loop c_ref23_Behind_l1)))
 (.seq (.rg 6 false [] [⟨.mv 25 (.t 5), none⟩, ⟨.mv 4 (.t 25), none⟩] [])
 .ret))))
def n_ref23_Behind : Fn := ⟨c_ref23_Behind, [.s 4], (some [false, false])⟩
def c_slices_pdqsortOrdered_of_int_l1 : C :=
(.block 1 (.seq (.rg 2 false [] [⟨.mv 19 (.t 2), none⟩, ⟨.mv 20 (.t 1), none⟩, ⟨.bin 21 .sub (.t 19) (.t 20), none⟩, ⟨.mv 10 (.t 21), none⟩] [])
 (.seq (.seq (.rg 3 false [] [⟨.mv 22 (.t 10), none⟩, ⟨.bin 23 .leq (.t 22) (.c (.d true (.int .i64 12))), none⟩] [])
 (.cond (.t 23) (.seq (.rg 4 false [] [⟨.mv 24 (.t 0), none⟩, ⟨.mv 25 (.t 1), none⟩, ⟨.mv 26 (.t 2), none⟩, ⟨.call 27 k_slices_insertionSortOrdered_of_int [(.t 24), (.t 25), (.t 26)] none, none⟩] [])
 .ret) .skip))
 (.seq (.seq (.rg 5 false [] [⟨.mv 28 (.t 3), none⟩, ⟨.bin 29 .eql (.t 28) (.c (.d true (.int .i64 0))), none⟩] [])
 (.cond (.t 29) (.seq (.rg 6 false [] [⟨.mv 30 (.t 0), none⟩, ⟨.mv 31 (.t 1), none⟩, ⟨.mv 32 (.t 2), none⟩, ⟨.call 33 k_slices_heapSortOrdered_of_int [(.t 30), (.t 31), (.t 32)] none, none⟩] [])
 .ret) .skip))
 (.seq (.seq (.rg 7 false [] [⟨.mv 34 (.t 8), none⟩, ⟨.un 35 .not (.t 34), none⟩] [])
 (.cond (.t 35) (.seq (.rg 8 false [] [⟨.mv 36 (.t 0), none⟩, ⟨.mv 37 (.t 1), none⟩, ⟨.mv 38 (.t 2), none⟩, ⟨.call 39 k_slices_breakPatternsOrdered_of_int [(.t 36), (.t 37), (.t 38)] none, none⟩] [])
 (.rg 9 false [] [⟨.mv 40 (.t 3), none⟩, ⟨.bin 41 .sub (.t 40) (.c (.d true (.int .i64 1))), none⟩, ⟨.mv 3 (.t 41), none⟩] [])) .skip))
 (.seq (.rg 10 false [] [⟨.mv 43 (.t 0), none⟩, ⟨.mv 44 (.t 1), none⟩, ⟨.mv 45 (.t 2), none⟩, ⟨.call 46 k_slices_choosePivotOrdered_of_int [(.t 43), (.t 44), (.t 45)] none, none⟩, ⟨.mv 42 (.t 46), none⟩, ⟨.xt 47 (.t 42) 0, none⟩, ⟨.xt 48 (.t 42) 1, none⟩, ⟨.mv 11 (.t 47), none⟩, ⟨.mv 12 (.t 48), none⟩] [])
 (.seq (.seq (.rg 11 false [] [⟨.mv 49 (.t 12), none⟩, ⟨.bin 50 .eql (.t 49) (.c (.d true (.int .i64 2))), none⟩] [])
 (.cond (.t 50) (.seq (.rg 12 false [] [⟨.mv 51 (.t 0), none⟩, ⟨.mv 52 (.t 1), none⟩, ⟨.mv 53 (.t 2), none⟩, ⟨.call 54 k_slices_reverseRangeOrdered_of_int [(.t 51), (.t 52), (.t 53)] none, none⟩] [])
 (.seq (.rg 13 false [] [⟨.mv 55 (.t 2), none⟩, ⟨.bin 56 .sub (.t 55) (.c (.d true (.int .i64 1))), none⟩, ⟨.mv 57 (.t 11), none⟩, ⟨.mv 58 (.t 1), none⟩, ⟨.bin 59 .sub (.t 57) (.t 58), none⟩, ⟨.bin 60 .sub (.t 56) (.t 59), none⟩, ⟨.mv 11 (.t 60), none⟩] [])
 (.rg 14 false [] [⟨.mv 12 (.c (.d true (.int .i64 1))), none⟩] []))) .skip))
 (.seq (.seq (.rg 15 false [] [⟨.mv 61 (.t 8), none⟩, ⟨.mv 62 (.t 61), none⟩, ⟨.mv 63 (.t 9), some (62, true)⟩, ⟨.pick 64 (.t 62) (.t 63) (.c (.d true (.bool false))), none⟩, ⟨.mv 65 (.t 64), none⟩, ⟨.mv 66 (.t 12), some (65, true)⟩, ⟨.bin 67 .eql (.t 66) (.c (.d true (.int .i64 1))), some (65, true)⟩, ⟨.pick 68 (.t 65) (.t 67) (.c (.d true (.bool false))), none⟩] [])
 (.cond (.t 68) (.seq (.rg 16 false [] [⟨.mv 69 (.t 0), none⟩, ⟨.mv 70 (.t 1), none⟩, ⟨.mv 71 (.t 2), none⟩, ⟨.call 72 k_slices_partialInsertionSortOrdered_of_int [(.t 69), (.t 70), (.t 71)] none, none⟩] [])
 (.cond (.t 72) .ret .skip)) .skip))
 (.seq (.seq (.rg 17 true [] [⟨.mv 73 (.t 1), none⟩, ⟨.bin 74 .gtr (.t 73) (.c (.d true (.int .i64 0))), none⟩, ⟨.mv 75 (.t 74), none⟩, ⟨.mv 76 (.t 0), some (75, true)⟩, ⟨.mv 77 (.t 1), some (75, true)⟩, ⟨.bin 78 .sub (.t 77) (.c (.d true (.int .i64 1))), some (75, true)⟩, ⟨.ix 79 (.t 76) (.t 78) 1, some (75, true)⟩, ⟨.load 80 (.t 79) 0, some (75, true)⟩, ⟨.mv 81 (.t 0), some (75, true)⟩, ⟨.mv 82 (.t 11), some (75, true)⟩, ⟨.ix 83 (.t 81) (.t 82) 1, some (75, true)⟩, ⟨.load 84 (.t 83) 0, some (75, true)⟩, ⟨.call 85 k_cmp_Less_of_int [(.t 80), (.t 84)] none, some (75, true)⟩, ⟨.un 86 .not (.t 85), some (75, true)⟩, ⟨.pick 87 (.t 75) (.t 86) (.c (.d true (.bool false))), none⟩] [])
 (.cond (.t 87) (.seq (.rg 18 false [] [⟨.mv 88 (.t 0), none⟩, ⟨.mv 89 (.t 1), none⟩, ⟨.mv 90 (.t 2), none⟩, ⟨.mv 91 (.t 11), none⟩, ⟨.call 92 k_slices_partitionEqualOrdered_of_int [(.t 88), (.t 89), (.t 90), (.t 91)] none, none⟩, ⟨.mv 13 (.t 92), none⟩] [])
 (.seq (.rg 19 false [] [⟨.mv 93 (.t 13), none⟩, ⟨.mv 1 (.t 93), none⟩] [])
 (.exit 1))) .skip))
 (.seq (.rg 20 false [] [⟨.mv 95 (.t 0), none⟩, ⟨.mv 96 (.t 1), none⟩, ⟨.mv 97 (.t 2), none⟩, ⟨.mv 98 (.t 11), none⟩, ⟨.call 99 k_slices_partitionOrdered_of_int [(.t 95), (.t 96), (.t 97), (.t 98)] none, none⟩, ⟨.mv 94 (.t 99), none⟩, ⟨.xt 100 (.t 94) 0, none⟩, ⟨.xt 101 (.t 94) 1, none⟩, ⟨.mv 14 (.t 100), none⟩, ⟨.mv 15 (.t 101), none⟩] [])
 (.seq (.rg 21 false [] [⟨.mv 102 (.t 15), none⟩, ⟨.mv 9 (.t 102), none⟩] [])
 (.seq (.rg 22 false [] [⟨.mv 103 (.t 14), none⟩, ⟨.mv 104 (.t 1), none⟩, ⟨.bin 105 .sub (.t 103) (.t 104), none⟩, ⟨.mv 106 (.t 2), none⟩, ⟨.mv 107 (.t 14), none⟩, ⟨.bin 108 .sub (.t 106) (.t 107), none⟩, ⟨.mv 16 (.t 105), none⟩, ⟨.mv 17 (.t 108), none⟩] [])
 (.seq (.rg 23 false [] [⟨.mv 109 (.t 10), none⟩, ⟨.bin 110 .quo (.t 109) (.c (.d true (.int .i64 8))), none⟩, ⟨.mv 18 (.t 110), none⟩] [])
 (.seq (.rg 24 false [] [⟨.mv 111 (.t 16), none⟩, ⟨.mv 112 (.t 17), none⟩, ⟨.bin 113 .lss (.t 111) (.t 112), none⟩] [])
 (.cond (.t 113) (.seq (.rg 25 false [] [⟨.mv 114 (.t 16), none⟩, ⟨.mv 115 (.t 18), none⟩, ⟨.bin 116 .geq (.t 114) (.t 115), none⟩, ⟨.mv 8 (.t 116), none⟩] [])
 (.seq (.rg 26 false [] [⟨.mv 117 (.t 0), none⟩, ⟨.mv 118 (.t 1), none⟩, ⟨.mv 119 (.t 14), none⟩, ⟨.mv 120 (.t 3), none⟩, ⟨.call 121 k_slices_pdqsortOrdered_of_int [(.t 117), (.t 118), (.t 119), (.t 120)] none, none⟩] [])
 (.rg 27 false [] [⟨.mv 122 (.t 14), none⟩, ⟨.bin 123 .add (.t 122) (.c (.d true (.int .i64 1))), none⟩, ⟨.mv 1 (.t 123), none⟩] []))) (.seq (.rg 28 false [] [⟨.mv 124 (.t 17), none⟩, ⟨.mv 125 (.t 18), none⟩, ⟨.bin 126 .geq (.t 124) (.t 125), none⟩, ⟨.mv 8 (.t 126), none⟩] [])
 (.seq (.rg 29 false [] [⟨.mv 127 (.t 0), none⟩, ⟨.mv 128 (.t 14), none⟩, ⟨.bin 129 .add (.t 128) (.c (.d true (.int .i64 1))), none⟩, ⟨.mv 130 (.t 2), none⟩, ⟨.mv 131 (.t 3), none⟩, ⟨.call 132 k_slices_pdqsortOrdered_of_int [(.t 127), (.t 129), (.t 130), (.t 131)] none, none⟩] [])
 (.rg 30 false [] [⟨.mv 133 (.t 14), none⟩, ⟨.mv 2 (.t 133), none⟩] []))))))))))))))))))
def c_slices_pdqsortOrdered_of_int : C :=
(.seq (.rg 0 false [] [⟨.mv 8 (.c (.d true (.bool true))), none⟩] [])
 (.seq (.rg 1 false [] [⟨.mv 9 (.c (.d true (.bool true))), none⟩] [])
 (.block 0 (.loop c_slices_pdqsortOrdered_of_int_l1))))
def n_slices_pdqsortOrdered_of_int : Fn := ⟨c_slices_pdqsortOrdered_of_int, [], none⟩
def c_bits_Len : C :=
(.seq (.rg 0 false [] [⟨.mv 2 (.c (.d true (.int .i64 0))), none⟩] [])
 (.seq (.cond (.c (.d true (.bool false))) (.seq (.rg 1 false [] [⟨.mv 3 (.t 0), none⟩, ⟨.cvt 4 .u32 (.t 3), none⟩, ⟨.call 5 k_bits_Len32 [(.t 4)] none, none⟩, ⟨.mv 2 (.t 5), none⟩] [])
 .ret) .skip)
 (.seq (.rg 2 false [] [⟨.mv 6 (.t 0), none⟩, ⟨.call 7 k_bits_Len64 [(.t 6)] none, none⟩, ⟨.mv 2 (.t 7), none⟩] [])
 .ret)))
def n_bits_Len : Fn := ⟨c_bits_Len, [.s 2], (some [false])⟩
def c_ref13_Without_p1 : C :=
(.block 1 (.seq (.rg 5 false [] [⟨(.mv 13 (.t 0)), none⟩, ⟨(.mv 14 (.t 6)), none⟩, ⟨(.ix 15 (.t 13) (.t 14) 1), none⟩, ⟨(.load 16 (.t 15) 0), none⟩, ⟨(.mv 17 (.t 1)), none⟩, ⟨(.bin 18 .neq (.t 16) (.t 17)), none⟩] [])
 (.cond (.t 18) (.rg 6 false [(.kill 1 2)] [⟨(.mv 19 (.t 5)), none⟩, ⟨(.mv 20 (.t 0)), none⟩, ⟨(.mv 21 (.t 6)), none⟩, ⟨(.ix 22 (.t 20) (.t 21) 1), none⟩, ⟨(.load 23 (.t 22) 0), none⟩, ⟨(.bsl 24 1 1 1 (.k (.int .i64 0)) [(0, (.t 23))]), none⟩, ⟨(.app 25 2 1 (.t 19) (.t 24)), none⟩, ⟨(.mv 5 (.t 25)), none⟩] []) .skip)))
def c_ref13_Without_l1 : C :=
(.seq (.seq (.rg 3 false [] [⟨(.mv 7 (.t 6)), none⟩, ⟨(.mv 8 (.t 0)), none⟩, ⟨(.len 9 (.t 8)), none⟩, ⟨(.bin 10 .lss (.t 7) (.t 9)), none⟩] [])
 (.cond (.t 10) .skip (.exit 0)))
 (.seq c_ref13_Without_p1
 (.rg 4 false [] [⟨(.mv 11 (.t 6)), none⟩, ⟨(.bin 12 .add (.t 11) (.c (.d true (.int .i64 1)))), none⟩, ⟨(.mv 6 (.t 12)), none⟩] [])))
def c_ref13_Without : C :=
(.seq (.rg 0 false [] [⟨(.mv 4 (.c (.nil 1))), none⟩] [])
 (.seq (.rg 1 false [] [⟨(.nilr 5 0 1), none⟩] [])
 (.seq (.seq (.rg 2 false [] [⟨(.mv 6 (.c (.d true (.int .i64 0)))), none⟩] [])
 (.block 0 (.loop c_ref13_Without_l1)))
 (.seq (.rg 7 false [] [⟨(.mv 26 (.t 5)), none⟩, ⟨(.mv 4 (.t 26)), none⟩] [])
 .ret))))
def n_ref13_Without : Fn := ⟨c_ref13_Without, [.s 4], (some [false, false])⟩
def c_ref13_Always_l1 : C :=
(.seq (.seq (.rg 2 false [] [⟨.mv 4 (.t 3), none⟩, ⟨.mv 5 (.t 0), none⟩, ⟨.len 6 (.t 5), none⟩, ⟨.bin 7 .lss (.t 4) (.t 6), none⟩] [])
 (.cond (.t 7) .skip (.exit 0)))
 (.seq (.block 1 (.seq (.rg 4 false [] [⟨.mv 10 (.t 0), none⟩, ⟨.mv 11 (.t 0), none⟩, ⟨.mv 12 (.t 3), none⟩, ⟨.ix 13 (.t 11) (.t 12) 1, none⟩, ⟨.load 14 (.t 13) 0, none⟩, ⟨.call 15 k_ref13_Not [(.t 14)] none, none⟩, ⟨.call 16 k_ref13_Has [(.t 10), (.t 15)] none, none⟩] [])
 (.cond (.t 16) (.seq (.rg 5 false [] [⟨.mv 2 (.c (.d true (.bool true))), none⟩] [])
 .ret) .skip)))
 (.rg 3 false [] [⟨.mv 8 (.t 3), none⟩, ⟨.bin 9 .add (.t 8) (.c (.d true (.int .i64 1))), none⟩, ⟨.mv 3 (.t 9), none⟩] [])))
def c_ref13_Always : C :=
(.seq (.rg 0 false [] [⟨.mv 2 (.c (.d true (.bool false))), none⟩] [])
 (.seq (.seq (.rg 1 false [] [⟨.mv 3 (.c (.d true (.int .i64 0))), none⟩] [])
 (.block 0 (.loop c_ref13_Always_l1)))
 (.seq (.rg 6 false [] [⟨.mv 2 (.c (.d true (.bool false))), none⟩] [])
 .ret)))
def n_ref13_Always : Fn := ⟨c_ref13_Always, [.s 2], (some [false])⟩
def c_ref13_Sorted_p1 : C :=
(.rg 8 true [] [⟨(.mv 28 (.t 5)), none⟩, ⟨(.bin 29 .gtr (.t 28) (.c (.d true (.int .i64 0)))), none⟩, ⟨(.mv 30 (.t 29)), none⟩, ⟨(.mv 31 (.t 3)), (some (30, true))⟩, ⟨(.mv 32 (.t 5)), (some (30, true))⟩, ⟨(.ix 33 (.t 31) (.t 32) 1), (some (30, true))⟩, ⟨(.load 34 (.t 33) 0), (some (30, true))⟩, ⟨(.mv 35 (.t 3)), (some (30, true))⟩, ⟨(.mv 36 (.t 5)), (some (30, true))⟩, ⟨(.bin 37 .sub (.t 36) (.c (.d true (.int .i64 1)))), (some (30, true))⟩, ⟨(.ix 38 (.t 35) (.t 37) 1), (some (30, true))⟩, ⟨(.load 39 (.t 38) 0), (some (30, true))⟩, ⟨(.bin 40 .lss (.t 34) (.t 39)), (some (30, true))⟩, ⟨(.pick 41 (.t 30) (.t 40) (.c (.d true (.bool false)))), none⟩] [])
def c_ref13_Sorted_l1 : C :=
(.seq (.seq c_ref13_Sorted_p1
 (.cond (.t 41) .skip (.exit 2)))
 (.seq (.block 3 (.rg 10 true [] [⟨(.mv 44 (.t 3)), none⟩, ⟨(.mv 45 (.t 5)), none⟩, ⟨(.mv 46 (.t 3)), none⟩, ⟨(.mv 47 (.t 5)), none⟩, ⟨(.bin 48 .sub (.t 47) (.c (.d true (.int .i64 1)))), none⟩, ⟨(.mv 49 (.t 3)), none⟩, ⟨(.mv 50 (.t 5)), none⟩, ⟨(.bin 51 .sub (.t 50) (.c (.d true (.int .i64 1)))), none⟩, ⟨(.ix 52 (.t 49) (.t 51) 1), none⟩, ⟨(.load 53 (.t 52) 0), none⟩, ⟨(.mv 54 (.t 3)), none⟩, ⟨(.mv 55 (.t 5)), none⟩, ⟨(.ix 56 (.t 54) (.t 55) 1), none⟩, ⟨(.load 57 (.t 56) 0), none⟩, ⟨(.ix 58 (.t 44) (.t 45) 1), none⟩, ⟨(.store (.t 58) (.t 53) 0), none⟩, ⟨(.ix 59 (.t 46) (.t 48) 1), none⟩, ⟨(.store (.t 59) (.t 57) 0), none⟩] []))
 (.rg 9 false [] [⟨(.mv 42 (.t 5)), none⟩, ⟨(.bin 43 .sub (.t 42) (.c (.d true (.int .i64 1)))), none⟩, ⟨(.mv 5 (.t 43)), none⟩] [])))
def c_ref13_Sorted_p2 : C :=
(.block 1 (.seq (.seq (.rg 5 false [] [⟨(.mv 12 (.t 3)), none⟩, ⟨(.mv 13 (.t 0)), none⟩, ⟨(.mv 14 (.t 4)), none⟩, ⟨(.ix 15 (.t 13) (.t 14) 1), none⟩, ⟨(.load 16 (.t 15) 0), none⟩, ⟨(.call 17 k_ref13_Has [(.t 12), (.t 16)] none), none⟩] [])
 (.cond (.t 17) (.exit 1) .skip))
 (.seq (.rg 6 false [(.kill 1 2)] [⟨(.mv 18 (.t 3)), none⟩, ⟨(.mv 19 (.t 0)), none⟩, ⟨(.mv 20 (.t 4)), none⟩, ⟨(.ix 21 (.t 19) (.t 20) 1), none⟩, ⟨(.load 22 (.t 21) 0), none⟩, ⟨(.bsl 23 1 1 1 (.k (.int .i64 0)) [(0, (.t 22))]), none⟩, ⟨(.app 24 2 1 (.t 18) (.t 23)), none⟩, ⟨(.mv 3 (.t 24)), none⟩] [])
 (.seq (.rg 7 false [(.settle 0)] [⟨(.mv 25 (.t 3)), none⟩, ⟨(.len 26 (.t 25)), none⟩, ⟨(.bin 27 .sub (.t 26) (.c (.d true (.int .i64 1)))), none⟩, ⟨(.mv 5 (.t 27)), none⟩] [])
 (.block 2 (.loop c_ref13_Sorted_l1))))))
def c_ref13_Sorted_l2 : C :=
(.seq (.seq (.rg 3 false [] [⟨(.mv 6 (.t 4)), none⟩, ⟨(.mv 7 (.t 0)), none⟩, ⟨(.len 8 (.t 7)), none⟩, ⟨(.bin 9 .lss (.t 6) (.t 8)), none⟩] [])
 (.cond (.t 9) .skip (.exit 0)))
 (.seq c_ref13_Sorted_p2
 (.rg 4 false [] [⟨(.mv 10 (.t 4)), none⟩, ⟨(.bin 11 .add (.t 10) (.c (.d true (.int .i64 1)))), none⟩, ⟨(.mv 4 (.t 11)), none⟩] [])))
def c_ref13_Sorted : C :=
(.seq (.rg 0 false [] [⟨(.mv 2 (.c (.nil 1))), none⟩] [])
 (.seq (.rg 1 false [] [⟨(.nilr 3 0 1), none⟩] [])
 (.seq (.seq (.rg 2 false [] [⟨(.mv 4 (.c (.d true (.int .i64 0)))), none⟩] [])
 (.block 0 (.loop c_ref13_Sorted_l2)))
 (.seq (.rg 11 false [] [⟨(.mv 60 (.t 3)), none⟩, ⟨(.mv 2 (.t 60)), none⟩] [])
 .ret))))
def n_ref13_Sorted : Fn := ⟨c_ref13_Sorted, [.s 2], (some [false])⟩
def c_ref22_Lit : C :=
(.seq (.rg 0 false [] [⟨.mv 4 (.c (.d true (.int .i64 0))), none⟩] [])
 (.seq (.seq (.rg 1 false [] [⟨.mv 5 (.t 1), none⟩, ⟨.bin 6 .rem (.t 5) (.c (.d true (.int .i64 2))), none⟩, ⟨.bin 7 .eql (.t 6) (.c (.d true (.int .i64 1))), none⟩] [])
 (.cond (.t 7) (.seq (.rg 2 false [] [⟨.mv 8 (.t 0), none⟩, ⟨.mv 9 (.t 1), none⟩, ⟨.bin 10 .quo (.t 9) (.c (.d true (.int .i64 2))), none⟩, ⟨.ix 11 (.t 8) (.t 10) 1, none⟩, ⟨.load 12 (.t 11) 0, none⟩, ⟨.call 13 k_ref22_Not [(.t 12)] none, none⟩, ⟨.mv 4 (.t 13), none⟩] [])
 .ret) .skip))
 (.seq (.rg 3 false [] [⟨.mv 14 (.t 0), none⟩, ⟨.mv 15 (.t 1), none⟩, ⟨.bin 16 .quo (.t 15) (.c (.d true (.int .i64 2))), none⟩, ⟨.ix 17 (.t 14) (.t 16) 1, none⟩, ⟨.load 18 (.t 17) 0, none⟩, ⟨.mv 4 (.t 18), none⟩] [])
 .ret)))
def n_ref22_Lit : Fn := ⟨c_ref22_Lit, [.s 4], (some [false, false])⟩
def c_cmp_isNaN_of_int : C :=
(.seq (.rg 0 false [] [⟨.mv 2 (.c (.d true (.bool false))), none⟩] [])
 (.seq (.rg 1 false [] [⟨.mv 3 (.t 0), none⟩, ⟨.mv 4 (.t 0), none⟩, ⟨.bin 5 .neq (.t 3) (.t 4), none⟩, ⟨.mv 2 (.t 5), none⟩] [])
 .ret))
def n_cmp_isNaN_of_int : Fn := ⟨c_cmp_isNaN_of_int, [.s 2], (some [false])⟩
def c_clause_Make_p1 : C :=
(.rg 1 false [] [⟨(.mv 10 (.t 0)), none⟩, ⟨(.bin 11 .lss (.t 10) (.c (.d true (.int .i64 0)))), none⟩, ⟨(.mv 12 (.t 11)), none⟩, ⟨(.mv 13 (.t 0)), (some (12, false))⟩, ⟨(.bin 14 .gtr (.t 13) (.c (.d true (.int .i64 4000)))), (some (12, false))⟩, ⟨(.pick 15 (.t 12) (.c (.d true (.bool true))) (.t 14)), none⟩] [])
def c_clause_Make_l1 : C :=
(.seq (.rg 4 false [] [⟨(.bin 19 .lss (.t 18) (.t 17)), none⟩] [])
 (.seq (.cond (.t 19) .skip (.exit 0))
 (.seq (.block 1 (.seq (.rg 5 false [] [⟨(.ix 20 (.t 16) (.t 18) 1), none⟩, ⟨(.load 21 (.t 20) 0), none⟩, ⟨(.mv 8 (.t 21)), none⟩] [])
 (.seq (.rg 6 false [] [⟨(.mv 22 (.t 0)), none⟩, ⟨(.mv 23 (.t 8)), none⟩, ⟨(.call 24 k_clause_known [(.t 22), (.t 23)] none), none⟩, ⟨(.un 25 .not (.t 24)), none⟩] [])
 (.cond (.t 25) (.seq (.rg 7 false [] [⟨(.mv 4 (.c (.nil 1))), none⟩, ⟨(.mv 5 (.c (.d true (.bool false)))), none⟩, ⟨(.mv 6 (.c (.d true (.int .i64 8)))), none⟩] [])
 .ret) .skip))))
 (.rg 8 false [] [⟨(.bin 26 .add (.t 18) (.c (.d true (.int .i64 1)))), none⟩, ⟨(.mv 18 (.t 26)), none⟩] []))))
def c_clause_Make_p2 : C :=
(.rg 15 true [] [⟨(.mv 38 (.t 9)), none⟩, ⟨(.bin 39 .gtr (.t 38) (.c (.d true (.int .i64 0)))), none⟩, ⟨(.mv 40 (.t 39)), none⟩, ⟨(.mv 41 (.t 4)), (some (40, true))⟩, ⟨(.mv 42 (.t 9)), (some (40, true))⟩, ⟨(.ix 43 (.t 41) (.t 42) 1), (some (40, true))⟩, ⟨(.load 44 (.t 43) 0), (some (40, true))⟩, ⟨(.bin 45 .quo (.t 44) (.c (.d true (.int .i64 2)))), (some (40, true))⟩, ⟨(.mv 46 (.t 4)), (some (40, true))⟩, ⟨(.mv 47 (.t 9)), (some (40, true))⟩, ⟨(.bin 48 .sub (.t 47) (.c (.d true (.int .i64 1)))), (some (40, true))⟩, ⟨(.ix 49 (.t 46) (.t 48) 1), (some (40, true))⟩, ⟨(.load 50 (.t 49) 0), (some (40, true))⟩, ⟨(.bin 51 .quo (.t 50) (.c (.d true (.int .i64 2)))), (some (40, true))⟩, ⟨(.bin 52 .eql (.t 45) (.t 51)), (some (40, true))⟩, ⟨(.pick 53 (.t 40) (.t 52) (.c (.d true (.bool false)))), none⟩] [])
def c_clause_Make_l2 : C :=
(.seq (.rg 13 false [] [⟨(.bin 36 .lss (.t 35) (.t 34)), none⟩] [])
 (.seq (.cond (.t 36) .skip (.exit 2))
 (.seq (.block 3 (.seq (.rg 14 false [] [⟨(.mv 37 (.t 35)), none⟩, ⟨(.mv 9 (.t 37)), none⟩] [])
 (.seq c_clause_Make_p2
 (.cond (.t 53) (.seq (.rg 16 false [] [⟨(.mv 4 (.c (.nil 1))), none⟩, ⟨(.mv 5 (.c (.d true (.bool true)))), none⟩, ⟨(.mv 6 (.c (.d true (.int .i64 0)))), none⟩] [])
 .ret) .skip))))
 (.rg 17 false [] [⟨(.bin 54 .add (.t 35) (.c (.d true (.int .i64 1)))), none⟩, ⟨(.mv 35 (.t 54)), none⟩] []))))
def c_clause_Make : C :=
(.seq (.rg 0 false [] [⟨(.mv 4 (.c (.nil 1))), none⟩, ⟨(.mv 5 (.c (.d true (.bool false)))), none⟩, ⟨(.mv 6 (.c (.d true (.int .i64 0)))), none⟩] [])
 (.seq (.seq c_clause_Make_p1
 (.cond (.t 15) (.seq (.rg 2 false [] [⟨(.mv 4 (.c (.nil 1))), none⟩, ⟨(.mv 5 (.c (.d true (.bool false)))), none⟩, ⟨(.mv 6 (.c (.d true (.int .i64 2)))), none⟩] [])
 .ret) .skip))
 (.seq (.seq (.rg 3 false [] [⟨(.mv 16 (.t 1)), none⟩, ⟨(.len 17 (.t 16)), none⟩, ⟨(.mv 18 (.c (.d true (.int .i64 0)))), none⟩] [])
 (.block 0 (.loop c_clause_Make_l1)))
 (.seq (.rg 9 false [] [⟨(.mv 27 (.t 1)), none⟩, ⟨(.call 28 k_slices_Clone_of_int [(.t 27)] (some 20)), none⟩, ⟨(.mv 4 (.t 28)), none⟩] [])
 (.seq (.rg 10 false [] [⟨(.mv 29 (.t 4)), none⟩, ⟨(.call 30 k_slices_Sort_of_int [(.t 29)] none), none⟩] [])
 (.seq (.rg 11 false [] [⟨(.mv 31 (.t 4)), none⟩, ⟨(.call 32 k_slices_Compact_of_int [(.t 31)] none), none⟩, ⟨(.mv 4 (.t 32)), none⟩] [])
 (.seq (.seq (.rg 12 false [] [⟨(.mv 33 (.t 4)), none⟩, ⟨(.len 34 (.t 33)), none⟩, ⟨(.mv 35 (.c (.d true (.int .i64 0)))), none⟩] [])
 (.block 2 (.loop c_clause_Make_l2)))
 (.seq (.rg 18 false [] [⟨(.mv 55 (.t 4)), none⟩, ⟨(.mv 4 (.t 55)), none⟩, ⟨(.mv 5 (.c (.d true (.bool false)))), none⟩, ⟨(.mv 6 (.c (.d true (.int .i64 0)))), none⟩] [])
 .ret))))))))
def n_clause_Make : Fn := ⟨c_clause_Make, [.s 4, .s 5, .s 6], (some [false, false])⟩
def c_ref02_Gate : C :=
(.seq (.rg 0 false [] [⟨.box 2 0 (.t 0) 6, none⟩, ⟨.mv 4 (.c (.d true (.int .i64 0))), none⟩] [])
 (.seq (.rg 1 false [] [⟨.mv 5 (.t 1), none⟩, ⟨.bin 6 .sub (.t 5) (.c (.d true (.int .i64 1))), none⟩, ⟨.fad 7 (.t 2) 0 0, none⟩, ⟨.load 8 (.t 7) 0, none⟩, ⟨.bin 9 .sub (.t 6) (.t 8), none⟩, ⟨.fad 10 (.t 2) 1 0, none⟩, ⟨.load 11 (.t 10) 0, none⟩, ⟨.len 12 (.t 11), none⟩, ⟨.bin 13 .sub (.t 9) (.t 12), none⟩, ⟨.mv 4 (.t 13), none⟩] [])
 .ret))
def n_ref02_Gate : Fn := ⟨c_ref02_Gate, [.s 4], (some [false, false])⟩
def c_ref22_Gate : C :=
(.seq (.rg 0 false [] [⟨.mv 8 (.c (.nil 1)), none⟩] [])
 (.seq (.rg 1 false [] [⟨.mv 9 (.t 0), none⟩, ⟨.mv 10 (.t 1), none⟩, ⟨.call 11 k_ref22_Not [(.t 10)] none, none⟩, ⟨.mv 12 (.t 2), none⟩, ⟨.bsl 13 0 1 2 (.k (.int .i64 0)) [(0, (.t 11)), (1, (.t 12))], none⟩, ⟨.call 14 k_ref22_Put [(.t 9), (.t 13)] none, none⟩, ⟨.mv 0 (.t 14), none⟩] [])
 (.seq (.rg 2 false [] [⟨.mv 15 (.t 0), none⟩, ⟨.mv 16 (.t 1), none⟩, ⟨.call 17 k_ref22_Not [(.t 16)] none, none⟩, ⟨.mv 18 (.t 3), none⟩, ⟨.bsl 19 1 1 2 (.k (.int .i64 0)) [(0, (.t 17)), (1, (.t 18))], none⟩, ⟨.call 20 k_ref22_Put [(.t 15), (.t 19)] none, none⟩, ⟨.mv 0 (.t 20), none⟩] [])
 (.seq (.rg 3 false [] [⟨.mv 21 (.t 0), none⟩, ⟨.mv 22 (.t 1), none⟩, ⟨.mv 23 (.t 2), none⟩, ⟨.call 24 k_ref22_Not [(.t 23)] none, none⟩, ⟨.mv 25 (.t 3), none⟩, ⟨.call 26 k_ref22_Not [(.t 25)] none, none⟩, ⟨.bsl 27 2 1 3 (.k (.int .i64 0)) [(0, (.t 22)), (1, (.t 24)), (2, (.t 26))], none⟩, ⟨.call 28 k_ref22_Put [(.t 21), (.t 27)] none, none⟩, ⟨.mv 8 (.t 28), none⟩] [])
 .ret))))
def n_ref22_Gate : Fn := ⟨c_ref22_Gate, [.s 8], none⟩
def c_slices_insertionSortOrdered_of_int_l1 : C :=
(.seq (.seq (.rg 4 true [] [⟨.mv 16 (.t 7), none⟩, ⟨.mv 17 (.t 1), none⟩, ⟨.bin 18 .gtr (.t 16) (.t 17), none⟩, ⟨.mv 19 (.t 18), none⟩, ⟨.mv 20 (.t 0), some (19, true)⟩, ⟨.mv 21 (.t 7), some (19, true)⟩, ⟨.ix 22 (.t 20) (.t 21) 1, some (19, true)⟩, ⟨.load 23 (.t 22) 0, some (19, true)⟩, ⟨.mv 24 (.t 0), some (19, true)⟩, ⟨.mv 25 (.t 7), some (19, true)⟩, ⟨.bin 26 .sub (.t 25) (.c (.d true (.int .i64 1))), some (19, true)⟩, ⟨.ix 27 (.t 24) (.t 26) 1, some (19, true)⟩, ⟨.load 28 (.t 27) 0, some (19, true)⟩, ⟨.call 29 k_cmp_Less_of_int [(.t 23), (.t 28)] none, some (19, true)⟩, ⟨.pick 30 (.t 19) (.t 29) (.c (.d true (.bool false))), none⟩] [])
 (.cond (.t 30) .skip (.exit 2)))
 (.seq (.block 3 (.rg 6 true [] [⟨.mv 33 (.t 0), none⟩, ⟨.mv 34 (.t 7), none⟩, ⟨.mv 35 (.t 0), none⟩, ⟨.mv 36 (.t 7), none⟩, ⟨.bin 37 .sub (.t 36) (.c (.d true (.int .i64 1))), none⟩, ⟨.mv 38 (.t 0), none⟩, ⟨.mv 39 (.t 7), none⟩, ⟨.bin 40 .sub (.t 39) (.c (.d true (.int .i64 1))), none⟩, ⟨.ix 41 (.t 38) (.t 40) 1, none⟩, ⟨.load 42 (.t 41) 0, none⟩, ⟨.mv 43 (.t 0), none⟩, ⟨.mv 44 (.t 7), none⟩, ⟨.ix 45 (.t 43) (.t 44) 1, none⟩, ⟨.load 46 (.t 45) 0, none⟩, ⟨.ix 47 (.t 33) (.t 34) 1, none⟩, ⟨.store (.t 47) (.t 42) 0, none⟩, ⟨.ix 48 (.t 35) (.t 37) 1, none⟩, ⟨.store (.t 48) (.t 46) 0, none⟩] []))
 (.rg 5 false [] [⟨.mv 31 (.t 7), none⟩, ⟨.bin 32 .sub (.t 31) (.c (.d true (.int .i64 1))), none⟩, ⟨.mv 7 (.t 32), none⟩] [])))
def c_slices_insertionSortOrdered_of_int_l2 : C :=
(.seq (.seq (.rg 1 false [] [⟨.mv 10 (.t 6), none⟩, ⟨.mv 11 (.t 2), none⟩, ⟨.bin 12 .lss (.t 10) (.t 11), none⟩] [])
 (.cond (.t 12) .skip (.exit 0)))
 (.seq (.block 1 (.seq (.rg 3 false [] [⟨.mv 15 (.t 6), none⟩, ⟨.mv 7 (.t 15), none⟩] [])
 (.block 2 (.loop c_slices_insertionSortOrdered_of_int_l1))))
 (.rg 2 false [] [⟨.mv 13 (.t 6), none⟩, ⟨.bin 14 .add (.t 13) (.c (.d true (.int .i64 1))), none⟩, ⟨.mv 6 (.t 14), none⟩] [])))
def c_slices_insertionSortOrdered_of_int : C :=
(.seq (.rg 0 false [] [⟨.mv 8 (.t 1), none⟩, ⟨.bin 9 .add (.t 8) (.c (.d true (.int .i64 1))), none⟩, ⟨.mv 6 (.t 9), none⟩] [])
 (.block 0 (.loop c_slices_insertionSortOrdered_of_int_l2)))
def n_slices_insertionSortOrdered_of_int : Fn := ⟨c_slices_insertionSortOrdered_of_int, [], none⟩
def c_bits_Len32 : C :=
(.seq (.rg 0 false [] [⟨.mv 2 (.c (.d true (.int .i64 0))), none⟩] [])
 (.seq (.seq (.rg 1 false [] [⟨.mv 3 (.t 0), none⟩, ⟨.bin 4 .geq (.t 3) (.c (.d true (.int .u32 65536))), none⟩] [])
 (.cond (.t 4) (.seq (.rg 2 false [] [⟨.mv 5 (.t 0), none⟩, ⟨.bin 6 .shr (.t 5) (.c (.d true (.int .u64 16))), none⟩, ⟨.mv 0 (.t 6), none⟩] [])
 (.rg 3 false [] [⟨.mv 2 (.c (.d true (.int .i64 16))), none⟩] [])) .skip))
 (.seq (.seq (.rg 4 false [] [⟨.mv 7 (.t 0), none⟩, ⟨.bin 8 .geq (.t 7) (.c (.d true (.int .u32 256))), none⟩] [])
 (.cond (.t 8) (.seq (.rg 5 false [] [⟨.mv 9 (.t 0), none⟩, ⟨.bin 10 .shr (.t 9) (.c (.d true (.int .u64 8))), none⟩, ⟨.mv 0 (.t 10), none⟩] [])
 (.rg 6 false [] [⟨.mv 11 (.t 2), none⟩, ⟨.bin 12 .add (.t 11) (.c (.d true (.int .i64 8))), none⟩, ⟨.mv 2 (.t 12), none⟩] [])) .skip))
 (.seq (.rg 7 false [] [⟨.mv 13 (.t 2), none⟩, ⟨.mv 14 (.t 0), none⟩, ⟨.cvt 15 .u8 (.t 14), none⟩, ⟨.stx 16 [0, 1, 2, 2, 3, 3, 3, 3, 4, 4, 4, 4, 4, 4, 4, 4, 5, 5, 5, 5, 5, 5, 5, 5, 5, 5, 5, 5, 5, 5, 5, 5, 6, 6, 6, 6, 6, 6, 6, 6, 6, 6, 6, 6, 6, 6, 6, 6, 6, 6, 6, 6, 6, 6, 6, 6, 6, 6, 6, 6, 6, 6, 6, 6, 7, 7, 7, 7, 7, 7, 7, 7, 7, 7, 7, 7, 7, 7, 7, 7, 7, 7, 7, 7, 7, 7, 7, 7, 7, 7, 7, 7, 7, 7, 7, 7, 7, 7, 7, 7, 7, 7, 7, 7, 7, 7, 7, 7, 7, 7, 7, 7, 7, 7, 7, 7, 7, 7, 7, 7, 7, 7, 7, 7, 7, 7, 7, 7, 8, 8, 8, 8, 8, 8, 8, 8, 8, 8, 8, 8, 8, 8, 8, 8, 8, 8, 8, 8, 8, 8, 8, 8, 8, 8, 8, 8, 8, 8, 8, 8, 8, 8, 8, 8, 8, 8, 8, 8, 8, 8, 8, 8, 8, 8, 8, 8, 8, 8, 8, 8, 8, 8, 8, 8, 8, 8, 8, 8, 8, 8, 8, 8, 8, 8, 8, 8, 8, 8, 8, 8, 8, 8, 8, 8, 8, 8, 8, 8, 8, 8, 8, 8, 8, 8, 8, 8, 8, 8, 8, 8, 8, 8, 8, 8, 8, 8, 8, 8, 8, 8, 8, 8, 8, 8, 8, 8, 8, 8, 8, 8, 8, 8, 8, 8, 8, 8, 8, 8, 8, 8, 8, 8, 8, 8, 8, 8] (.t 15), none⟩, ⟨.cvt 17 .i64 (.t 16), none⟩, ⟨.bin 18 .add (.t 13) (.t 17), none⟩, ⟨.mv 2 (.t 18), none⟩] [])
 .ret))))
def n_bits_Len32 : Fn := ⟨c_bits_Len32, [.s 2], (some [false])⟩
def c_bits_Len64 : C :=
(.seq (.rg 0 false [] [⟨.mv 2 (.c (.d true (.int .i64 0))), none⟩] [])
 (.seq (.seq (.rg 1 false [] [⟨.mv 3 (.t 0), none⟩, ⟨.bin 4 .geq (.t 3) (.c (.d true (.int .u64 4294967296))), none⟩] [])
 (.cond (.t 4) (.seq (.rg 2 false [] [⟨.mv 5 (.t 0), none⟩, ⟨.bin 6 .shr (.t 5) (.c (.d true (.int .u64 32))), none⟩, ⟨.mv 0 (.t 6), none⟩] [])
 (.rg 3 false [] [⟨.mv 2 (.c (.d true (.int .i64 32))), none⟩] [])) .skip))
 (.seq (.seq (.rg 4 false [] [⟨.mv 7 (.t 0), none⟩, ⟨.bin 8 .geq (.t 7) (.c (.d true (.int .u64 65536))), none⟩] [])
 (.cond (.t 8) (.seq (.rg 5 false [] [⟨.mv 9 (.t 0), none⟩, ⟨.bin 10 .shr (.t 9) (.c (.d true (.int .u64 16))), none⟩, ⟨.mv 0 (.t 10), none⟩] [])
 (.rg 6 false [] [⟨.mv 11 (.t 2), none⟩, ⟨.bin 12 .add (.t 11) (.c (.d true (.int .i64 16))), none⟩, ⟨.mv 2 (.t 12), none⟩] [])) .skip))
 (.seq (.seq (.rg 7 false [] [⟨.mv 13 (.t 0), none⟩, ⟨.bin 14 .geq (.t 13) (.c (.d true (.int .u64 256))), none⟩] [])
 (.cond (.t 14) (.seq (.rg 8 false [] [⟨.mv 15 (.t 0), none⟩, ⟨.bin 16 .shr (.t 15) (.c (.d true (.int .u64 8))), none⟩, ⟨.mv 0 (.t 16), none⟩] [])
 (.rg 9 false [] [⟨.mv 17 (.t 2), none⟩, ⟨.bin 18 .add (.t 17) (.c (.d true (.int .i64 8))), none⟩, ⟨.mv 2 (.t 18), none⟩] [])) .skip))
 (.seq (.rg 10 false [] [⟨.mv 19 (.t 2), none⟩, ⟨.mv 20 (.t 0), none⟩, ⟨.cvt 21 .u8 (.t 20), none⟩, ⟨.stx 22 [0, 1, 2, 2, 3, 3, 3, 3, 4, 4, 4, 4, 4, 4, 4, 4, 5, 5, 5, 5, 5, 5, 5, 5, 5, 5, 5, 5, 5, 5, 5, 5, 6, 6, 6, 6, 6, 6, 6, 6, 6, 6, 6, 6, 6, 6, 6, 6, 6, 6, 6, 6, 6, 6, 6, 6, 6, 6, 6, 6, 6, 6, 6, 6, 7, 7, 7, 7, 7, 7, 7, 7, 7, 7, 7, 7, 7, 7, 7, 7, 7, 7, 7, 7, 7, 7, 7, 7, 7, 7, 7, 7, 7, 7, 7, 7, 7, 7, 7, 7, 7, 7, 7, 7, 7, 7, 7, 7, 7, 7, 7, 7, 7, 7, 7, 7, 7, 7, 7, 7, 7, 7, 7, 7, 7, 7, 7, 7, 8, 8, 8, 8, 8, 8, 8, 8, 8, 8, 8, 8, 8, 8, 8, 8, 8, 8, 8, 8, 8, 8, 8, 8, 8, 8, 8, 8, 8, 8, 8, 8, 8, 8, 8, 8, 8, 8, 8, 8, 8, 8, 8, 8, 8, 8, 8, 8, 8, 8, 8, 8, 8, 8, 8, 8, 8, 8, 8, 8, 8, 8, 8, 8, 8, 8, 8, 8, 8, 8, 8, 8, 8, 8, 8, 8, 8, 8, 8, 8, 8, 8, 8, 8, 8, 8, 8, 8, 8, 8, 8, 8, 8, 8, 8, 8, 8, 8, 8, 8, 8, 8, 8, 8, 8, 8, 8, 8, 8, 8, 8, 8, 8, 8, 8, 8, 8, 8, 8, 8, 8, 8, 8, 8, 8, 8, 8, 8] (.t 21), none⟩, ⟨.cvt 23 .i64 (.t 22), none⟩, ⟨.bin 24 .add (.t 19) (.t 23), none⟩, ⟨.mv 2 (.t 24), none⟩] [])
 .ret)))))
def n_bits_Len64 : Fn := ⟨c_bits_Len64, [.s 2], (some [false])⟩
def c_ref13_Not : C :=
(.seq (.rg 0 false [] [⟨.mv 2 (.c (.d true (.int .i64 0))), none⟩] [])
 (.seq (.seq (.rg 1 false [] [⟨.mv 3 (.t 0), none⟩, ⟨.bin 4 .rem (.t 3) (.c (.d true (.int .i64 2))), none⟩, ⟨.bin 5 .eql (.t 4) (.c (.d true (.int .i64 0))), none⟩] [])
 (.cond (.t 5) (.seq (.rg 2 false [] [⟨.mv 6 (.t 0), none⟩, ⟨.bin 7 .add (.t 6) (.c (.d true (.int .i64 1))), none⟩, ⟨.mv 2 (.t 7), none⟩] [])
 .ret) .skip))
 (.seq (.rg 3 false [] [⟨.mv 8 (.t 0), none⟩, ⟨.bin 9 .sub (.t 8) (.c (.d true (.int .i64 1))), none⟩, ⟨.mv 2 (.t 9), none⟩] [])
 .ret)))
def n_ref13_Not : Fn := ⟨c_ref13_Not, [.s 2], (some [false])⟩
def c_ref22_Not : C :=
(.seq (.rg 0 false [] [⟨.mv 2 (.c (.d true (.int .i64 0))), none⟩] [])
 (.seq (.rg 1 false [] [⟨.mv 3 (.t 0), none⟩, ⟨.call 4 k_ref13_Not [(.t 3)] none, none⟩, ⟨.mv 2 (.t 4), none⟩] [])
 .ret))
def n_ref22_Not : Fn := ⟨c_ref22_Not, [.s 2], (some [false])⟩
def fnList : List (Nat × Fn) := [(k_law23_UnrollFree, n_law23_UnrollFree),
  (k_ref13_SameAll, n_ref13_SameAll),
  (k_ref13_Same, n_ref13_Same),
  (k_law23_great, n_law23_great),
  (k_unroll_Of, n_unroll_Of),
  (k_ref23_Of, n_ref23_Of),
  (k_unroll_Free, n_unroll_Free),
  (k_ref23_Free, n_ref23_Free),
  (k_ref22_Same, n_ref22_Same),
  (k_law23_alive, n_law23_alive),
  (k_ref02_Check, n_ref02_Check),
  (k_unroll_Trace, n_unroll_Trace),
  (k_law23_turns, n_law23_turns),
  (k_ref06_Same, n_ref06_Same),
  (k_values_Next, n_values_Next),
  (k_ref22_Check, n_ref22_Check),
  (k_law23_named, n_law23_named),
  (k_solve_Model, n_solve_Model),
  (k_clause_Check, n_clause_Check),
  (k_ref13_Valid, n_ref13_Valid),
  (k_slices_ContainsFunc_of_int, n_slices_ContainsFunc_of_int),
  (k_ref02_Great, n_ref02_Great),
  (k_ref02_Size, n_ref02_Size),
  (k_gates_Check, n_gates_Check),
  (k_unroll_made, n_unroll_made),
  (k_ref23_Asked, n_ref23_Asked),
  (k_ref02_literals, n_ref02_literals),
  (k_gates_Vars, n_gates_Vars),
  (k_tseitin_Check, n_tseitin_Check),
  (k_unroll_value, n_unroll_value),
  (k_ref04_Same, n_ref04_Same),
  (k_ref06_SameAll, n_ref06_SameAll),
  (k_values_list, n_values_list),
  (k_values_Next_1, n_values_Next_1),
  (k_ref13_Vars, n_ref13_Vars),
  (k_ref15_Wrong, n_ref15_Wrong),
  (k_values_All, n_values_All),
  (k_ref22_True, n_ref22_True),
  (k_solve_check, n_solve_check),
  (k_clause_True, n_clause_True),
  (k_clause_known, n_clause_known),
  (k_ref13_Lit, n_ref13_Lit),
  (k_slices_IndexFunc_of_int, n_slices_IndexFunc_of_int),
  (k_gates_starts, n_gates_starts),
  (k_gates_Check_1, n_gates_Check_1),
  (k_gates_Check_2, n_gates_Check_2),
  (k_slices_ContainsFunc_of_api_Latch, n_slices_ContainsFunc_of_api_Latch),
  (k_unroll_frames_frame, n_unroll_frames_frame),
  (k_unroll_lit, n_unroll_lit),
  (k_ref23_Made, n_ref23_Made),
  (k_slices_Sort_of_int, n_slices_Sort_of_int),
  (k_slices_Compact_of_int, n_slices_Compact_of_int),
  (k_values_of, n_values_of),
  (k_ref13_Check, n_ref13_Check),
  (k_ref13_Truth, n_ref13_Truth),
  (k_cmp_Less_of_int, n_cmp_Less_of_int),
  (k_ref13_Has, n_ref13_Has),
  (k_slices_IndexFunc_of_api_Latch, n_slices_IndexFunc_of_api_Latch),
  (k_unroll_frames_fresh, n_unroll_frames_fresh),
  (k_unroll_frames_add, n_unroll_frames_add),
  (k_ref23_Resets, n_ref23_Resets),
  (k_ref23_More, n_ref23_More),
  (k_ref23_Behind, n_ref23_Behind),
  (k_slices_pdqsortOrdered_of_int, n_slices_pdqsortOrdered_of_int),
  (k_bits_Len, n_bits_Len),
  (k_ref13_Without, n_ref13_Without),
  (k_ref13_Always, n_ref13_Always),
  (k_ref13_Sorted, n_ref13_Sorted),
  (k_ref22_Lit, n_ref22_Lit),
  (k_cmp_isNaN_of_int, n_cmp_isNaN_of_int),
  (k_clause_Make, n_clause_Make),
  (k_ref02_Gate, n_ref02_Gate),
  (k_ref22_Gate, n_ref22_Gate),
  (k_slices_insertionSortOrdered_of_int, n_slices_insertionSortOrdered_of_int),
  (k_bits_Len32, n_bits_Len32),
  (k_bits_Len64, n_bits_Len64),
  (k_ref13_Not, n_ref13_Not),
  (k_ref22_Not, n_ref22_Not)]
def fnOf (f : Nat) : Option Fn := lk fnList f
theorem fn_law23_UnrollFree : fnOf k_law23_UnrollFree = some n_law23_UnrollFree := by kernel_rfl
theorem fn_ref13_SameAll : fnOf k_ref13_SameAll = some n_ref13_SameAll := by kernel_rfl
theorem fn_ref13_Same : fnOf k_ref13_Same = some n_ref13_Same := by kernel_rfl
theorem fn_law23_great : fnOf k_law23_great = some n_law23_great := by kernel_rfl
theorem fn_unroll_Of : fnOf k_unroll_Of = some n_unroll_Of := by kernel_rfl
theorem fn_ref23_Of : fnOf k_ref23_Of = some n_ref23_Of := by kernel_rfl
theorem fn_unroll_Free : fnOf k_unroll_Free = some n_unroll_Free := by kernel_rfl
theorem fn_ref23_Free : fnOf k_ref23_Free = some n_ref23_Free := by kernel_rfl
theorem fn_ref22_Same : fnOf k_ref22_Same = some n_ref22_Same := by kernel_rfl
theorem fn_law23_alive : fnOf k_law23_alive = some n_law23_alive := by kernel_rfl
theorem fn_ref02_Check : fnOf k_ref02_Check = some n_ref02_Check := by kernel_rfl
theorem fn_unroll_Trace : fnOf k_unroll_Trace = some n_unroll_Trace := by kernel_rfl
theorem fn_law23_turns : fnOf k_law23_turns = some n_law23_turns := by kernel_rfl
theorem fn_ref06_Same : fnOf k_ref06_Same = some n_ref06_Same := by kernel_rfl
theorem fn_values_Next : fnOf k_values_Next = some n_values_Next := by kernel_rfl
theorem fn_ref22_Check : fnOf k_ref22_Check = some n_ref22_Check := by kernel_rfl
theorem fn_law23_named : fnOf k_law23_named = some n_law23_named := by kernel_rfl
theorem fn_solve_Model : fnOf k_solve_Model = some n_solve_Model := by kernel_rfl
theorem fn_clause_Check : fnOf k_clause_Check = some n_clause_Check := by kernel_rfl
theorem fn_ref13_Valid : fnOf k_ref13_Valid = some n_ref13_Valid := by kernel_rfl
theorem fn_slices_ContainsFunc_of_int : fnOf k_slices_ContainsFunc_of_int = some n_slices_ContainsFunc_of_int := by kernel_rfl
theorem fn_ref02_Great : fnOf k_ref02_Great = some n_ref02_Great := by kernel_rfl
theorem fn_ref02_Size : fnOf k_ref02_Size = some n_ref02_Size := by kernel_rfl
theorem fn_gates_Check : fnOf k_gates_Check = some n_gates_Check := by kernel_rfl
theorem fn_unroll_made : fnOf k_unroll_made = some n_unroll_made := by kernel_rfl
theorem fn_ref23_Asked : fnOf k_ref23_Asked = some n_ref23_Asked := by kernel_rfl
theorem fn_ref02_literals : fnOf k_ref02_literals = some n_ref02_literals := by kernel_rfl
theorem fn_gates_Vars : fnOf k_gates_Vars = some n_gates_Vars := by kernel_rfl
theorem fn_tseitin_Check : fnOf k_tseitin_Check = some n_tseitin_Check := by kernel_rfl
theorem fn_unroll_value : fnOf k_unroll_value = some n_unroll_value := by kernel_rfl
theorem fn_ref04_Same : fnOf k_ref04_Same = some n_ref04_Same := by kernel_rfl
theorem fn_ref06_SameAll : fnOf k_ref06_SameAll = some n_ref06_SameAll := by kernel_rfl
theorem fn_values_list : fnOf k_values_list = some n_values_list := by kernel_rfl
theorem fn_values_Next_1 : fnOf k_values_Next_1 = some n_values_Next_1 := by kernel_rfl
theorem fn_ref13_Vars : fnOf k_ref13_Vars = some n_ref13_Vars := by kernel_rfl
theorem fn_ref15_Wrong : fnOf k_ref15_Wrong = some n_ref15_Wrong := by kernel_rfl
theorem fn_values_All : fnOf k_values_All = some n_values_All := by kernel_rfl
theorem fn_ref22_True : fnOf k_ref22_True = some n_ref22_True := by kernel_rfl
theorem fn_solve_check : fnOf k_solve_check = some n_solve_check := by kernel_rfl
theorem fn_clause_True : fnOf k_clause_True = some n_clause_True := by kernel_rfl
theorem fn_clause_known : fnOf k_clause_known = some n_clause_known := by kernel_rfl
theorem fn_ref13_Lit : fnOf k_ref13_Lit = some n_ref13_Lit := by kernel_rfl
theorem fn_slices_IndexFunc_of_int : fnOf k_slices_IndexFunc_of_int = some n_slices_IndexFunc_of_int := by kernel_rfl
theorem fn_gates_starts : fnOf k_gates_starts = some n_gates_starts := by kernel_rfl
theorem fn_gates_Check_1 : fnOf k_gates_Check_1 = some n_gates_Check_1 := by kernel_rfl
theorem fn_gates_Check_2 : fnOf k_gates_Check_2 = some n_gates_Check_2 := by kernel_rfl
theorem fn_slices_ContainsFunc_of_api_Latch : fnOf k_slices_ContainsFunc_of_api_Latch = some n_slices_ContainsFunc_of_api_Latch := by kernel_rfl
theorem fn_unroll_frames_frame : fnOf k_unroll_frames_frame = some n_unroll_frames_frame := by kernel_rfl
theorem fn_unroll_lit : fnOf k_unroll_lit = some n_unroll_lit := by kernel_rfl
theorem fn_ref23_Made : fnOf k_ref23_Made = some n_ref23_Made := by kernel_rfl
theorem fn_slices_Sort_of_int : fnOf k_slices_Sort_of_int = some n_slices_Sort_of_int := by kernel_rfl
theorem fn_slices_Compact_of_int : fnOf k_slices_Compact_of_int = some n_slices_Compact_of_int := by kernel_rfl
theorem fn_values_of : fnOf k_values_of = some n_values_of := by kernel_rfl
theorem fn_ref13_Check : fnOf k_ref13_Check = some n_ref13_Check := by kernel_rfl
theorem fn_ref13_Truth : fnOf k_ref13_Truth = some n_ref13_Truth := by kernel_rfl
theorem fn_cmp_Less_of_int : fnOf k_cmp_Less_of_int = some n_cmp_Less_of_int := by kernel_rfl
theorem fn_ref13_Has : fnOf k_ref13_Has = some n_ref13_Has := by kernel_rfl
theorem fn_slices_IndexFunc_of_api_Latch : fnOf k_slices_IndexFunc_of_api_Latch = some n_slices_IndexFunc_of_api_Latch := by kernel_rfl
theorem fn_unroll_frames_fresh : fnOf k_unroll_frames_fresh = some n_unroll_frames_fresh := by kernel_rfl
theorem fn_unroll_frames_add : fnOf k_unroll_frames_add = some n_unroll_frames_add := by kernel_rfl
theorem fn_ref23_Resets : fnOf k_ref23_Resets = some n_ref23_Resets := by kernel_rfl
theorem fn_ref23_More : fnOf k_ref23_More = some n_ref23_More := by kernel_rfl
theorem fn_ref23_Behind : fnOf k_ref23_Behind = some n_ref23_Behind := by kernel_rfl
theorem fn_slices_pdqsortOrdered_of_int : fnOf k_slices_pdqsortOrdered_of_int = some n_slices_pdqsortOrdered_of_int := by kernel_rfl
theorem fn_bits_Len : fnOf k_bits_Len = some n_bits_Len := by kernel_rfl
theorem fn_ref13_Without : fnOf k_ref13_Without = some n_ref13_Without := by kernel_rfl
theorem fn_ref13_Always : fnOf k_ref13_Always = some n_ref13_Always := by kernel_rfl
theorem fn_ref13_Sorted : fnOf k_ref13_Sorted = some n_ref13_Sorted := by kernel_rfl
theorem fn_ref22_Lit : fnOf k_ref22_Lit = some n_ref22_Lit := by kernel_rfl
theorem fn_cmp_isNaN_of_int : fnOf k_cmp_isNaN_of_int = some n_cmp_isNaN_of_int := by kernel_rfl
theorem fn_clause_Make : fnOf k_clause_Make = some n_clause_Make := by kernel_rfl
theorem fn_ref02_Gate : fnOf k_ref02_Gate = some n_ref02_Gate := by kernel_rfl
theorem fn_ref22_Gate : fnOf k_ref22_Gate = some n_ref22_Gate := by kernel_rfl
theorem fn_slices_insertionSortOrdered_of_int : fnOf k_slices_insertionSortOrdered_of_int = some n_slices_insertionSortOrdered_of_int := by kernel_rfl
theorem fn_ref13_Not : fnOf k_ref13_Not = some n_ref13_Not := by kernel_rfl
theorem fn_ref22_Not : fnOf k_ref22_Not = some n_ref22_Not := by kernel_rfl
theorem fn_slices_Clone_of_int : fnOf k_slices_Clone_of_int = none := by kernel_rfl
end Go.Proofs.Ytbmhmfcjjhjkgaa.Vm
