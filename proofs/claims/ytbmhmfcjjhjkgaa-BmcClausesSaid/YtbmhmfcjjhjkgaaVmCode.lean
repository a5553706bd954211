/- The functions, as the machine's code. Printed. -/
import Derived.Test.YtbmhmfcjjhjkgaaVmP1
import Derived.KernelRfl
namespace Go.Proofs.Ytbmhmfcjjhjkgaa.Vm
open Go
def k_law36_BmcClauses : Nat := 7
def k_ref13_SameAll : Nat := 21
def k_ref36_Great : Nat := 23
def k_ref13_Same : Nat := 30
def k_unroll_Of : Nat := 32
def k_ref23_Of : Nat := 33
def k_ref22_Same : Nat := 36
def k_ref02_Check : Nat := 38
def k_ref02_Twin : Nat := 39
def k_bmc_Clauses : Nat := 40
def k_ref36_Clauses : Nat := 41
def k_ref02_Same : Nat := 42
def k_slices_Clone_of_int : Nat := 62
def k_slices_ContainsFunc_of_int : Nat := 66
def k_ref02_Great : Nat := 69
def k_ref02_Size : Nat := 70
def k_gates_Check : Nat := 79
def k_unroll_made : Nat := 82
def k_ref23_Asked : Nat := 83
def k_ref02_literals : Nat := 84
def k_bmc_asked : Nat := 85
def k_bmc_put : Nat := 86
def k_ref36_asked : Nat := 87
def k_ref36_Made : Nat := 88
def k_ref02_SameInts : Nat := 89
def k_clause_known : Nat := 106
def k_slices_IndexFunc_of_int : Nat := 111
def k_gates_starts : Nat := 119
def k_gates_Check_1 : Nat := 120
def k_gates_Check_2 : Nat := 121
def k_slices_ContainsFunc_of_api_Latch : Nat := 122
def k_unroll_frames_frame : Nat := 124
def k_unroll_lit : Nat := 125
def k_ref23_Made : Nat := 126
def k_slices_Sort_of_int : Nat := 127
def k_slices_Compact_of_int : Nat := 128
def k_ref36_With : Nat := 129
def k_ref22_Put : Nat := 130
def k_ref36_Told : Nat := 131
def k_cmp_Less_of_int : Nat := 137
def k_ref13_Has : Nat := 139
def k_slices_IndexFunc_of_api_Latch : Nat := 146
def k_unroll_frames_fresh : Nat := 147
def k_unroll_frames_add : Nat := 148
def k_ref23_Resets : Nat := 149
def k_ref23_More : Nat := 150
def k_ref23_Behind : Nat := 151
def k_slices_pdqsortOrdered_of_int : Nat := 152
def k_bits_Len : Nat := 153
def k_ref13_Without : Nat := 154
def k_ref13_Always : Nat := 155
def k_ref13_Sorted : Nat := 156
def k_ref22_Lit : Nat := 157
def k_cmp_isNaN_of_int : Nat := 164
def k_clause_Make : Nat := 171
def k_ref02_Gate : Nat := 172
def k_ref22_Gate : Nat := 173
def k_slices_insertionSortOrdered_of_int : Nat := 174
def k_slices_heapSortOrdered_of_int : Nat := 175
def k_slices_breakPatternsOrdered_of_int : Nat := 176
def k_slices_choosePivotOrdered_of_int : Nat := 177
def k_slices_reverseRangeOrdered_of_int : Nat := 178
def k_slices_partialInsertionSortOrdered_of_int : Nat := 179
def k_slices_partitionEqualOrdered_of_int : Nat := 180
def k_slices_partitionOrdered_of_int : Nat := 181
def k_bits_Len32 : Nat := 182
def k_bits_Len64 : Nat := 183
def k_ref13_Not : Nat := 184
def k_ref22_Not : Nat := 185
def c_law36_BmcClauses_p1 : C :=
(.rg 1 false [] [{i := .load 10 (.t 2) 6}, {i := .call 11 k_ref36_Great [(.t 10)] none}, {i := .mv 12 (.t 11)}, ⟨(.mv 13 (.t 1)), (some (12, false))⟩, ⟨(.bin 14 .gtr (.t 13) (.c (.d true (.int .i64 5)))), (some (12, false))⟩, ⟨(.mv 15 (.t 14)), (some (12, false))⟩, ⟨(.mv 16 (.t 1)), (some (15, true))⟩, ⟨(.bin 17 .lss (.t 16) (.c (.d true (.int .i64 100)))), (some (15, true))⟩, ⟨(.pick 18 (.t 15) (.t 17) (.c (.d true (.bool false)))), (some (12, false))⟩, {i := .pick 19 (.t 12) (.c (.d true (.bool true))) (.t 18)}] [])
def c_law36_BmcClauses_p2 : C :=
(.rg 6 false [] [{i := .load 34 (.t 6) 4}, {i := .load 35 (.t 8) 4}, {i := .call 36 k_ref22_Same [(.t 34), (.t 35)] none}, {i := .mv 37 (.t 36)}, ⟨(.mv 38 (.t 7)), (some (37, true))⟩, ⟨(.mv 39 (.t 9)), (some (37, true))⟩, ⟨(.bin 40 .eql (.t 38) (.t 39)), (some (37, true))⟩, {i := .pick 41 (.t 37) (.t 40) (.c (.d true (.bool false)))}, {i := .mv 42 (.t 41)}, ⟨(.load 43 (.t 5) 6), (some (42, true))⟩, ⟨(.load 44 (.t 2) 6), (some (42, true))⟩, ⟨(.call 45 k_ref02_Same [(.t 43), (.t 44)] none), (some (42, true))⟩, {i := .pick 46 (.t 42) (.t 45) (.c (.d true (.bool false)))}, {i := .mv 4 (.t 46)}] [])
def c_law36_BmcClauses : C :=
(.seq (.rg 0 false [] [{i := .box 2 0 (.t 0) 6}, {i := .mv 4 (.c (.d true (.bool false)))}] [])
 (.seq (.seq c_law36_BmcClauses_p1
 (.cond (.t 19) (.seq (.rg 2 false [] [{i := .mv 4 (.c (.d true (.bool true)))}] [])
 .ret) .skip))
 (.seq (.rg 3 false [] [{i := .load 20 (.t 2) 6}, {i := .call 21 k_ref02_Twin [(.t 20)] none}, {i := .alloc 5 1 [(.k (.int .i64 0)), (.n 2), (.n 2), (.n 1), (.n 1)]}, {i := .store (.t 5) (.t 21) 6}] [])
 (.seq (.rg 4 false [] [{i := .load 23 (.t 5) 6}, {i := .mv 24 (.t 1)}, {i := .call 25 k_bmc_Clauses [(.t 23), (.t 24)] none}, {i := .mv 22 (.t 25)}, {i := .xt 26 (.t 22) 0}, {i := .xt 27 (.t 22) 1}, {i := .alloc 6 2 [(.k (.int .i64 0)), (.n 1), (.n 1)]}, {i := .store (.t 6) (.t 26) 4}, {i := .mv 7 (.t 27)}] [])
 (.seq (.rg 5 false [] [{i := .load 29 (.t 2) 6}, {i := .mv 30 (.t 1)}, {i := .call 31 k_ref36_Clauses [(.t 29), (.t 30)] none}, {i := .mv 28 (.t 31)}, {i := .xt 32 (.t 28) 0}, {i := .xt 33 (.t 28) 1}, {i := .alloc 8 3 [(.k (.int .i64 0)), (.n 1), (.n 1)]}, {i := .store (.t 8) (.t 32) 4}, {i := .mv 9 (.t 33)}] [])
 (.seq c_law36_BmcClauses_p2
 .ret))))))
def n_law36_BmcClauses : Fn := ⟨c_law36_BmcClauses, [.s 4], (some [false, false])⟩
def c_ref13_SameAll_l1 : C :=
(.seq (.seq (.rg 4 false [] [{i := .mv 11 (.t 5)}, {i := .mv 12 (.t 0)}, {i := .len 13 (.t 12)}, {i := .bin 14 .lss (.t 11) (.t 13)}] [])
 (.cond (.t 14) .skip (.exit 0)))
 (.seq (.block 1 (.seq (.rg 6 true [] [{i := .mv 17 (.t 0)}, {i := .mv 18 (.t 5)}, {i := .ix 19 (.t 17) (.t 18) 1}, {i := .load 20 (.t 19) 0}, {i := .mv 21 (.t 1)}, {i := .mv 22 (.t 5)}, {i := .ix 23 (.t 21) (.t 22) 1}, {i := .load 24 (.t 23) 0}, {i := .call 25 k_ref13_Same [(.t 20), (.t 24)] none}, {i := .un 26 .not (.t 25)}] [])
 (.cond (.t 26) (.seq (.rg 7 false [] [{i := .mv 4 (.c (.d true (.bool false)))}] [])
 .ret) .skip)))
 (.rg 5 false [] [{i := .mv 15 (.t 5)}, {i := .bin 16 .add (.t 15) (.c (.d true (.int .i64 1)))}, {i := .mv 5 (.t 16)}] [])))
def c_ref13_SameAll : C :=
(.seq (.rg 0 false [] [{i := .mv 4 (.c (.d true (.bool false)))}] [])
 (.seq (.seq (.rg 1 false [] [{i := .mv 6 (.t 0)}, {i := .len 7 (.t 6)}, {i := .mv 8 (.t 1)}, {i := .len 9 (.t 8)}, {i := .bin 10 .neq (.t 7) (.t 9)}] [])
 (.cond (.t 10) (.seq (.rg 2 false [] [{i := .mv 4 (.c (.d true (.bool false)))}] [])
 .ret) .skip))
 (.seq (.seq (.rg 3 false [] [{i := .mv 5 (.c (.d true (.int .i64 0)))}] [])
 (.block 0 (.loop c_ref13_SameAll_l1)))
 (.seq (.rg 8 false [] [{i := .mv 4 (.c (.d true (.bool true)))}] [])
 .ret))))
def n_ref13_SameAll : Fn := ⟨c_ref13_SameAll, [.s 4], (some [false, false])⟩
def c_ref36_Great_p1 : C :=
(.rg 3 false [] [{i := .load 5 (.t 1) 6}, {i := .call 6 k_ref02_Check [(.t 5)] none}, {i := .bin 7 .eql (.t 6) (.c (.d true (.int .i64 0)))}, {i := .mv 8 (.t 7)}, ⟨(.load 9 (.t 1) 6), (some (8, true))⟩, ⟨(.call 10 k_ref02_Size [(.t 9)] none), (some (8, true))⟩, ⟨(.bin 11 .gtr (.t 10) (.c (.d true (.int .i64 40)))), (some (8, true))⟩, ⟨(.mv 12 (.t 11)), (some (8, true))⟩, ⟨(.fad 13 (.t 1) 3 0), (some (12, false))⟩, ⟨(.load 14 (.t 13) 0), (some (12, false))⟩, ⟨(.len 15 (.t 14)), (some (12, false))⟩, ⟨(.bin 16 .gtr (.t 15) (.c (.d true (.int .i64 10)))), (some (12, false))⟩, ⟨(.pick 17 (.t 12) (.c (.d true (.bool true))) (.t 16)), (some (8, true))⟩, ⟨(.mv 18 (.t 17)), (some (8, true))⟩, ⟨(.fad 19 (.t 1) 4 0), (some (18, false))⟩, ⟨(.load 20 (.t 19) 0), (some (18, false))⟩, ⟨(.len 21 (.t 20)), (some (18, false))⟩, ⟨(.bin 22 .gtr (.t 21) (.c (.d true (.int .i64 10)))), (some (18, false))⟩, ⟨(.pick 23 (.t 18) (.c (.d true (.bool true))) (.t 22)), (some (8, true))⟩, {i := .pick 24 (.t 8) (.t 23) (.c (.d true (.bool false)))}, {i := .mv 2 (.t 24)}] [])
def c_ref36_Great : C :=
(.seq (.rg 0 false [] [{i := .box 1 0 (.t 0) 6}, {i := .mv 2 (.c (.d true (.bool false)))}] [])
 (.seq (.seq (.rg 1 false [] [{i := .load 3 (.t 1) 6}, {i := .call 4 k_ref02_Great [(.t 3)] none}] [])
 (.cond (.t 4) (.seq (.rg 2 false [] [{i := .mv 2 (.c (.d true (.bool true)))}] [])
 .ret) .skip))
 (.seq c_ref36_Great_p1
 .ret)))
def n_ref36_Great : Fn := ⟨c_ref36_Great, [.s 2], (some [false])⟩
def c_ref13_Same_l1 : C :=
(.seq (.seq (.rg 4 false [] [{i := .mv 11 (.t 5)}, {i := .mv 12 (.t 0)}, {i := .len 13 (.t 12)}, {i := .bin 14 .lss (.t 11) (.t 13)}] [])
 (.cond (.t 14) .skip (.exit 0)))
 (.seq (.block 1 (.seq (.rg 6 true [] [{i := .mv 17 (.t 0)}, {i := .mv 18 (.t 5)}, {i := .ix 19 (.t 17) (.t 18) 1}, {i := .load 20 (.t 19) 0}, {i := .mv 21 (.t 1)}, {i := .mv 22 (.t 5)}, {i := .ix 23 (.t 21) (.t 22) 1}, {i := .load 24 (.t 23) 0}, {i := .bin 25 .neq (.t 20) (.t 24)}] [])
 (.cond (.t 25) (.seq (.rg 7 false [] [{i := .mv 4 (.c (.d true (.bool false)))}] [])
 .ret) .skip)))
 (.rg 5 false [] [{i := .mv 15 (.t 5)}, {i := .bin 16 .add (.t 15) (.c (.d true (.int .i64 1)))}, {i := .mv 5 (.t 16)}] [])))
def c_ref13_Same : C :=
(.seq (.rg 0 false [] [{i := .mv 4 (.c (.d true (.bool false)))}] [])
 (.seq (.seq (.rg 1 false [] [{i := .mv 6 (.t 0)}, {i := .len 7 (.t 6)}, {i := .mv 8 (.t 1)}, {i := .len 9 (.t 8)}, {i := .bin 10 .neq (.t 7) (.t 9)}] [])
 (.cond (.t 10) (.seq (.rg 2 false [] [{i := .mv 4 (.c (.d true (.bool false)))}] [])
 .ret) .skip))
 (.seq (.seq (.rg 3 false [] [{i := .mv 5 (.c (.d true (.int .i64 0)))}] [])
 (.block 0 (.loop c_ref13_Same_l1)))
 (.seq (.rg 8 false [] [{i := .mv 4 (.c (.d true (.bool true)))}] [])
 .ret))))
def n_ref13_Same : Fn := ⟨c_ref13_Same, [.s 4], (some [false, false])⟩
def c_unroll_Of_p1 : C :=
(.seq (.rg 9 false [] [{i := .fad 26 (.t 9) 1 0}, {i := .load 27 (.t 26) 0}, {i := .bin 28 .eql (.t 27) (.c (.d true (.int .i64 2)))}] [])
 (.cond (.t 28) (.rg 10 false [] [{i := .mv 10 (.c (.d true (.int .i64 (-1))))}] []) .skip))
def c_unroll_Of_l1 : C :=
(.seq (.rg 6 false [] [{i := .bin 21 .lss (.t 20) (.t 19)}] [])
 (.seq (.cond (.t 21) .skip (.exit 0))
 (.seq (.block 1 (.seq (.rg 7 false [(.kill 5 6)] [{i := .ix 22 (.t 18) (.t 20) 2}, {i := .load 23 (.t 22) 3}, {i := .alloc 9 5 [(.k (.int .i64 0)), (.k (.int .i64 0))]}, {i := .store (.t 9) (.t 23) 3}] [])
 (.seq (.rg 8 false [] [{i := .fad 24 (.t 9) 1 0}, {i := .load 25 (.t 24) 0}, {i := .mv 10 (.t 25)}] [])
 (.seq c_unroll_Of_p1
 (.rg 11 false [(.kill 6 7)] [{i := .mv 29 (.t 7)}, {i := .mv 30 (.t 10)}, {i := .bsl 31 6 1 1 (.k (.int .i64 0)) [(0, (.t 30))]}, {i := .app 32 7 1 (.t 29) (.t 31)}, {i := .mv 7 (.t 32)}] [])))))
 (.rg 12 false [] [{i := .bin 33 .add (.t 20) (.c (.d true (.int .i64 1)))}, {i := .mv 20 (.t 33)}] []))))
def c_unroll_Of : C :=
(.seq (.rg 0 false [] [{i := .box 2 0 (.t 0) 6}, {i := .alloc 4 1 [(.k (.int .i64 0)), (.r 2 1), (.r 3 1)]}, {i := .mv 5 (.c (.d true (.int .i64 0)))}] [])
 (.seq (.seq (.rg 1 false [] [{i := .load 11 (.t 2) 6}, {i := .call 12 k_gates_Check [(.t 11)] none}, {i := .mv 6 (.t 12)}] [])
 (.seq (.rg 2 false [] [{i := .mv 13 (.t 6)}, {i := .bin 14 .neq (.t 13) (.c (.d true (.int .i64 0)))}] [])
 (.cond (.t 14) (.seq (.rg 3 false [] [{i := .bld 15 [(.k (.int .i64 0)), (.n 1), (.n 1)] []}, {i := .mv 16 (.t 6)}, {i := .store (.t 4) (.t 15) 4}, {i := .mv 5 (.t 16)}] [])
 .ret) .skip)))
 (.seq (.rg 4 false [] [{i := .nilr 7 4 1}] [])
 (.seq (.seq (.rg 5 false [] [{i := .fad 17 (.t 2) 1 0}, {i := .load 18 (.t 17) 0}, {i := .len 19 (.t 18)}, {i := .mv 20 (.c (.d true (.int .i64 0)))}] [])
 (.block 0 (.loop c_unroll_Of_l1)))
 (.seq (.rg 13 false [] [{i := .load 34 (.t 2) 6}, {i := .mv 35 (.t 1)}, {i := .mv 36 (.t 7)}, {i := .call 37 k_unroll_made [(.t 34), (.t 35), (.t 36)] (some 30)}, {i := .xt 38 (.t 37) 0}, {i := .xt 39 (.t 37) 1}, {i := .store (.t 4) (.t 38) 4}, {i := .mv 5 (.t 39)}] [])
 .ret)))))
def n_unroll_Of : Fn := ⟨c_unroll_Of, [.c 4 4, .s 5], (some [false, false])⟩
def c_ref23_Of : C :=
(.seq (.rg 0 false [] [{i := .box 2 0 (.t 0) 6}, {i := .alloc 4 1 [.k (.int .i64 0), .r 2 1, .r 3 1]}, {i := .mv 5 (.c (.d true (.int .i64 0)))}] [])
 (.seq (.rg 1 false [] [{i := .load 6 (.t 2) 6}, {i := .mv 7 (.t 1)}, {i := .call 8 k_ref23_Asked [(.t 6), (.t 7), (.c (.d true (.bool false)))] (some 30)}, {i := .xt 9 (.t 8) 0}, {i := .xt 10 (.t 8) 1}, {i := .store (.t 4) (.t 9) 4}, {i := .mv 5 (.t 10)}] [])
 .ret))
def n_ref23_Of : Fn := ⟨c_ref23_Of, [.c 4 4, .s 5], (some [false, false])⟩
def c_ref22_Same_p1 : C :=
(.rg 1 false [] [{i := .fad 5 (.t 2) 0 0}, {i := .load 6 (.t 5) 0}, {i := .fad 7 (.t 3) 0 0}, {i := .load 8 (.t 7) 0}, {i := .bin 9 .eql (.t 6) (.t 8)}, {i := .mv 10 (.t 9)}, ⟨(.fad 11 (.t 2) 1 0), (some (10, true))⟩, ⟨(.load 12 (.t 11) 0), (some (10, true))⟩, ⟨(.fad 13 (.t 3) 1 0), (some (10, true))⟩, ⟨(.load 14 (.t 13) 0), (some (10, true))⟩, ⟨(.call 15 k_ref13_SameAll [(.t 12), (.t 14)] none), (some (10, true))⟩, {i := .pick 16 (.t 10) (.t 15) (.c (.d true (.bool false)))}, {i := .mv 17 (.t 16)}, ⟨(.fad 18 (.t 2) 2 0), (some (17, true))⟩, ⟨(.load 19 (.t 18) 0), (some (17, true))⟩, ⟨(.fad 20 (.t 3) 2 0), (some (17, true))⟩, ⟨(.load 21 (.t 20) 0), (some (17, true))⟩, ⟨(.call 22 k_ref13_SameAll [(.t 19), (.t 21)] none), (some (17, true))⟩, {i := .pick 23 (.t 17) (.t 22) (.c (.d true (.bool false)))}, {i := .mv 4 (.t 23)}] [])
def c_ref22_Same : C :=
(.seq (.rg 0 false [] [{i := .box 2 0 (.t 0) 4}, {i := .box 3 1 (.t 1) 4}, {i := .mv 4 (.c (.d true (.bool false)))}] [])
 (.seq c_ref22_Same_p1
 .ret))
def n_ref22_Same : Fn := ⟨c_ref22_Same, [.s 4], (some [false, false])⟩
def c_ref02_Check_p1 : C :=
(.rg 3 false [] [{i := .fad 10 (.t 1) 0 0}, {i := .load 11 (.t 10) 0}, {i := .bin 12 .gtr (.t 11) (.c (.d true (.int .i64 1000)))}, {i := .mv 13 (.t 12)}, ⟨(.load 14 (.t 1) 6), (some (13, false))⟩, ⟨(.call 15 k_ref02_Size [(.t 14)] none), (some (13, false))⟩, ⟨(.bin 16 .gtr (.t 15) (.c (.d true (.int .i64 1000)))), (some (13, false))⟩, {i := .pick 17 (.t 13) (.c (.d true (.bool true))) (.t 16)}, {i := .mv 18 (.t 17)}, ⟨(.fad 19 (.t 1) 3 0), (some (18, false))⟩, ⟨(.load 20 (.t 19) 0), (some (18, false))⟩, ⟨(.len 21 (.t 20)), (some (18, false))⟩, ⟨(.bin 22 .gtr (.t 21) (.c (.d true (.int .i64 100)))), (some (18, false))⟩, {i := .pick 23 (.t 18) (.c (.d true (.bool true))) (.t 22)}, {i := .mv 24 (.t 23)}, ⟨(.fad 25 (.t 1) 4 0), (some (24, false))⟩, ⟨(.load 26 (.t 25) 0), (some (24, false))⟩, ⟨(.len 27 (.t 26)), (some (24, false))⟩, ⟨(.bin 28 .gtr (.t 27) (.c (.d true (.int .i64 100)))), (some (24, false))⟩, {i := .pick 29 (.t 24) (.c (.d true (.bool true))) (.t 28)}] [])
def c_ref02_Check_p2 : C :=
(.rg 6 false [] [{i := .fad 32 (.t 1) 3 0}, {i := .load 33 (.t 32) 0}, {i := .mv 34 (.t 3)}, {i := .call 35 k_ref02_literals [(.t 33), (.t 34)] none}, {i := .un 36 .not (.t 35)}, {i := .mv 37 (.t 36)}, ⟨(.fad 38 (.t 1) 4 0), (some (37, false))⟩, ⟨(.load 39 (.t 38) 0), (some (37, false))⟩, ⟨(.mv 40 (.t 3)), (some (37, false))⟩, ⟨(.call 41 k_ref02_literals [(.t 39), (.t 40)] none), (some (37, false))⟩, ⟨(.un 42 .not (.t 41)), (some (37, false))⟩, {i := .pick 43 (.t 37) (.c (.d true (.bool true))) (.t 42)}] [])
def c_ref02_Check_p3 : C :=
(.rg 11 false [(.kill 1 2)] [{i := .fad 51 (.t 1) 1 0}, {i := .load 52 (.t 51) 0}, {i := .mv 53 (.t 4)}, {i := .ix 54 (.t 52) (.t 53) 2}, {i := .fad 55 (.t 54) 0 0}, {i := .load 56 (.t 55) 0}, {i := .bsl 57 1 1 1 (.k (.int .i64 0)) [(0, (.t 56))]}, {i := .mv 58 (.t 3)}, {i := .call 59 k_ref02_literals [(.t 57), (.t 58)] none}, {i := .un 60 .not (.t 59)}, {i := .mv 61 (.t 60)}, ⟨(.fad 62 (.t 1) 1 0), (some (61, false))⟩, ⟨(.load 63 (.t 62) 0), (some (61, false))⟩, ⟨(.mv 64 (.t 4)), (some (61, false))⟩, ⟨(.ix 65 (.t 63) (.t 64) 2), (some (61, false))⟩, ⟨(.fad 66 (.t 65) 1 0), (some (61, false))⟩, ⟨(.load 67 (.t 66) 0), (some (61, false))⟩, ⟨(.bin 68 .lss (.t 67) (.c (.d true (.int .i64 0)))), (some (61, false))⟩, {i := .pick 69 (.t 61) (.c (.d true (.bool true))) (.t 68)}, {i := .mv 70 (.t 69)}, ⟨(.fad 71 (.t 1) 1 0), (some (70, false))⟩, ⟨(.load 72 (.t 71) 0), (some (70, false))⟩, ⟨(.mv 73 (.t 4)), (some (70, false))⟩, ⟨(.ix 74 (.t 72) (.t 73) 2), (some (70, false))⟩, ⟨(.fad 75 (.t 74) 1 0), (some (70, false))⟩, ⟨(.load 76 (.t 75) 0), (some (70, false))⟩, ⟨(.bin 77 .gtr (.t 76) (.c (.d true (.int .i64 2)))), (some (70, false))⟩, {i := .pick 78 (.t 70) (.c (.d true (.bool true))) (.t 77)}] [])
def c_ref02_Check_l1 : C :=
(.seq (.seq (.rg 9 false [] [{i := .mv 44 (.t 4)}, {i := .fad 45 (.t 1) 1 0}, {i := .load 46 (.t 45) 0}, {i := .len 47 (.t 46)}, {i := .bin 48 .lss (.t 44) (.t 47)}] [])
 (.cond (.t 48) .skip (.exit 0)))
 (.seq (.block 1 (.seq c_ref02_Check_p3
 (.cond (.t 78) (.seq (.rg 12 false [] [{i := .mv 2 (.c (.d true (.int .i64 8)))}] [])
 .ret) .skip)))
 (.rg 10 false [] [{i := .mv 49 (.t 4)}, {i := .bin 50 .add (.t 49) (.c (.d true (.int .i64 1)))}, {i := .mv 4 (.t 50)}] [])))
def c_ref02_Check_p4 : C :=
(.rg 17 false [] [{i := .fad 91 (.t 6) 1 0}, {i := .load 92 (.t 91) 0}, {i := .bin 93 .lss (.t 92) (.c (.d true (.int .i64 0)))}, {i := .mv 94 (.t 93)}, ⟨(.fad 95 (.t 6) 0 0), (some (94, false))⟩, ⟨(.load 96 (.t 95) 0), (some (94, false))⟩, ⟨(.fad 97 (.t 6) 1 0), (some (94, false))⟩, ⟨(.load 98 (.t 97) 0), (some (94, false))⟩, ⟨(.bin 99 .lss (.t 96) (.t 98)), (some (94, false))⟩, {i := .pick 100 (.t 94) (.c (.d true (.bool true))) (.t 99)}, {i := .mv 101 (.t 100)}, ⟨(.fad 102 (.t 6) 0 0), (some (101, false))⟩, ⟨(.load 103 (.t 102) 0), (some (101, false))⟩, ⟨(.bin 104 .quo (.t 103) (.c (.d true (.int .i64 2)))), (some (101, false))⟩, ⟨(.fad 105 (.t 1) 0 0), (some (101, false))⟩, ⟨(.load 106 (.t 105) 0), (some (101, false))⟩, ⟨(.fad 107 (.t 1) 1 0), (some (101, false))⟩, ⟨(.load 108 (.t 107) 0), (some (101, false))⟩, ⟨(.len 109 (.t 108)), (some (101, false))⟩, ⟨(.bin 110 .add (.t 106) (.t 109)), (some (101, false))⟩, ⟨(.mv 111 (.t 5)), (some (101, false))⟩, ⟨(.bin 112 .add (.t 110) (.t 111)), (some (101, false))⟩, ⟨(.bin 113 .gtr (.t 104) (.t 112)), (some (101, false))⟩, {i := .pick 114 (.t 101) (.c (.d true (.bool true))) (.t 113)}] [])
def c_ref02_Check_l2 : C :=
(.seq (.seq (.rg 14 false [] [{i := .mv 79 (.t 5)}, {i := .fad 80 (.t 1) 2 0}, {i := .load 81 (.t 80) 0}, {i := .len 82 (.t 81)}, {i := .bin 83 .lss (.t 79) (.t 82)}] [])
 (.cond (.t 83) .skip (.exit 2)))
 (.seq (.block 3 (.seq (.rg 16 false [(.kill 2 3)] [{i := .fad 86 (.t 1) 2 0}, {i := .load 87 (.t 86) 0}, {i := .mv 88 (.t 5)}, {i := .ix 89 (.t 87) (.t 88) 2}, {i := .load 90 (.t 89) 3}, {i := .alloc 6 2 [(.k (.int .i64 0)), (.k (.int .i64 0))]}, {i := .store (.t 6) (.t 90) 3}] [])
 (.seq c_ref02_Check_p4
 (.cond (.t 114) (.seq (.rg 18 false [] [{i := .mv 2 (.c (.d true (.int .i64 8)))}] [])
 .ret) .skip))))
 (.rg 15 false [] [{i := .mv 84 (.t 5)}, {i := .bin 85 .add (.t 84) (.c (.d true (.int .i64 1)))}, {i := .mv 5 (.t 85)}] [])))
def c_ref02_Check : C :=
(.seq (.rg 0 false [] [{i := .box 1 0 (.t 0) 6}, {i := .mv 2 (.c (.d true (.int .i64 0)))}] [])
 (.seq (.seq (.rg 1 false [] [{i := .fad 7 (.t 1) 0 0}, {i := .load 8 (.t 7) 0}, {i := .bin 9 .lss (.t 8) (.c (.d true (.int .i64 0)))}] [])
 (.cond (.t 9) (.seq (.rg 2 false [] [{i := .mv 2 (.c (.d true (.int .i64 8)))}] [])
 .ret) .skip))
 (.seq (.seq c_ref02_Check_p1
 (.cond (.t 29) (.seq (.rg 4 false [] [{i := .mv 2 (.c (.d true (.int .i64 4)))}] [])
 .ret) .skip))
 (.seq (.rg 5 false [] [{i := .load 30 (.t 1) 6}, {i := .call 31 k_ref02_Size [(.t 30)] none}, {i := .mv 3 (.t 31)}] [])
 (.seq (.seq c_ref02_Check_p2
 (.cond (.t 43) (.seq (.rg 7 false [] [{i := .mv 2 (.c (.d true (.int .i64 8)))}] [])
 .ret) .skip))
 (.seq (.seq (.rg 8 false [] [{i := .mv 4 (.c (.d true (.int .i64 0)))}] [])
 (.block 0 (.loop c_ref02_Check_l1)))
 (.seq (.seq (.rg 13 false [] [{i := .mv 5 (.c (.d true (.int .i64 0)))}] [])
 (.block 2 (.loop c_ref02_Check_l2)))
 (.seq (.rg 19 false [] [{i := .mv 2 (.c (.d true (.int .i64 0)))}] [])
 .ret))))))))
def n_ref02_Check : Fn := ⟨c_ref02_Check, [.s 2], (some [false])⟩
def c_ref02_Twin : C :=
(.seq (.rg 0 false [] [{i := .box 1 0 (.t 0) 6}, {i := .alloc 2 1 [.k (.int .i64 0), .r 2 2, .r 3 2, .r 4 1, .r 5 1]}] [])
 (.seq (.rg 1 false [] [{i := .bsl 3 6 2 0 (.k (.agg [(.int .i64 0), (.int .i64 0)])) []}, {i := .fad 4 (.t 1) 1 0}, {i := .load 5 (.t 4) 0}, {i := .app 6 7 2 (.t 3) (.t 5)}, {i := .fad 7 (.t 1) 1 0}, {i := .store (.t 7) (.t 6) 0}] [])
 (.seq (.rg 2 false [] [{i := .bsl 8 8 2 0 (.k (.agg [(.int .i64 0), (.int .i64 0)])) []}, {i := .fad 9 (.t 1) 2 0}, {i := .load 10 (.t 9) 0}, {i := .app 11 9 2 (.t 8) (.t 10)}, {i := .fad 12 (.t 1) 2 0}, {i := .store (.t 12) (.t 11) 0}] [])
 (.seq (.rg 3 false [] [{i := .bsl 13 10 1 0 (.k (.int .i64 0)) []}, {i := .fad 14 (.t 1) 3 0}, {i := .load 15 (.t 14) 0}, {i := .app 16 11 1 (.t 13) (.t 15)}, {i := .fad 17 (.t 1) 3 0}, {i := .store (.t 17) (.t 16) 0}] [])
 (.seq (.rg 4 false [] [{i := .bsl 18 12 1 0 (.k (.int .i64 0)) []}, {i := .fad 19 (.t 1) 4 0}, {i := .load 20 (.t 19) 0}, {i := .app 21 13 1 (.t 18) (.t 20)}, {i := .fad 22 (.t 1) 4 0}, {i := .store (.t 22) (.t 21) 0}] [])
 (.seq (.rg 5 false [] [{i := .load 23 (.t 1) 6}, {i := .store (.t 2) (.t 23) 6}] [])
 .ret))))))
def n_ref02_Twin : Fn := ⟨c_ref02_Twin, [.c 2 6], (some [false])⟩
def c_bmc_Clauses_p1 : C :=
(.block 3 (.seq (.rg 12 false [] [{i := .mv 42 (.t 40)}, {i := .mv 11 (.t 42)}] [])
 (.rg 13 true [] [{i := .fad 43 (.t 7) 2 0}, {i := .load 44 (.t 43) 0}, {i := .mv 45 (.t 10)}, {i := .fad 46 (.t 2) 4 0}, {i := .load 47 (.t 46) 0}, {i := .mv 48 (.t 11)}, {i := .mv 49 (.t 11)}, {i := .bin 50 .add (.t 49) (.c (.d true (.int .i64 1)))}, {i := .slc 51 1 (.t 47) (some (.t 48)) (some (.t 50)) none}, {i := .call 52 k_bmc_put [(.t 44), (.t 45), (.t 51)] none}, {i := .fad 53 (.t 7) 2 0}, {i := .store (.t 53) (.t 52) 0}] [])))
def c_bmc_Clauses_l1 : C :=
(.seq (.rg 11 false [] [{i := .bin 41 .lss (.t 40) (.t 39)}] [])
 (.seq (.cond (.t 41) .skip (.exit 2))
 (.seq c_bmc_Clauses_p1
 (.rg 14 false [] [{i := .bin 54 .add (.t 40) (.c (.d true (.int .i64 1)))}, {i := .mv 40 (.t 54)}] []))))
def c_bmc_Clauses_l2 : C :=
(.seq (.rg 8 false [] [{i := .bin 34 .lss (.t 33) (.t 32)}] [])
 (.seq (.cond (.t 34) .skip (.exit 0))
 (.seq (.block 1 (.seq (.rg 9 false [] [{i := .ix 35 (.t 31) (.t 33) 1}, {i := .load 36 (.t 35) 0}, {i := .mv 10 (.t 36)}] [])
 (.seq (.rg 10 false [] [{i := .fad 37 (.t 2) 4 0}, {i := .load 38 (.t 37) 0}, {i := .len 39 (.t 38)}, {i := .mv 40 (.c (.d true (.int .i64 0)))}] [])
 (.block 2 (.loop c_bmc_Clauses_l1)))))
 (.rg 15 false [] [{i := .bin 55 .add (.t 33) (.c (.d true (.int .i64 1)))}, {i := .mv 33 (.t 55)}] []))))
def c_bmc_Clauses_p2 : C :=
(.rg 16 true [] [{i := .fad 56 (.t 7) 2 0}, {i := .load 57 (.t 56) 0}, {i := .fad 58 (.t 7) 1 0}, {i := .load 59 (.t 58) 0}, {i := .mv 60 (.t 1)}, {i := .ix 61 (.t 59) (.t 60) 1}, {i := .load 62 (.t 61) 0}, {i := .fad 63 (.t 2) 3 0}, {i := .load 64 (.t 63) 0}, {i := .call 65 k_bmc_put [(.t 57), (.t 62), (.t 64)] none}, {i := .fad 66 (.t 7) 2 0}, {i := .store (.t 66) (.t 65) 0}] [])
def c_bmc_Clauses : C :=
(.seq (.rg 0 false [] [{i := .box 2 0 (.t 0) 6}, {i := .alloc 4 1 [(.k (.int .i64 0)), (.r 2 1), (.r 3 1)]}, {i := .mv 5 (.c (.d true (.int .i64 0)))}] [])
 (.seq (.seq (.rg 1 false [] [{i := .load 12 (.t 2) 6}, {i := .mv 13 (.t 1)}, {i := .call 14 k_bmc_asked [(.t 12), (.t 13), (.c (.d true (.int .i64 0)))] none}, {i := .mv 6 (.t 14)}] [])
 (.seq (.rg 2 false [] [{i := .mv 15 (.t 6)}, {i := .bin 16 .neq (.t 15) (.c (.d true (.int .i64 0)))}] [])
 (.cond (.t 16) (.seq (.rg 3 false [] [{i := .bld 17 [(.k (.int .i64 0)), (.n 1), (.n 1)] []}, {i := .mv 18 (.t 6)}, {i := .store (.t 4) (.t 17) 4}, {i := .mv 5 (.t 18)}] [])
 .ret) .skip)))
 (.seq (.rg 4 false [] [{i := .load 20 (.t 2) 6}, {i := .mv 21 (.t 1)}, {i := .bin 22 .add (.t 21) (.c (.d true (.int .i64 1)))}, {i := .call 23 k_unroll_Of [(.t 20), (.t 22)] (some 40)}, {i := .mv 19 (.t 23)}, {i := .xt 24 (.t 19) 0}, {i := .xt 25 (.t 19) 1}, {i := .alloc 7 4 [(.k (.int .i64 0)), (.n 1), (.n 1)]}, {i := .store (.t 7) (.t 24) 4}, {i := .mv 8 (.t 25)}] [])
 (.seq (.seq (.rg 5 false [] [{i := .mv 26 (.t 8)}, {i := .bin 27 .neq (.t 26) (.c (.d true (.int .i64 0)))}] [])
 (.cond (.t 27) (.seq (.rg 6 false [] [{i := .bld 28 [(.k (.int .i64 0)), (.n 1), (.n 1)] []}, {i := .mv 29 (.t 8)}, {i := .store (.t 4) (.t 28) 4}, {i := .mv 5 (.t 29)}] [])
 .ret) .skip))
 (.seq (.seq (.rg 7 false [] [{i := .fad 30 (.t 7) 1 0}, {i := .load 31 (.t 30) 0}, {i := .len 32 (.t 31)}, {i := .mv 33 (.c (.d true (.int .i64 0)))}] [])
 (.block 0 (.loop c_bmc_Clauses_l2)))
 (.seq c_bmc_Clauses_p2
 (.seq (.seq (.rg 17 false [] [{i := .fad 67 (.t 7) 2 0}, {i := .load 68 (.t 67) 0}, {i := .len 69 (.t 68)}, {i := .bin 70 .gtr (.t 69) (.c (.d true (.int .i64 20000)))}] [])
 (.cond (.t 70) (.seq (.rg 18 false [] [{i := .bld 71 [(.k (.int .i64 0)), (.n 1), (.n 1)] []}, {i := .store (.t 4) (.t 71) 4}, {i := .mv 5 (.c (.d true (.int .i64 4)))}] [])
 .ret) .skip))
 (.seq (.rg 19 false [] [{i := .load 72 (.t 7) 4}, {i := .store (.t 4) (.t 72) 4}, {i := .mv 5 (.c (.d true (.int .i64 0)))}] [])
 .ret))))))))
def n_bmc_Clauses : Fn := ⟨c_bmc_Clauses, [.c 4 4, .s 5], (some [false, false])⟩
def c_ref36_Clauses : C :=
(.seq (.rg 0 false [] [{i := .box 2 0 (.t 0) 6}, {i := .alloc 4 1 [.k (.int .i64 0), .r 2 1, .r 3 1]}, {i := .mv 5 (.c (.d true (.int .i64 0)))}] [])
 (.seq (.seq (.rg 1 false [] [{i := .load 7 (.t 2) 6}, {i := .mv 8 (.t 1)}, {i := .call 9 k_ref36_asked [(.t 7), (.t 8), (.c (.d true (.int .i64 0)))] none}, {i := .mv 6 (.t 9)}] [])
 (.seq (.rg 2 false [] [{i := .mv 10 (.t 6)}, {i := .bin 11 .neq (.t 10) (.c (.d true (.int .i64 0)))}] [])
 (.cond (.t 11) (.seq (.rg 3 false [] [{i := .bld 12 [.k (.int .i64 0), .n 1, .n 1] []}, {i := .mv 13 (.t 6)}, {i := .store (.t 4) (.t 12) 4}, {i := .mv 5 (.t 13)}] [])
 .ret) .skip)))
 (.seq (.rg 4 false [] [{i := .load 14 (.t 2) 6}, {i := .mv 15 (.t 1)}, {i := .call 16 k_ref36_Made [(.t 14), (.t 15)] none}, {i := .xt 17 (.t 16) 0}, {i := .xt 18 (.t 16) 1}, {i := .store (.t 4) (.t 17) 4}, {i := .mv 5 (.t 18)}] [])
 .ret)))
def n_ref36_Clauses : Fn := ⟨c_ref36_Clauses, [.c 4 4, .s 5], (some [false, false])⟩
def c_ref02_Same_p1 : C :=
(.rg 1 false [] [{i := .fad 7 (.t 2) 0 0}, {i := .load 8 (.t 7) 0}, {i := .fad 9 (.t 3) 0 0}, {i := .load 10 (.t 9) 0}, {i := .bin 11 .neq (.t 8) (.t 10)}, {i := .mv 12 (.t 11)}, ⟨(.fad 13 (.t 2) 1 0), (some (12, false))⟩, ⟨(.load 14 (.t 13) 0), (some (12, false))⟩, ⟨(.len 15 (.t 14)), (some (12, false))⟩, ⟨(.fad 16 (.t 3) 1 0), (some (12, false))⟩, ⟨(.load 17 (.t 16) 0), (some (12, false))⟩, ⟨(.len 18 (.t 17)), (some (12, false))⟩, ⟨(.bin 19 .neq (.t 15) (.t 18)), (some (12, false))⟩, {i := .pick 20 (.t 12) (.c (.d true (.bool true))) (.t 19)}, {i := .mv 21 (.t 20)}, ⟨(.fad 22 (.t 2) 2 0), (some (21, false))⟩, ⟨(.load 23 (.t 22) 0), (some (21, false))⟩, ⟨(.len 24 (.t 23)), (some (21, false))⟩, ⟨(.fad 25 (.t 3) 2 0), (some (21, false))⟩, ⟨(.load 26 (.t 25) 0), (some (21, false))⟩, ⟨(.len 27 (.t 26)), (some (21, false))⟩, ⟨(.bin 28 .neq (.t 24) (.t 27)), (some (21, false))⟩, {i := .pick 29 (.t 21) (.c (.d true (.bool true))) (.t 28)}, {i := .mv 30 (.t 29)}, ⟨(.fad 31 (.t 2) 3 0), (some (30, false))⟩, ⟨(.load 32 (.t 31) 0), (some (30, false))⟩, ⟨(.fad 33 (.t 3) 3 0), (some (30, false))⟩, ⟨(.load 34 (.t 33) 0), (some (30, false))⟩, ⟨(.call 35 k_ref02_SameInts [(.t 32), (.t 34)] none), (some (30, false))⟩, ⟨(.un 36 .not (.t 35)), (some (30, false))⟩, {i := .pick 37 (.t 30) (.c (.d true (.bool true))) (.t 36)}, {i := .mv 38 (.t 37)}, ⟨(.fad 39 (.t 2) 4 0), (some (38, false))⟩, ⟨(.load 40 (.t 39) 0), (some (38, false))⟩, ⟨(.fad 41 (.t 3) 4 0), (some (38, false))⟩, ⟨(.load 42 (.t 41) 0), (some (38, false))⟩, ⟨(.call 43 k_ref02_SameInts [(.t 40), (.t 42)] none), (some (38, false))⟩, ⟨(.un 44 .not (.t 43)), (some (38, false))⟩, {i := .pick 45 (.t 38) (.c (.d true (.bool true))) (.t 44)}] [])
def c_ref02_Same_p2 : C :=
(.rg 6 true [] [{i := .fad 53 (.t 2) 1 0}, {i := .load 54 (.t 53) 0}, {i := .mv 55 (.t 5)}, {i := .ix 56 (.t 54) (.t 55) 2}, {i := .load 57 (.t 56) 3}, {i := .fad 58 (.t 3) 1 0}, {i := .load 59 (.t 58) 0}, {i := .mv 60 (.t 5)}, {i := .ix 61 (.t 59) (.t 60) 2}, {i := .load 62 (.t 61) 3}, {i := .eqs 63 true [true, true] (.t 57) (.t 62)}] [])
def c_ref02_Same_l1 : C :=
(.seq (.seq (.rg 4 false [] [{i := .mv 46 (.t 5)}, {i := .fad 47 (.t 2) 1 0}, {i := .load 48 (.t 47) 0}, {i := .len 49 (.t 48)}, {i := .bin 50 .lss (.t 46) (.t 49)}] [])
 (.cond (.t 50) .skip (.exit 0)))
 (.seq (.block 1 (.seq c_ref02_Same_p2
 (.cond (.t 63) (.seq (.rg 7 false [] [{i := .mv 4 (.c (.d true (.bool false)))}] [])
 .ret) .skip)))
 (.rg 5 false [] [{i := .mv 51 (.t 5)}, {i := .bin 52 .add (.t 51) (.c (.d true (.int .i64 1)))}, {i := .mv 5 (.t 52)}] [])))
def c_ref02_Same_p3 : C :=
(.rg 11 true [] [{i := .fad 71 (.t 2) 2 0}, {i := .load 72 (.t 71) 0}, {i := .mv 73 (.t 6)}, {i := .ix 74 (.t 72) (.t 73) 2}, {i := .load 75 (.t 74) 3}, {i := .fad 76 (.t 3) 2 0}, {i := .load 77 (.t 76) 0}, {i := .mv 78 (.t 6)}, {i := .ix 79 (.t 77) (.t 78) 2}, {i := .load 80 (.t 79) 3}, {i := .eqs 81 true [true, true] (.t 75) (.t 80)}] [])
def c_ref02_Same_l2 : C :=
(.seq (.seq (.rg 9 false [] [{i := .mv 64 (.t 6)}, {i := .fad 65 (.t 2) 2 0}, {i := .load 66 (.t 65) 0}, {i := .len 67 (.t 66)}, {i := .bin 68 .lss (.t 64) (.t 67)}] [])
 (.cond (.t 68) .skip (.exit 2)))
 (.seq (.block 3 (.seq c_ref02_Same_p3
 (.cond (.t 81) (.seq (.rg 12 false [] [{i := .mv 4 (.c (.d true (.bool false)))}] [])
 .ret) .skip)))
 (.rg 10 false [] [{i := .mv 69 (.t 6)}, {i := .bin 70 .add (.t 69) (.c (.d true (.int .i64 1)))}, {i := .mv 6 (.t 70)}] [])))
def c_ref02_Same : C :=
(.seq (.rg 0 false [] [{i := .box 2 0 (.t 0) 6}, {i := .box 3 1 (.t 1) 6}, {i := .mv 4 (.c (.d true (.bool false)))}] [])
 (.seq (.seq c_ref02_Same_p1
 (.cond (.t 45) (.seq (.rg 2 false [] [{i := .mv 4 (.c (.d true (.bool false)))}] [])
 .ret) .skip))
 (.seq (.seq (.rg 3 false [] [{i := .mv 5 (.c (.d true (.int .i64 0)))}] [])
 (.block 0 (.loop c_ref02_Same_l1)))
 (.seq (.seq (.rg 8 false [] [{i := .mv 6 (.c (.d true (.int .i64 0)))}] [])
 (.block 2 (.loop c_ref02_Same_l2)))
 (.seq (.rg 13 false [] [{i := .mv 4 (.c (.d true (.bool true)))}] [])
 .ret)))))
def n_ref02_Same : Fn := ⟨c_ref02_Same, [.s 4], (some [false, false])⟩
def c_slices_ContainsFunc_of_int_p1 : C :=
(.rg 1 false [] [{i := .mv 5 (.t 0)}, {i := .mv 6 (.t 1)}, {i := .call 7 k_slices_IndexFunc_of_int [(.t 5), (.t 6)] none}, {i := .bin 8 .geq (.t 7) (.c (.d true (.int .i64 0)))}, {i := .mv 4 (.t 8)}] [])
def c_slices_ContainsFunc_of_int : C :=
(.seq (.rg 0 false [] [{i := .mv 4 (.c (.d true (.bool false)))}] [])
 (.seq c_slices_ContainsFunc_of_int_p1
 .ret))
def n_slices_ContainsFunc_of_int : Fn := ⟨c_slices_ContainsFunc_of_int, [.s 4], none⟩
def c_ref02_Great_p1 : C :=
(.rg 1 false [] [{i := .fad 3 (.t 1) 1 0}, {i := .load 4 (.t 3) 0}, {i := .len 5 (.t 4)}, {i := .bin 6 .gtr (.t 5) (.c (.d true (.int .i64 60)))}, {i := .mv 7 (.t 6)}, ⟨(.fad 8 (.t 1) 2 0), (some (7, false))⟩, ⟨(.load 9 (.t 8) 0), (some (7, false))⟩, ⟨(.len 10 (.t 9)), (some (7, false))⟩, ⟨(.bin 11 .gtr (.t 10) (.c (.d true (.int .i64 120)))), (some (7, false))⟩, {i := .pick 12 (.t 7) (.c (.d true (.bool true))) (.t 11)}, {i := .mv 13 (.t 12)}, ⟨(.fad 14 (.t 1) 3 0), (some (13, false))⟩, ⟨(.load 15 (.t 14) 0), (some (13, false))⟩, ⟨(.len 16 (.t 15)), (some (13, false))⟩, ⟨(.bin 17 .gtr (.t 16) (.c (.d true (.int .i64 110)))), (some (13, false))⟩, {i := .pick 18 (.t 13) (.c (.d true (.bool true))) (.t 17)}, {i := .mv 19 (.t 18)}, ⟨(.fad 20 (.t 1) 4 0), (some (19, false))⟩, ⟨(.load 21 (.t 20) 0), (some (19, false))⟩, ⟨(.len 22 (.t 21)), (some (19, false))⟩, ⟨(.bin 23 .gtr (.t 22) (.c (.d true (.int .i64 110)))), (some (19, false))⟩, {i := .pick 24 (.t 19) (.c (.d true (.bool true))) (.t 23)}, {i := .mv 25 (.t 24)}, ⟨(.fad 26 (.t 1) 0 0), (some (25, false))⟩, ⟨(.load 27 (.t 26) 0), (some (25, false))⟩, ⟨(.bin 28 .gtr (.t 27) (.c (.d true (.int .i64 40)))), (some (25, false))⟩, ⟨(.mv 29 (.t 28)), (some (25, false))⟩, ⟨(.fad 30 (.t 1) 0 0), (some (29, true))⟩, ⟨(.load 31 (.t 30) 0), (some (29, true))⟩, ⟨(.bin 32 .lss (.t 31) (.c (.d true (.int .i64 996)))), (some (29, true))⟩, ⟨(.pick 33 (.t 29) (.t 32) (.c (.d true (.bool false)))), (some (25, false))⟩, {i := .pick 34 (.t 25) (.c (.d true (.bool true))) (.t 33)}, {i := .mv 2 (.t 34)}] [])
def c_ref02_Great : C :=
(.seq (.rg 0 false [] [{i := .box 1 0 (.t 0) 6}, {i := .mv 2 (.c (.d true (.bool false)))}] [])
 (.seq c_ref02_Great_p1
 .ret))
def n_ref02_Great : Fn := ⟨c_ref02_Great, [.s 2], (some [false])⟩
def c_ref02_Size : C :=
(.seq (.rg 0 false [] [{i := .box 1 0 (.t 0) 6}, {i := .mv 2 (.c (.d true (.int .i64 0)))}] [])
 (.seq (.rg 1 false [] [{i := .fad 3 (.t 1) 0 0}, {i := .load 4 (.t 3) 0}, {i := .fad 5 (.t 1) 1 0}, {i := .load 6 (.t 5) 0}, {i := .len 7 (.t 6)}, {i := .bin 8 .add (.t 4) (.t 7)}, {i := .fad 9 (.t 1) 2 0}, {i := .load 10 (.t 9) 0}, {i := .len 11 (.t 10)}, {i := .bin 12 .add (.t 8) (.t 11)}, {i := .mv 2 (.t 12)}] [])
 .ret))
def n_ref02_Size : Fn := ⟨c_ref02_Size, [.s 2], (some [false])⟩
def c_gates_Check_p1 : C :=
(.rg 3 false [] [{i := .fad 11 (.t 1) 0 0}, {i := .load 12 (.t 11) 0}, {i := .bin 13 .gtr (.t 12) (.c (.d true (.int .i64 1000)))}, {i := .mv 14 (.t 13)}, ⟨(.load 15 (.t 1) 6), (some (14, false))⟩, ⟨(.call 16 k_gates_starts [(.t 15)] none), (some (14, false))⟩, ⟨(.ixa 17 (.t 16) (.c (.d true (.int .i64 3))) 4 0), (some (14, false))⟩, ⟨(.bin 18 .sub (.t 17) (.c (.d true (.int .i64 1)))), (some (14, false))⟩, ⟨(.bin 19 .gtr (.t 18) (.c (.d true (.int .i64 1000)))), (some (14, false))⟩, {i := .pick 20 (.t 14) (.c (.d true (.bool true))) (.t 19)}, {i := .mv 21 (.t 20)}, ⟨(.fad 22 (.t 1) 3 0), (some (21, false))⟩, ⟨(.load 23 (.t 22) 0), (some (21, false))⟩, ⟨(.len 24 (.t 23)), (some (21, false))⟩, ⟨(.fad 25 (.t 1) 4 0), (some (21, false))⟩, ⟨(.load 26 (.t 25) 0), (some (21, false))⟩, ⟨(.len 27 (.t 26)), (some (21, false))⟩, ⟨(.mx 28 (.t 24) [(.t 27)]), (some (21, false))⟩, ⟨(.bin 29 .gtr (.t 28) (.c (.d true (.int .i64 100)))), (some (21, false))⟩, {i := .pick 30 (.t 21) (.c (.d true (.bool true))) (.t 29)}] [])
def c_gates_Check_p2 : C :=
(.rg 8 false [] [{i := .fad 35 (.t 1) 3 0}, {i := .load 36 (.t 35) 0}, {i := .load 37 (.t 4) 0}, {i := .call 38 k_slices_ContainsFunc_of_int [(.t 36), (.t 37)] none}, {i := .mv 39 (.t 38)}, ⟨(.fad 40 (.t 1) 4 0), (some (39, false))⟩, ⟨(.load 41 (.t 40) 0), (some (39, false))⟩, ⟨(.load 42 (.t 4) 0), (some (39, false))⟩, ⟨(.call 43 k_slices_ContainsFunc_of_int [(.t 41), (.t 42)] none), (some (39, false))⟩, {i := .pick 44 (.t 39) (.c (.d true (.bool true))) (.t 43)}, {i := .mv 45 (.t 44)}, ⟨(.fad 46 (.t 1) 1 0), (some (45, false))⟩, ⟨(.load 47 (.t 46) 0), (some (45, false))⟩, ⟨(.mv 48 (.t 5)), (some (45, false))⟩, ⟨(.call 49 k_slices_ContainsFunc_of_api_Latch [(.t 47), (.t 48)] none), (some (45, false))⟩, {i := .pick 50 (.t 45) (.c (.d true (.bool true))) (.t 49)}] [])
def c_gates_Check_p3 : C :=
(.rg 13 false [] [{i := .fad 59 (.t 7) 1 0}, {i := .load 60 (.t 59) 0}, {i := .bin 61 .lss (.t 60) (.c (.d true (.int .i64 0)))}, {i := .mv 62 (.t 61)}, ⟨(.fad 63 (.t 7) 0 0), (some (62, false))⟩, ⟨(.load 64 (.t 63) 0), (some (62, false))⟩, ⟨(.fad 65 (.t 7) 1 0), (some (62, false))⟩, ⟨(.load 66 (.t 65) 0), (some (62, false))⟩, ⟨(.bin 67 .lss (.t 64) (.t 66)), (some (62, false))⟩, {i := .pick 68 (.t 62) (.c (.d true (.bool true))) (.t 67)}, {i := .mv 69 (.t 68)}, ⟨(.fad 70 (.t 7) 0 0), (some (69, false))⟩, ⟨(.load 71 (.t 70) 0), (some (69, false))⟩, ⟨(.ixb 72 (.t 3) (.c (.d true (.int .i64 2))) 4 1), (some (69, false))⟩, ⟨(.load 73 (.t 72) 0), (some (69, false))⟩, ⟨(.mv 74 (.t 6)), (some (69, false))⟩, ⟨(.bin 75 .add (.t 73) (.t 74)), (some (69, false))⟩, ⟨(.bin 76 .mul (.c (.d true (.int .i64 2))) (.t 75)), (some (69, false))⟩, ⟨(.bin 77 .geq (.t 71) (.t 76)), (some (69, false))⟩, {i := .pick 78 (.t 69) (.c (.d true (.bool true))) (.t 77)}] [])
def c_gates_Check_l1 : C :=
(.seq (.rg 11 false [] [{i := .bin 55 .lss (.t 54) (.t 53)}] [])
 (.seq (.cond (.t 55) .skip (.exit 0))
 (.seq (.block 1 (.seq (.rg 12 false [(.kill 3 4)] [{i := .mv 56 (.t 54)}, {i := .ix 57 (.t 52) (.t 54) 2}, {i := .load 58 (.t 57) 3}, {i := .alloc 7 3 [(.k (.int .i64 0)), (.k (.int .i64 0))]}, {i := .mv 6 (.t 56)}, {i := .store (.t 7) (.t 58) 3}] [])
 (.seq c_gates_Check_p3
 (.cond (.t 78) (.seq (.rg 14 false [] [{i := .mv 2 (.c (.d true (.int .i64 8)))}] [])
 .ret) .skip))))
 (.rg 15 false [] [{i := .bin 79 .add (.t 54) (.c (.d true (.int .i64 1)))}, {i := .mv 54 (.t 79)}] []))))
def c_gates_Check : C :=
(.seq (.rg 0 false [] [{i := .box 1 0 (.t 0) 6}, {i := .mv 2 (.c (.d true (.int .i64 0)))}] [])
 (.seq (.seq (.rg 1 false [] [{i := .fad 8 (.t 1) 0 0}, {i := .load 9 (.t 8) 0}, {i := .bin 10 .lss (.t 9) (.c (.d true (.int .i64 0)))}] [])
 (.cond (.t 10) (.seq (.rg 2 false [] [{i := .mv 2 (.c (.d true (.int .i64 8)))}] [])
 .ret) .skip))
 (.seq (.seq c_gates_Check_p1
 (.cond (.t 30) (.seq (.rg 4 false [] [{i := .mv 2 (.c (.d true (.int .i64 4)))}] [])
 .ret) .skip))
 (.seq (.rg 5 false [] [{i := .load 31 (.t 1) 6}, {i := .call 32 k_gates_starts [(.t 31)] none}, {i := .alloc 3 1 [(.k (.int .i64 0)), (.k (.int .i64 0)), (.k (.int .i64 0)), (.k (.int .i64 0))]}, {i := .store (.t 3) (.t 32) 5}] [])
 (.seq (.rg 6 false [] [{i := .fn 33 k_gates_Check_1 [(.t 3)]}, {i := .alloc 4 2 [.u]}, {i := .store (.t 4) (.t 33) 0}] [])
 (.seq (.rg 7 false [] [{i := .fn 34 k_gates_Check_2 [(.t 4)]}, {i := .mv 5 (.t 34)}] [])
 (.seq (.seq c_gates_Check_p2
 (.cond (.t 50) (.seq (.rg 9 false [] [{i := .mv 2 (.c (.d true (.int .i64 8)))}] [])
 .ret) .skip))
 (.seq (.seq (.rg 10 false [] [{i := .fad 51 (.t 1) 2 0}, {i := .load 52 (.t 51) 0}, {i := .len 53 (.t 52)}, {i := .mv 54 (.c (.d true (.int .i64 0)))}] [])
 (.block 0 (.loop c_gates_Check_l1)))
 (.seq (.rg 16 false [] [{i := .mv 2 (.c (.d true (.int .i64 0)))}] [])
 .ret)))))))))
def n_gates_Check : Fn := ⟨c_gates_Check, [.s 2], (some [false])⟩
def c_unroll_made_p1 : C :=
(.rg 1 false [] [{i := .mv 12 (.t 1)}, {i := .bin 13 .lss (.t 12) (.c (.d true (.int .i64 1)))}, {i := .mv 14 (.t 13)}, ⟨(.mv 15 (.t 1)), (some (14, false))⟩, ⟨(.bin 16 .gtr (.t 15) (.c (.d true (.int .i64 100)))), (some (14, false))⟩, {i := .pick 17 (.t 14) (.c (.d true (.bool true))) (.t 16)}] [])
def c_unroll_made_l1 : C :=
(.seq (.rg 11 false [] [{i := .bin 41 .lss (.t 40) (.t 39)}] [])
 (.seq (.cond (.t 41) .skip (.exit 2))
 (.seq (.block 3 (.seq (.rg 12 false [(.kill 8 9)] [{i := .ix 42 (.t 38) (.t 40) 2}, {i := .load 43 (.t 42) 3}, {i := .alloc 11 8 [(.k (.int .i64 0)), (.k (.int .i64 0))]}, {i := .store (.t 11) (.t 43) 3}] [])
 (.rg 13 false [(.kill 9 10)] [{i := .mv 44 (.t 2)}, {i := .mv 45 (.t 9)}, {i := .fad 46 (.t 11) 0 0}, {i := .load 47 (.t 46) 0}, {i := .call 48 k_unroll_lit [(.t 45), (.t 47)] none}, {i := .bsl 49 9 1 1 (.k (.int .i64 0)) [(0, (.t 48))]}, {i := .app 50 10 1 (.t 44) (.t 49)}, {i := .mv 2 (.t 50)}] [])))
 (.rg 14 false [] [{i := .bin 51 .add (.t 40) (.c (.d true (.int .i64 1)))}, {i := .mv 40 (.t 51)}] []))))
def c_unroll_made_l2 : C :=
(.seq (.rg 5 false [] [{i := .bin 21 .lss (.t 20) (.t 19)}] [])
 (.seq (.cond (.t 21) .skip (.exit 0))
 (.seq (.block 1 (.seq (.seq (.rg 6 false [] [{i := .load 22 (.t 3) 6}, {i := .mv 23 (.t 2)}, {i := .call 24 k_unroll_frames_frame [(.t 8), (.t 22), (.t 23)] none}, {i := .un 25 .not (.t 24)}] [])
 (.cond (.t 25) (.seq (.rg 7 false [] [{i := .bld 26 [(.k (.int .i64 0)), (.n 1), (.n 1)] []}, {i := .store (.t 6) (.t 26) 4}, {i := .mv 7 (.c (.d true (.int .i64 4)))}] [])
 .ret) .skip))
 (.seq (.rg 8 false [] [{i := .fad 27 (.t 8) 0 4}, {i := .fad 28 (.t 27) 1 0}, {i := .load 29 (.t 28) 0}, {i := .fad 30 (.t 8) 0 4}, {i := .fad 31 (.t 30) 1 0}, {i := .load 32 (.t 31) 0}, {i := .len 33 (.t 32)}, {i := .bin 34 .sub (.t 33) (.c (.d true (.int .i64 1)))}, {i := .ix 35 (.t 29) (.t 34) 1}, {i := .load 36 (.t 35) 0}, {i := .mv 9 (.t 36)}] [])
 (.seq (.rg 9 false [(.kill 7 8)] [{i := .nilr 2 7 1}] [])
 (.seq (.rg 10 false [] [{i := .fad 37 (.t 3) 1 0}, {i := .load 38 (.t 37) 0}, {i := .len 39 (.t 38)}, {i := .mv 40 (.c (.d true (.int .i64 0)))}] [])
 (.block 2 (.loop c_unroll_made_l1)))))))
 (.rg 15 false [] [{i := .bin 52 .add (.t 20) (.c (.d true (.int .i64 1)))}, {i := .mv 20 (.t 52)}] []))))
def c_unroll_made : C :=
(.seq (.rg 0 false [] [{i := .box 3 0 (.t 0) 6}, {i := .alloc 6 1 [(.k (.int .i64 0)), (.r 2 1), (.r 3 1)]}, {i := .mv 7 (.c (.d true (.int .i64 0)))}] [])
 (.seq (.seq c_unroll_made_p1
 (.cond (.t 17) (.seq (.rg 2 false [] [{i := .bld 18 [(.k (.int .i64 0)), (.n 1), (.n 1)] []}, {i := .store (.t 6) (.t 18) 4}, {i := .mv 7 (.c (.d true (.int .i64 2)))}] [])
 .ret) .skip))
 (.seq (.rg 3 false [] [{i := .alloc 8 4 [(.k (.int .i64 0)), (.r 5 1), (.r 6 1)]}] [])
 (.seq (.seq (.rg 4 false [] [{i := .mv 19 (.t 1)}, {i := .mv 20 (.c (.d true (.int .i64 0)))}] [])
 (.block 0 (.loop c_unroll_made_l2)))
 (.seq (.rg 16 false [] [{i := .fad 53 (.t 8) 0 4}, {i := .load 54 (.t 53) 4}, {i := .store (.t 6) (.t 54) 4}, {i := .mv 7 (.c (.d true (.int .i64 0)))}] [])
 .ret)))))
def n_unroll_made : Fn := ⟨c_unroll_made, [.c 6 4, .s 7], (some [false, false, false])⟩
def c_ref23_Asked_p1 : C :=
(.rg 4 false [] [{i := .mv 17 (.t 1)}, {i := .bin 18 .lss (.t 17) (.c (.d true (.int .i64 1)))}, {i := .mv 19 (.t 18)}, ⟨(.mv 20 (.t 1)), (some (19, false))⟩, ⟨(.bin 21 .gtr (.t 20) (.c (.d true (.int .i64 100)))), (some (19, false))⟩, {i := .pick 22 (.t 19) (.c (.d true (.bool true))) (.t 21)}] [])
def c_ref23_Asked : C :=
(.seq (.rg 0 false [] [{i := .box 3 0 (.t 0) 6}, {i := .alloc 6 1 [(.k (.int .i64 0)), (.r 2 1), (.r 3 1)]}, {i := .mv 7 (.c (.d true (.int .i64 0)))}] [])
 (.seq (.seq (.rg 1 false [] [{i := .load 11 (.t 3) 6}, {i := .call 12 k_ref02_Check [(.t 11)] none}, {i := .mv 8 (.t 12)}] [])
 (.seq (.rg 2 false [] [{i := .mv 13 (.t 8)}, {i := .bin 14 .neq (.t 13) (.c (.d true (.int .i64 0)))}] [])
 (.cond (.t 14) (.seq (.rg 3 false [] [{i := .bld 15 [(.k (.int .i64 0)), (.n 1), (.n 1)] []}, {i := .mv 16 (.t 8)}, {i := .store (.t 6) (.t 15) 4}, {i := .mv 7 (.t 16)}] [])
 .ret) .skip)))
 (.seq (.seq c_ref23_Asked_p1
 (.cond (.t 22) (.seq (.rg 5 false [] [{i := .bld 23 [(.k (.int .i64 0)), (.n 1), (.n 1)] []}, {i := .store (.t 6) (.t 23) 4}, {i := .mv 7 (.c (.d true (.int .i64 2)))}] [])
 .ret) .skip))
 (.seq (.rg 6 false [] [{i := .load 25 (.t 3) 6}, {i := .mv 26 (.t 1)}, {i := .mv 27 (.t 2)}, {i := .call 28 k_ref23_Made [(.t 25), (.t 26), (.t 27)] (some 30)}, {i := .mv 24 (.t 28)}, {i := .xt 29 (.t 24) 0}, {i := .xt 30 (.t 24) 1}, {i := .alloc 9 4 [(.k (.int .i64 0)), (.n 1), (.n 1)]}, {i := .store (.t 9) (.t 29) 4}, {i := .mv 10 (.t 30)}] [])
 (.seq (.seq (.rg 7 false [] [{i := .mv 31 (.t 10)}, {i := .un 32 .not (.t 31)}] [])
 (.cond (.t 32) (.seq (.rg 8 false [] [{i := .bld 33 [(.k (.int .i64 0)), (.n 1), (.n 1)] []}, {i := .store (.t 6) (.t 33) 4}, {i := .mv 7 (.c (.d true (.int .i64 4)))}] [])
 .ret) .skip))
 (.seq (.rg 9 false [] [{i := .load 34 (.t 9) 4}, {i := .store (.t 6) (.t 34) 4}, {i := .mv 7 (.c (.d true (.int .i64 0)))}] [])
 .ret))))))
def n_ref23_Asked : Fn := ⟨c_ref23_Asked, [.c 6 4, .s 7], (some [false, false, false])⟩
def c_ref02_literals_p1 : C :=
(.rg 4 false [] [{i := .mv 12 (.t 0)}, {i := .mv 13 (.t 5)}, {i := .ix 14 (.t 12) (.t 13) 1}, {i := .load 15 (.t 14) 0}, {i := .bin 16 .lss (.t 15) (.c (.d true (.int .i64 0)))}, {i := .mv 17 (.t 16)}, ⟨(.mv 18 (.t 0)), (some (17, false))⟩, ⟨(.mv 19 (.t 5)), (some (17, false))⟩, ⟨(.ix 20 (.t 18) (.t 19) 1), (some (17, false))⟩, ⟨(.load 21 (.t 20) 0), (some (17, false))⟩, ⟨(.bin 22 .quo (.t 21) (.c (.d true (.int .i64 2)))), (some (17, false))⟩, ⟨(.mv 23 (.t 1)), (some (17, false))⟩, ⟨(.bin 24 .gtr (.t 22) (.t 23)), (some (17, false))⟩, {i := .pick 25 (.t 17) (.c (.d true (.bool true))) (.t 24)}] [])
def c_ref02_literals_l1 : C :=
(.seq (.seq (.rg 2 false [] [{i := .mv 6 (.t 5)}, {i := .mv 7 (.t 0)}, {i := .len 8 (.t 7)}, {i := .bin 9 .lss (.t 6) (.t 8)}] [])
 (.cond (.t 9) .skip (.exit 0)))
 (.seq (.block 1 (.seq c_ref02_literals_p1
 (.cond (.t 25) (.seq (.rg 5 false [] [{i := .mv 4 (.c (.d true (.bool false)))}] [])
 .ret) .skip)))
 (.rg 3 false [] [{i := .mv 10 (.t 5)}, {i := .bin 11 .add (.t 10) (.c (.d true (.int .i64 1)))}, {i := .mv 5 (.t 11)}] [])))
def c_ref02_literals : C :=
(.seq (.rg 0 false [] [{i := .mv 4 (.c (.d true (.bool false)))}] [])
 (.seq (.seq (.rg 1 false [] [{i := .mv 5 (.c (.d true (.int .i64 0)))}] [])
 (.block 0 (.loop c_ref02_literals_l1)))
 (.seq (.rg 6 false [] [{i := .mv 4 (.c (.d true (.bool true)))}] [])
 .ret)))
def n_ref02_literals : Fn := ⟨c_ref02_literals, [.s 4], (some [false, false])⟩
def c_bmc_asked_p1 : C :=
(.rg 4 false [] [{i := .mv 13 (.t 1)}, {i := .bin 14 .lss (.t 13) (.c (.d true (.int .i64 0)))}, {i := .mv 15 (.t 14)}, ⟨(.mv 16 (.t 1)), (some (15, false))⟩, ⟨(.bin 17 .geq (.t 16) (.c (.d true (.int .i64 100)))), (some (15, false))⟩, {i := .pick 18 (.t 15) (.c (.d true (.bool true))) (.t 17)}, {i := .mv 19 (.t 18)}, ⟨(.mv 20 (.t 2)), (some (19, false))⟩, ⟨(.bin 21 .lss (.t 20) (.c (.d true (.int .i64 0)))), (some (19, false))⟩, {i := .pick 22 (.t 19) (.c (.d true (.bool true))) (.t 21)}, {i := .mv 23 (.t 22)}, ⟨(.mv 24 (.t 2)), (some (23, false))⟩, ⟨(.bin 25 .gtr (.t 24) (.c (.d true (.int .i64 100000)))), (some (23, false))⟩, {i := .pick 26 (.t 23) (.c (.d true (.bool true))) (.t 25)}] [])
def c_bmc_asked : C :=
(.seq (.rg 0 false [] [{i := .box 3 0 (.t 0) 6}, {i := .mv 6 (.c (.d true (.int .i64 0)))}] [])
 (.seq (.seq (.rg 1 false [] [{i := .load 8 (.t 3) 6}, {i := .call 9 k_gates_Check [(.t 8)] none}, {i := .mv 7 (.t 9)}] [])
 (.seq (.rg 2 false [] [{i := .mv 10 (.t 7)}, {i := .bin 11 .neq (.t 10) (.c (.d true (.int .i64 0)))}] [])
 (.cond (.t 11) (.seq (.rg 3 false [] [{i := .mv 12 (.t 7)}, {i := .mv 6 (.t 12)}] [])
 .ret) .skip)))
 (.seq (.seq c_bmc_asked_p1
 (.cond (.t 26) (.seq (.rg 5 false [] [{i := .mv 6 (.c (.d true (.int .i64 2)))}] [])
 .ret) .skip))
 (.seq (.rg 6 false [] [{i := .mv 6 (.c (.d true (.int .i64 0)))}] [])
 .ret))))
def n_bmc_asked : Fn := ⟨c_bmc_asked, [.s 6], (some [false, false, false])⟩
def c_bmc_put_p1 : C :=
(.rg 6 false [] [{i := .mv 24 (.t 10)}, {i := .bin 25 .geq (.t 24) (.c (.d true (.int .i64 0)))}, {i := .mv 26 (.t 25)}, ⟨(.mv 27 (.t 9)), (some (26, true))⟩, ⟨(.bin 28 .rem (.t 27) (.c (.d true (.int .i64 2)))), (some (26, true))⟩, ⟨(.bin 29 .eql (.t 28) (.c (.d true (.int .i64 1)))), (some (26, true))⟩, {i := .pick 30 (.t 26) (.t 29) (.c (.d true (.bool false)))}] [])
def c_bmc_put_p2 : C :=
(.seq c_bmc_put_p1
 (.cond (.t 30) (.rg 7 false [] [{i := .mv 31 (.t 10)}, {i := .bin 32 .xor (.t 31) (.c (.d true (.int .i64 1)))}, {i := .mv 10 (.t 32)}] []) .skip))
def c_bmc_put_p3 : C :=
(.block 1 (.seq (.rg 4 false [] [{i := .ix 17 (.t 13) (.t 15) 1}, {i := .load 18 (.t 17) 0}, {i := .mv 9 (.t 18)}] [])
 (.seq (.rg 5 false [] [{i := .mv 19 (.t 1)}, {i := .mv 20 (.t 9)}, {i := .bin 21 .quo (.t 20) (.c (.d true (.int .i64 2)))}, {i := .ix 22 (.t 19) (.t 21) 1}, {i := .load 23 (.t 22) 0}, {i := .mv 10 (.t 23)}] [])
 (.seq c_bmc_put_p2
 (.seq (.seq (.rg 8 false [] [{i := .mv 33 (.t 10)}, {i := .bin 34 .eql (.t 33) (.c (.d true (.int .i64 1)))}] [])
 (.cond (.t 34) (.seq (.rg 9 false [] [{i := .mv 35 (.t 0)}, {i := .mv 6 (.t 35)}] [])
 .ret) .skip))
 (.seq (.rg 10 false [] [{i := .mv 36 (.t 10)}, {i := .bin 37 .gtr (.t 36) (.c (.d true (.int .i64 0)))}] [])
 (.cond (.t 37) (.rg 11 false [(.kill 1 2)] [{i := .mv 38 (.t 7)}, {i := .mv 39 (.t 10)}, {i := .bsl 40 1 1 1 (.k (.int .i64 0)) [(0, (.t 39))]}, {i := .app 41 2 1 (.t 38) (.t 40)}, {i := .mv 7 (.t 41)}] []) .skip)))))))
def c_bmc_put_l1 : C :=
(.seq (.rg 3 false [] [{i := .bin 16 .lss (.t 15) (.t 14)}] [])
 (.seq (.cond (.t 16) .skip (.exit 0))
 (.seq c_bmc_put_p3
 (.rg 12 false [] [{i := .bin 42 .add (.t 15) (.c (.d true (.int .i64 1)))}, {i := .mv 15 (.t 42)}] []))))
def c_bmc_put_p4 : C :=
(.rg 18 false [] [{i := .mv 54 (.t 11)}, {i := .bin 55 .gtr (.t 54) (.c (.d true (.int .i64 0)))}, {i := .mv 56 (.t 55)}, ⟨(.mv 57 (.t 7)), (some (56, true))⟩, ⟨(.mv 58 (.t 11)), (some (56, true))⟩, ⟨(.bin 59 .sub (.t 58) (.c (.d true (.int .i64 1)))), (some (56, true))⟩, ⟨(.ix 60 (.t 57) (.t 59) 1), (some (56, true))⟩, ⟨(.load 61 (.t 60) 0), (some (56, true))⟩, ⟨(.mv 62 (.t 12)), (some (56, true))⟩, ⟨(.bin 63 .xor (.t 62) (.c (.d true (.int .i64 1)))), (some (56, true))⟩, ⟨(.bin 64 .eql (.t 61) (.t 63)), (some (56, true))⟩, {i := .pick 65 (.t 56) (.t 64) (.c (.d true (.bool false)))}, {i := .mv 66 (.t 65)}, ⟨(.mv 67 (.t 12)), (some (66, true))⟩, ⟨(.bin 68 .rem (.t 67) (.c (.d true (.int .i64 2)))), (some (66, true))⟩, ⟨(.bin 69 .eql (.t 68) (.c (.d true (.int .i64 1)))), (some (66, true))⟩, {i := .pick 70 (.t 66) (.t 69) (.c (.d true (.bool false)))}] [])
def c_bmc_put_l2 : C :=
(.seq (.rg 16 false [] [{i := .bin 50 .lss (.t 49) (.t 48)}] [])
 (.seq (.cond (.t 50) .skip (.exit 2))
 (.seq (.block 3 (.seq (.rg 17 false [] [{i := .mv 51 (.t 49)}, {i := .ix 52 (.t 47) (.t 49) 1}, {i := .load 53 (.t 52) 0}, {i := .mv 11 (.t 51)}, {i := .mv 12 (.t 53)}] [])
 (.seq c_bmc_put_p4
 (.cond (.t 70) (.seq (.rg 19 false [] [{i := .mv 71 (.t 0)}, {i := .mv 6 (.t 71)}] [])
 .ret) .skip))))
 (.rg 20 false [] [{i := .bin 72 .add (.t 49) (.c (.d true (.int .i64 1)))}, {i := .mv 49 (.t 72)}] []))))
def c_bmc_put : C :=
(.seq (.rg 0 false [] [{i := .mv 6 (.c (.nil 1))}] [])
 (.seq (.rg 1 false [] [{i := .nilr 7 0 1}] [])
 (.seq (.seq (.rg 2 false [] [{i := .mv 13 (.t 2)}, {i := .len 14 (.t 13)}, {i := .mv 15 (.c (.d true (.int .i64 0)))}] [])
 (.block 0 (.loop c_bmc_put_l1)))
 (.seq (.rg 13 false [(.settle 0)] [{i := .mv 43 (.t 7)}, {i := .call 44 k_slices_Sort_of_int [(.t 43)] none}] [])
 (.seq (.rg 14 false [] [{i := .mv 45 (.t 7)}, {i := .call 46 k_slices_Compact_of_int [(.t 45)] none}, {i := .mv 7 (.t 46)}] [])
 (.seq (.seq (.rg 15 false [] [{i := .mv 47 (.t 7)}, {i := .len 48 (.t 47)}, {i := .mv 49 (.c (.d true (.int .i64 0)))}] [])
 (.block 2 (.loop c_bmc_put_l2)))
 (.seq (.rg 21 false [] [{i := .mv 73 (.t 0)}, {i := .mv 74 (.t 7)}, {i := .bsl 75 3 1 1 (.k (.lst 1 [])) [(0, (.t 74))]}, {i := .app 76 4 1 (.t 73) (.t 75)}, {i := .mv 6 (.t 76)}] [])
 .ret)))))))
def n_bmc_put : Fn := ⟨c_bmc_put, [.s 6], none⟩
def c_ref36_asked_p1 : C :=
(.rg 4 false [] [{i := .mv 13 (.t 1)}, {i := .bin 14 .lss (.t 13) (.c (.d true (.int .i64 0)))}, {i := .mv 15 (.t 14)}, ⟨(.mv 16 (.t 1)), (some (15, false))⟩, ⟨(.bin 17 .geq (.t 16) (.c (.d true (.int .i64 100)))), (some (15, false))⟩, {i := .pick 18 (.t 15) (.c (.d true (.bool true))) (.t 17)}, {i := .mv 19 (.t 18)}, ⟨(.mv 20 (.t 2)), (some (19, false))⟩, ⟨(.bin 21 .lss (.t 20) (.c (.d true (.int .i64 0)))), (some (19, false))⟩, {i := .pick 22 (.t 19) (.c (.d true (.bool true))) (.t 21)}, {i := .mv 23 (.t 22)}, ⟨(.mv 24 (.t 2)), (some (23, false))⟩, ⟨(.bin 25 .gtr (.t 24) (.c (.d true (.int .i64 100000)))), (some (23, false))⟩, {i := .pick 26 (.t 23) (.c (.d true (.bool true))) (.t 25)}] [])
def c_ref36_asked : C :=
(.seq (.rg 0 false [] [{i := .box 3 0 (.t 0) 6}, {i := .mv 6 (.c (.d true (.int .i64 0)))}] [])
 (.seq (.seq (.rg 1 false [] [{i := .load 8 (.t 3) 6}, {i := .call 9 k_ref02_Check [(.t 8)] none}, {i := .mv 7 (.t 9)}] [])
 (.seq (.rg 2 false [] [{i := .mv 10 (.t 7)}, {i := .bin 11 .neq (.t 10) (.c (.d true (.int .i64 0)))}] [])
 (.cond (.t 11) (.seq (.rg 3 false [] [{i := .mv 12 (.t 7)}, {i := .mv 6 (.t 12)}] [])
 .ret) .skip)))
 (.seq (.seq c_ref36_asked_p1
 (.cond (.t 26) (.seq (.rg 5 false [] [{i := .mv 6 (.c (.d true (.int .i64 2)))}] [])
 .ret) .skip))
 (.seq (.rg 6 false [] [{i := .mv 6 (.c (.d true (.int .i64 0)))}] [])
 .ret))))
def n_ref36_asked : Fn := ⟨c_ref36_asked, [.s 6], (some [false, false, false])⟩
def c_ref36_Made_l1 : C :=
(.seq (.seq (.rg 5 false [] [{i := .mv 20 (.t 8)}, {i := .mv 21 (.t 1)}, {i := .bin 22 .leq (.t 20) (.t 21)}] [])
 (.cond (.t 22) .skip (.exit 0)))
 (.seq (.block 1 (.rg 7 true [] [{i := .load 25 (.t 2) 6}, {i := .fad 26 (.t 6) 2 0}, {i := .load 27 (.t 26) 0}, {i := .fad 28 (.t 6) 1 0}, {i := .load 29 (.t 28) 0}, {i := .mv 30 (.t 8)}, {i := .ix 31 (.t 29) (.t 30) 1}, {i := .load 32 (.t 31) 0}, {i := .call 33 k_ref36_With [(.t 25), (.t 27), (.t 32)] none}, {i := .fad 34 (.t 6) 2 0}, {i := .store (.t 34) (.t 33) 0}] []))
 (.rg 6 false [] [{i := .mv 23 (.t 8)}, {i := .bin 24 .add (.t 23) (.c (.d true (.int .i64 1)))}, {i := .mv 8 (.t 24)}] [])))
def c_ref36_Made : C :=
(.seq (.rg 0 false [] [{i := .box 2 0 (.t 0) 6}, {i := .alloc 4 1 [.k (.int .i64 0), .r 2 1, .r 3 1]}, {i := .mv 5 (.c (.d true (.int .i64 0)))}] [])
 (.seq (.rg 1 false [] [{i := .load 10 (.t 2) 6}, {i := .mv 11 (.t 1)}, {i := .bin 12 .add (.t 11) (.c (.d true (.int .i64 1)))}, {i := .call 13 k_ref23_Of [(.t 10), (.t 12)] (some 40)}, {i := .mv 9 (.t 13)}, {i := .xt 14 (.t 9) 0}, {i := .xt 15 (.t 9) 1}, {i := .alloc 6 4 [.k (.int .i64 0), .n 1, .n 1]}, {i := .store (.t 6) (.t 14) 4}, {i := .mv 7 (.t 15)}] [])
 (.seq (.seq (.rg 2 false [] [{i := .mv 16 (.t 7)}, {i := .bin 17 .neq (.t 16) (.c (.d true (.int .i64 0)))}] [])
 (.cond (.t 17) (.seq (.rg 3 false [] [{i := .bld 18 [.k (.int .i64 0), .n 1, .n 1] []}, {i := .mv 19 (.t 7)}, {i := .store (.t 4) (.t 18) 4}, {i := .mv 5 (.t 19)}] [])
 .ret) .skip))
 (.seq (.seq (.rg 4 false [] [{i := .mv 8 (.c (.d true (.int .i64 0)))}] [])
 (.block 0 (.loop c_ref36_Made_l1)))
 (.seq (.rg 8 true [] [{i := .fad 35 (.t 6) 2 0}, {i := .load 36 (.t 35) 0}, {i := .fad 37 (.t 6) 1 0}, {i := .load 38 (.t 37) 0}, {i := .mv 39 (.t 1)}, {i := .ix 40 (.t 38) (.t 39) 1}, {i := .load 41 (.t 40) 0}, {i := .fad 42 (.t 2) 3 0}, {i := .load 43 (.t 42) 0}, {i := .call 44 k_ref36_Told [(.t 41), (.t 43)] none}, {i := .call 45 k_ref22_Put [(.t 36), (.t 44)] none}, {i := .fad 46 (.t 6) 2 0}, {i := .store (.t 46) (.t 45) 0}] [])
 (.seq (.seq (.rg 9 false [] [{i := .fad 47 (.t 6) 2 0}, {i := .load 48 (.t 47) 0}, {i := .len 49 (.t 48)}, {i := .bin 50 .gtr (.t 49) (.c (.d true (.int .i64 20000)))}] [])
 (.cond (.t 50) (.seq (.rg 10 false [] [{i := .bld 51 [.k (.int .i64 0), .n 1, .n 1] []}, {i := .store (.t 4) (.t 51) 4}, {i := .mv 5 (.c (.d true (.int .i64 4)))}] [])
 .ret) .skip))
 (.seq (.rg 11 false [] [{i := .load 52 (.t 6) 4}, {i := .store (.t 4) (.t 52) 4}, {i := .mv 5 (.c (.d true (.int .i64 0)))}] [])
 .ret)))))))
def n_ref36_Made : Fn := ⟨c_ref36_Made, [.c 4 4, .s 5], (some [false, false])⟩
def c_ref02_SameInts_l1 : C :=
(.seq (.seq (.rg 4 false [] [{i := .mv 11 (.t 5)}, {i := .mv 12 (.t 0)}, {i := .len 13 (.t 12)}, {i := .bin 14 .lss (.t 11) (.t 13)}] [])
 (.cond (.t 14) .skip (.exit 0)))
 (.seq (.block 1 (.seq (.rg 6 true [] [{i := .mv 17 (.t 0)}, {i := .mv 18 (.t 5)}, {i := .ix 19 (.t 17) (.t 18) 1}, {i := .load 20 (.t 19) 0}, {i := .mv 21 (.t 1)}, {i := .mv 22 (.t 5)}, {i := .ix 23 (.t 21) (.t 22) 1}, {i := .load 24 (.t 23) 0}, {i := .bin 25 .neq (.t 20) (.t 24)}] [])
 (.cond (.t 25) (.seq (.rg 7 false [] [{i := .mv 4 (.c (.d true (.bool false)))}] [])
 .ret) .skip)))
 (.rg 5 false [] [{i := .mv 15 (.t 5)}, {i := .bin 16 .add (.t 15) (.c (.d true (.int .i64 1)))}, {i := .mv 5 (.t 16)}] [])))
def c_ref02_SameInts : C :=
(.seq (.rg 0 false [] [{i := .mv 4 (.c (.d true (.bool false)))}] [])
 (.seq (.seq (.rg 1 false [] [{i := .mv 6 (.t 0)}, {i := .len 7 (.t 6)}, {i := .mv 8 (.t 1)}, {i := .len 9 (.t 8)}, {i := .bin 10 .neq (.t 7) (.t 9)}] [])
 (.cond (.t 10) (.seq (.rg 2 false [] [{i := .mv 4 (.c (.d true (.bool false)))}] [])
 .ret) .skip))
 (.seq (.seq (.rg 3 false [] [{i := .mv 5 (.c (.d true (.int .i64 0)))}] [])
 (.block 0 (.loop c_ref02_SameInts_l1)))
 (.seq (.rg 8 false [] [{i := .mv 4 (.c (.d true (.bool true)))}] [])
 .ret))))
def n_ref02_SameInts : Fn := ⟨c_ref02_SameInts, [.s 4], (some [false, false])⟩
def c_clause_known_p1 : C :=
(.rg 1 false [] [{i := .mv 5 (.t 1)}, {i := .bin 6 .geq (.t 5) (.c (.d true (.int .i64 2)))}, {i := .mv 7 (.t 6)}, ⟨(.mv 8 (.t 1)), (some (7, true))⟩, ⟨(.bin 9 .quo (.t 8) (.c (.d true (.int .i64 2)))), (some (7, true))⟩, ⟨(.mv 10 (.t 0)), (some (7, true))⟩, ⟨(.bin 11 .leq (.t 9) (.t 10)), (some (7, true))⟩, {i := .pick 12 (.t 7) (.t 11) (.c (.d true (.bool false)))}, {i := .mv 4 (.t 12)}] [])
def c_clause_known : C :=
(.seq (.rg 0 false [] [{i := .mv 4 (.c (.d true (.bool false)))}] [])
 (.seq c_clause_known_p1
 .ret))
def n_clause_known : Fn := ⟨c_clause_known, [.s 4], (some [false, false])⟩
def c_slices_IndexFunc_of_int_l1 : C :=
(.seq (.rg 2 false [] [{i := .bin 9 .lss (.t 8) (.t 7)}] [])
 (.seq (.cond (.t 9) .skip (.exit 0))
 (.seq (.block 1 (.seq (.rg 3 false [] [{i := .mv 10 (.t 8)}, {i := .mv 5 (.t 10)}] [])
 (.seq (.rg 4 false [] [{i := .mv 11 (.t 1)}, {i := .mv 12 (.t 0)}, {i := .mv 13 (.t 5)}, {i := .ix 14 (.t 12) (.t 13) 1}, {i := .load 15 (.t 14) 0}, {i := .callv 16 (.t 11) [(.t 15)] none}] [])
 (.cond (.t 16) (.seq (.rg 5 false [] [{i := .mv 17 (.t 5)}, {i := .mv 4 (.t 17)}] [])
 .ret) .skip))))
 (.rg 6 false [] [{i := .bin 18 .add (.t 8) (.c (.d true (.int .i64 1)))}, {i := .mv 8 (.t 18)}] []))))
def c_slices_IndexFunc_of_int : C :=
(.seq (.rg 0 false [] [{i := .mv 4 (.c (.d true (.int .i64 0)))}] [])
 (.seq (.seq (.rg 1 false [] [{i := .mv 6 (.t 0)}, {i := .len 7 (.t 6)}, {i := .mv 8 (.c (.d true (.int .i64 0)))}] [])
 (.block 0 (.loop c_slices_IndexFunc_of_int_l1)))
 (.seq (.rg 7 false [] [{i := .mv 4 (.c (.d true (.int .i64 (-1))))}] [])
 .ret)))
def n_slices_IndexFunc_of_int : Fn := ⟨c_slices_IndexFunc_of_int, [.s 4], none⟩
def c_gates_starts : C :=
(.seq (.rg 0 false [] [{i := .box 1 0 (.t 0) 6}, {i := .alloc 2 1 [.k (.int .i64 0), .k (.int .i64 0), .k (.int .i64 0), .k (.int .i64 0)]}] [])
 (.seq (.rg 1 false [] [{i := .fad 5 (.t 1) 0 0}, {i := .load 6 (.t 5) 0}, {i := .bin 7 .add (.c (.d true (.int .i64 1))) (.t 6)}, {i := .mv 3 (.t 7)}] [])
 (.seq (.rg 2 false [] [{i := .mv 8 (.t 3)}, {i := .fad 9 (.t 1) 1 0}, {i := .load 10 (.t 9) 0}, {i := .len 11 (.t 10)}, {i := .bin 12 .add (.t 8) (.t 11)}, {i := .mv 4 (.t 12)}] [])
 (.seq (.rg 3 false [] [{i := .mv 13 (.t 3)}, {i := .mv 14 (.t 4)}, {i := .mv 15 (.t 4)}, {i := .fad 16 (.t 1) 2 0}, {i := .load 17 (.t 16) 0}, {i := .len 18 (.t 17)}, {i := .bin 19 .add (.t 15) (.t 18)}, {i := .bld 20 [.k (.int .i64 0), .k (.int .i64 0), .k (.int .i64 0), .k (.int .i64 0)] [(0, 0, (.c (.d true (.int .i64 1)))), (1, 0, (.t 13)), (2, 0, (.t 14)), (3, 0, (.t 19))]}, {i := .store (.t 2) (.t 20) 5}] [])
 .ret))))
def n_gates_starts : Fn := ⟨c_gates_starts, [.c 2 5], (some [false])⟩
def c_gates_Check_1_p1 : C :=
(.rg 1 false [] [{i := .mv 4 (.t 0)}, {i := .bin 5 .lss (.t 4) (.c (.d true (.int .i64 0)))}, {i := .mv 6 (.t 5)}, ⟨(.mv 7 (.t 0)), (some (6, false))⟩, ⟨(.bin 8 .shr (.t 7) (.c (.d true (.int .u64 1)))), (some (6, false))⟩, ⟨(.ixb 9 (.t 1) (.c (.d true (.int .i64 3))) 4 1), (some (6, false))⟩, ⟨(.load 10 (.t 9) 0), (some (6, false))⟩, ⟨(.bin 11 .geq (.t 8) (.t 10)), (some (6, false))⟩, {i := .pick 12 (.t 6) (.c (.d true (.bool true))) (.t 11)}, {i := .mv 3 (.t 12)}] [])
def c_gates_Check_1 : C :=
(.seq (.rg 0 false [] [{i := .mv 3 (.c (.d true (.bool false)))}] [])
 (.seq c_gates_Check_1_p1
 .ret))
def n_gates_Check_1 : Fn := ⟨c_gates_Check_1, [.s 3], none⟩
def c_gates_Check_2_p1 : C :=
(.rg 1 false [] [{i := .load 4 (.t 1) 0}, {i := .fad 5 (.t 2) 0 0}, {i := .load 6 (.t 5) 0}, {i := .callv 7 (.t 4) [(.t 6)] none}, {i := .mv 8 (.t 7)}, ⟨(.fad 9 (.t 2) 1 0), (some (8, false))⟩, ⟨(.load 10 (.t 9) 0), (some (8, false))⟩, ⟨(.bin 11 .lss (.t 10) (.c (.d true (.int .i64 0)))), (some (8, false))⟩, {i := .pick 12 (.t 8) (.c (.d true (.bool true))) (.t 11)}, {i := .mv 13 (.t 12)}, ⟨(.fad 14 (.t 2) 1 0), (some (13, false))⟩, ⟨(.load 15 (.t 14) 0), (some (13, false))⟩, ⟨(.bin 16 .gtr (.t 15) (.c (.d true (.int .i64 2)))), (some (13, false))⟩, {i := .pick 17 (.t 13) (.c (.d true (.bool true))) (.t 16)}, {i := .mv 3 (.t 17)}] [])
def c_gates_Check_2 : C :=
(.seq (.rg 0 false [] [{i := .box 2 0 (.t 0) 3}, {i := .mv 3 (.c (.d true (.bool false)))}] [])
 (.seq c_gates_Check_2_p1
 .ret))
def n_gates_Check_2 : Fn := ⟨c_gates_Check_2, [.s 3], none⟩
def c_slices_ContainsFunc_of_api_Latch_p1 : C :=
(.rg 1 false [] [{i := .mv 5 (.t 0)}, {i := .mv 6 (.t 1)}, {i := .call 7 k_slices_IndexFunc_of_api_Latch [(.t 5), (.t 6)] none}, {i := .bin 8 .geq (.t 7) (.c (.d true (.int .i64 0)))}, {i := .mv 4 (.t 8)}] [])
def c_slices_ContainsFunc_of_api_Latch : C :=
(.seq (.rg 0 false [] [{i := .mv 4 (.c (.d true (.bool false)))}] [])
 (.seq c_slices_ContainsFunc_of_api_Latch_p1
 .ret))
def n_slices_ContainsFunc_of_api_Latch : Fn := ⟨c_slices_ContainsFunc_of_api_Latch, [.s 4], none⟩
def c_unroll_frames_frame_l1 : C :=
(.seq (.rg 3 false [] [{i := .bin 19 .lss (.t 18) (.t 17)}] [])
 (.seq (.cond (.t 19) .skip (.exit 0))
 (.seq (.block 1 (.rg 4 false [(.kill 2 3)] [{i := .mv 20 (.t 7)}, {i := .mv 21 (.t 0)}, {i := .call 22 k_unroll_frames_fresh [(.t 21)] none}, {i := .bsl 23 2 1 1 (.k (.int .i64 0)) [(0, (.t 22))]}, {i := .app 24 3 1 (.t 20) (.t 23)}, {i := .mv 7 (.t 24)}] []))
 (.rg 5 false [] [{i := .bin 25 .add (.t 18) (.c (.d true (.int .i64 1)))}, {i := .mv 18 (.t 25)}] []))))
def c_unroll_frames_frame_p1 : C :=
(.seq (.rg 9 false [] [{i := .mv 32 (.t 9)}, {i := .bin 33 .lss (.t 32) (.c (.d true (.int .i64 0)))}] [])
 (.cond (.t 33) (.rg 10 false [] [{i := .mv 34 (.t 0)}, {i := .call 35 k_unroll_frames_fresh [(.t 34)] none}, {i := .mv 9 (.t 35)}] []) .skip))
def c_unroll_frames_frame_l2 : C :=
(.seq (.rg 7 false [] [{i := .bin 29 .lss (.t 28) (.t 27)}] [])
 (.seq (.cond (.t 29) .skip (.exit 2))
 (.seq (.block 3 (.seq (.rg 8 false [] [{i := .ix 30 (.t 26) (.t 28) 1}, {i := .load 31 (.t 30) 0}, {i := .mv 9 (.t 31)}] [])
 (.seq c_unroll_frames_frame_p1
 (.rg 11 false [(.kill 4 5)] [{i := .mv 36 (.t 7)}, {i := .mv 37 (.t 9)}, {i := .bsl 38 4 1 1 (.k (.int .i64 0)) [(0, (.t 37))]}, {i := .app 39 5 1 (.t 36) (.t 38)}, {i := .mv 7 (.t 39)}] []))))
 (.rg 12 false [] [{i := .bin 40 .add (.t 28) (.c (.d true (.int .i64 1)))}, {i := .mv 28 (.t 40)}] []))))
def c_unroll_frames_frame_l3 : C :=
(.seq (.rg 14 false [] [{i := .bin 45 .lss (.t 44) (.t 43)}] [])
 (.seq (.cond (.t 45) .skip (.exit 4))
 (.seq (.block 5 (.seq (.rg 15 false [(.kill 6 7)] [{i := .ix 46 (.t 42) (.t 44) 2}, {i := .load 47 (.t 46) 3}, {i := .alloc 11 6 [(.k (.int .i64 0)), (.k (.int .i64 0))]}, {i := .store (.t 11) (.t 47) 3}] [])
 (.seq (.rg 16 false [] [{i := .mv 48 (.t 0)}, {i := .call 49 k_unroll_frames_fresh [(.t 48)] none}, {i := .mv 12 (.t 49)}] [])
 (.seq (.seq (.rg 17 false [] [{i := .mv 50 (.t 0)}, {i := .chk 51 (.t 50)}, {i := .fad 52 (.t 51) 0 4}, {i := .fad 53 (.t 52) 0 0}, {i := .load 54 (.t 53) 0}, {i := .bin 55 .gtr (.t 54) (.c (.d true (.int .i64 4000)))}] [])
 (.cond (.t 55) (.seq (.rg 18 false [] [{i := .mv 6 (.c (.d true (.bool false)))}] [])
 .ret) .skip))
 (.seq (.rg 19 true [] [{i := .mv 56 (.t 7)}, {i := .fad 57 (.t 11) 0 0}, {i := .load 58 (.t 57) 0}, {i := .call 59 k_unroll_lit [(.t 56), (.t 58)] none}, {i := .mv 60 (.t 7)}, {i := .fad 61 (.t 11) 1 0}, {i := .load 62 (.t 61) 0}, {i := .call 63 k_unroll_lit [(.t 60), (.t 62)] none}, {i := .mv 13 (.t 59)}, {i := .mv 14 (.t 63)}] [])
 (.seq (.rg 20 false [(.kill 7 8)] [{i := .mv 64 (.t 7)}, {i := .mv 65 (.t 12)}, {i := .bsl 66 7 1 1 (.k (.int .i64 0)) [(0, (.t 65))]}, {i := .app 67 8 1 (.t 64) (.t 66)}, {i := .mv 7 (.t 67)}] [])
 (.seq (.rg 21 false [(.kill 9 10)] [{i := .mv 68 (.t 0)}, {i := .mv 69 (.t 12)}, {i := .bin 70 .xor (.t 69) (.c (.d true (.int .i64 1)))}, {i := .mv 71 (.t 13)}, {i := .bsl 72 9 1 2 (.k (.int .i64 0)) [(0, (.t 70)), (1, (.t 71))]}, {i := .call 73 k_unroll_frames_add [(.t 68), (.t 72)] none}] [])
 (.seq (.rg 22 false [(.kill 10 11)] [{i := .mv 74 (.t 0)}, {i := .mv 75 (.t 12)}, {i := .bin 76 .xor (.t 75) (.c (.d true (.int .i64 1)))}, {i := .mv 77 (.t 14)}, {i := .bsl 78 10 1 2 (.k (.int .i64 0)) [(0, (.t 76)), (1, (.t 77))]}, {i := .call 79 k_unroll_frames_add [(.t 74), (.t 78)] none}] [])
 (.rg 23 false [(.kill 11 12)] [{i := .mv 80 (.t 0)}, {i := .mv 81 (.t 12)}, {i := .mv 82 (.t 13)}, {i := .bin 83 .xor (.t 82) (.c (.d true (.int .i64 1)))}, {i := .mv 84 (.t 14)}, {i := .bin 85 .xor (.t 84) (.c (.d true (.int .i64 1)))}, {i := .bsl 86 11 1 3 (.k (.int .i64 0)) [(0, (.t 81)), (1, (.t 83)), (2, (.t 85))]}, {i := .call 87 k_unroll_frames_add [(.t 80), (.t 86)] none}] [])))))))))
 (.rg 24 false [] [{i := .bin 88 .add (.t 44) (.c (.d true (.int .i64 1)))}, {i := .mv 44 (.t 88)}] []))))
def c_unroll_frames_frame_p2 : C :=
(.rg 26 false [] [{i := .mv 101 (.t 0)}, {i := .chk 102 (.t 101)}, {i := .fad 103 (.t 102) 0 4}, {i := .fad 104 (.t 103) 0 0}, {i := .load 105 (.t 104) 0}, {i := .bin 106 .leq (.t 105) (.c (.d true (.int .i64 4000)))}, {i := .mv 107 (.t 106)}, ⟨(.mv 108 (.t 0)), (some (107, true))⟩, ⟨(.chk 109 (.t 108)), (some (107, true))⟩, ⟨(.fad 110 (.t 109) 0 4), (some (107, true))⟩, ⟨(.fad 111 (.t 110) 2 0), (some (107, true))⟩, ⟨(.load 112 (.t 111) 0), (some (107, true))⟩, ⟨(.len 113 (.t 112)), (some (107, true))⟩, ⟨(.bin 114 .leq (.t 113) (.c (.d true (.int .i64 20000)))), (some (107, true))⟩, {i := .pick 115 (.t 107) (.t 114) (.c (.d true (.bool false)))}, {i := .mv 6 (.t 115)}] [])
def c_unroll_frames_frame : C :=
(.seq (.rg 0 false [] [{i := .box 4 0 (.t 1) 6}, {i := .mv 6 (.c (.d true (.bool false)))}] [])
 (.seq (.rg 1 false [] [{i := .bsl 15 1 1 1 (.k (.int .i64 0)) [(0, (.c (.d true (.int .i64 0))))]}, {i := .mv 7 (.t 15)}] [])
 (.seq (.seq (.rg 2 false [] [{i := .fad 16 (.t 4) 0 0}, {i := .load 17 (.t 16) 0}, {i := .mv 18 (.c (.d true (.int .i64 0)))}] [])
 (.block 0 (.loop c_unroll_frames_frame_l1)))
 (.seq (.seq (.rg 6 false [] [{i := .mv 26 (.t 2)}, {i := .len 27 (.t 26)}, {i := .mv 28 (.c (.d true (.int .i64 0)))}] [])
 (.block 2 (.loop c_unroll_frames_frame_l2)))
 (.seq (.seq (.rg 13 false [] [{i := .fad 41 (.t 4) 2 0}, {i := .load 42 (.t 41) 0}, {i := .len 43 (.t 42)}, {i := .mv 44 (.c (.d true (.int .i64 0)))}] [])
 (.block 4 (.loop c_unroll_frames_frame_l3)))
 (.seq (.rg 25 false [] [{i := .mv 89 (.t 0)}, {i := .mv 90 (.t 0)}, {i := .chk 91 (.t 90)}, {i := .fad 92 (.t 91) 0 4}, {i := .fad 93 (.t 92) 1 0}, {i := .load 94 (.t 93) 0}, {i := .mv 95 (.t 7)}, {i := .bsl 96 12 1 1 (.k (.lst 1 [])) [(0, (.t 95))]}, {i := .app 97 13 1 (.t 94) (.t 96)}, {i := .chk 98 (.t 89)}, {i := .fad 99 (.t 98) 0 4}, {i := .fad 100 (.t 99) 1 0}, {i := .store (.t 100) (.t 97) 0}] [])
 (.seq c_unroll_frames_frame_p2
 .ret)))))))
def n_unroll_frames_frame : Fn := ⟨c_unroll_frames_frame, [.s 6], none⟩
def c_unroll_lit : C :=
(.seq (.rg 0 false [] [{i := .mv 4 (.c (.d true (.int .i64 0)))}] [])
 (.seq (.rg 1 false [] [{i := .mv 5 (.t 0)}, {i := .mv 6 (.t 1)}, {i := .bin 7 .quo (.t 6) (.c (.d true (.int .i64 2)))}, {i := .ix 8 (.t 5) (.t 7) 1}, {i := .load 9 (.t 8) 0}, {i := .mv 10 (.t 1)}, {i := .bin 11 .and (.t 10) (.c (.d true (.int .i64 1)))}, {i := .bin 12 .xor (.t 9) (.t 11)}, {i := .mv 4 (.t 12)}] [])
 .ret))
def n_unroll_lit : Fn := ⟨c_unroll_lit, [.s 4], (some [false, false])⟩
def c_ref23_Made_p1 : C :=
(.rg 7 false [] [{i := .fad 23 (.t 8) 0 0}, {i := .load 24 (.t 23) 0}, {i := .bin 25 .gtr (.t 24) (.c (.d true (.int .i64 4000)))}, {i := .mv 26 (.t 25)}, ⟨(.fad 27 (.t 8) 2 0), (some (26, false))⟩, ⟨(.load 28 (.t 27) 0), (some (26, false))⟩, ⟨(.len 29 (.t 28)), (some (26, false))⟩, ⟨(.bin 30 .gtr (.t 29) (.c (.d true (.int .i64 20000)))), (some (26, false))⟩, {i := .pick 31 (.t 26) (.c (.d true (.bool true))) (.t 30)}] [])
def c_ref23_Made_l1 : C :=
(.seq (.seq (.rg 4 false [] [{i := .mv 14 (.t 10)}, {i := .mv 15 (.t 1)}, {i := .bin 16 .lss (.t 14) (.t 15)}] [])
 (.cond (.t 16) .skip (.exit 0)))
 (.seq (.block 1 (.seq (.rg 6 false [] [{i := .load 19 (.t 3) 6}, {i := .load 20 (.t 8) 4}, {i := .mv 21 (.t 9)}, {i := .call 22 k_ref23_More [(.t 19), (.t 20), (.t 21)] none}, {i := .store (.t 8) (.t 22) 4}] [])
 (.seq (.seq c_ref23_Made_p1
 (.cond (.t 31) (.seq (.rg 8 false [] [{i := .bld 32 [(.k (.int .i64 0)), (.n 1), (.n 1)] []}, {i := .store (.t 6) (.t 32) 4}, {i := .mv 7 (.c (.d true (.bool false)))}] [])
 .ret) .skip))
 (.rg 9 true [] [{i := .load 33 (.t 3) 6}, {i := .fad 34 (.t 8) 1 0}, {i := .load 35 (.t 34) 0}, {i := .mv 36 (.t 10)}, {i := .ix 37 (.t 35) (.t 36) 1}, {i := .load 38 (.t 37) 0}, {i := .call 39 k_ref23_Behind [(.t 33), (.t 38)] none}, {i := .mv 9 (.t 39)}] []))))
 (.rg 5 false [] [{i := .mv 17 (.t 10)}, {i := .bin 18 .add (.t 17) (.c (.d true (.int .i64 1)))}, {i := .mv 10 (.t 18)}] [])))
def c_ref23_Made : C :=
(.seq (.rg 0 false [] [{i := .box 3 0 (.t 0) 6}, {i := .alloc 6 1 [(.k (.int .i64 0)), (.r 2 1), (.r 3 1)]}, {i := .mv 7 (.c (.d true (.bool false)))}] [])
 (.seq (.rg 1 false [] [{i := .alloc 8 4 [(.k (.int .i64 0)), (.r 5 1), (.r 6 1)]}] [])
 (.seq (.rg 2 false [] [{i := .load 11 (.t 3) 6}, {i := .mv 12 (.t 2)}, {i := .call 13 k_ref23_Resets [(.t 11), (.t 12)] none}, {i := .mv 9 (.t 13)}] [])
 (.seq (.seq (.rg 3 false [] [{i := .mv 10 (.c (.d true (.int .i64 0)))}] [])
 (.block 0 (.loop c_ref23_Made_l1)))
 (.seq (.rg 10 false [] [{i := .load 40 (.t 8) 4}, {i := .store (.t 6) (.t 40) 4}, {i := .mv 7 (.c (.d true (.bool true)))}] [])
 .ret)))))
def n_ref23_Made : Fn := ⟨c_ref23_Made, [.c 6 4, .s 7], (some [false, false, false])⟩
def c_slices_Sort_of_int : C :=
(.seq (.rg 0 false [] [{i := .mv 3 (.t 0)}, {i := .len 4 (.t 3)}, {i := .mv 2 (.t 4)}] [])
 (.rg 1 false [] [{i := .mv 5 (.t 0)}, {i := .mv 6 (.t 2)}, {i := .mv 7 (.t 2)}, {i := .cvt 8 .u64 (.t 7)}, {i := .call 9 k_bits_Len [(.t 8)] none}, {i := .call 10 k_slices_pdqsortOrdered_of_int [(.t 5), (.c (.d true (.int .i64 0))), (.t 6), (.t 9)] none}] []))
def n_slices_Sort_of_int : Fn := ⟨c_slices_Sort_of_int, [], none⟩
def c_slices_Compact_of_int_l1 : C :=
(.seq (.seq (.rg 9 false [] [{i := .mv 29 (.t 5)}, {i := .mv 30 (.t 4)}, {i := .len 31 (.t 30)}, {i := .bin 32 .lss (.t 29) (.t 31)}] [])
 (.cond (.t 32) .skip (.exit 2)))
 (.seq (.block 3 (.seq (.rg 11 true [] [{i := .mv 35 (.t 4)}, {i := .mv 36 (.t 5)}, {i := .ix 37 (.t 35) (.t 36) 1}, {i := .load 38 (.t 37) 0}, {i := .mv 39 (.t 4)}, {i := .mv 40 (.t 5)}, {i := .bin 41 .sub (.t 40) (.c (.d true (.int .i64 1)))}, {i := .ix 42 (.t 39) (.t 41) 1}, {i := .load 43 (.t 42) 0}, {i := .bin 44 .neq (.t 38) (.t 43)}] [])
 (.cond (.t 44) (.seq (.rg 12 false [] [{i := .mv 45 (.t 0)}, {i := .mv 46 (.t 3)}, {i := .mv 47 (.t 4)}, {i := .mv 48 (.t 5)}, {i := .ix 49 (.t 47) (.t 48) 1}, {i := .load 50 (.t 49) 0}, {i := .ix 51 (.t 45) (.t 46) 1}, {i := .store (.t 51) (.t 50) 0}] [])
 (.rg 13 false [] [{i := .mv 52 (.t 3)}, {i := .bin 53 .add (.t 52) (.c (.d true (.int .i64 1)))}, {i := .mv 3 (.t 53)}] [])) .skip)))
 (.rg 10 false [] [{i := .mv 33 (.t 5)}, {i := .bin 34 .add (.t 33) (.c (.d true (.int .i64 1)))}, {i := .mv 5 (.t 34)}] [])))
def c_slices_Compact_of_int_l2 : C :=
(.seq (.seq (.rg 4 false [] [{i := .mv 10 (.t 3)}, {i := .mv 11 (.t 0)}, {i := .len 12 (.t 11)}, {i := .bin 13 .lss (.t 10) (.t 12)}] [])
 (.cond (.t 13) .skip (.exit 0)))
 (.seq (.block 1 (.seq (.rg 6 true [] [{i := .mv 16 (.t 0)}, {i := .mv 17 (.t 3)}, {i := .ix 18 (.t 16) (.t 17) 1}, {i := .load 19 (.t 18) 0}, {i := .mv 20 (.t 0)}, {i := .mv 21 (.t 3)}, {i := .bin 22 .sub (.t 21) (.c (.d true (.int .i64 1)))}, {i := .ix 23 (.t 20) (.t 22) 1}, {i := .load 24 (.t 23) 0}, {i := .bin 25 .eql (.t 19) (.t 24)}] [])
 (.cond (.t 25) (.seq (.rg 7 false [] [{i := .mv 26 (.t 0)}, {i := .mv 27 (.t 3)}, {i := .slc 28 1 (.t 26) (some (.t 27)) none none}, {i := .mv 4 (.t 28)}] [])
 (.seq (.seq (.rg 8 false [] [{i := .mv 5 (.c (.d true (.int .i64 1)))}] [])
 (.block 2 (.loop c_slices_Compact_of_int_l1)))
 (.seq (.rg 14 false [] [{i := .mv 54 (.t 0)}, {i := .mv 55 (.t 3)}, {i := .slc 56 1 (.t 54) (some (.t 55)) none none}, {i := .clr 1 (.t 56) (.k (.int .i64 0))}] [])
 (.seq (.rg 15 false [] [{i := .mv 57 (.t 0)}, {i := .mv 58 (.t 3)}, {i := .slc 59 1 (.t 57) none (some (.t 58)) none}, {i := .mv 2 (.t 59)}] [])
 .ret)))) .skip)))
 (.rg 5 false [] [{i := .mv 14 (.t 3)}, {i := .bin 15 .add (.t 14) (.c (.d true (.int .i64 1)))}, {i := .mv 3 (.t 15)}] [])))
def c_slices_Compact_of_int : C :=
(.seq (.rg 0 false [] [{i := .mv 2 (.c (.nil 1))}] [])
 (.seq (.seq (.rg 1 false [] [{i := .mv 6 (.t 0)}, {i := .len 7 (.t 6)}, {i := .bin 8 .lss (.t 7) (.c (.d true (.int .i64 2)))}] [])
 (.cond (.t 8) (.seq (.rg 2 false [] [{i := .mv 9 (.t 0)}, {i := .mv 2 (.t 9)}] [])
 .ret) .skip))
 (.seq (.seq (.rg 3 false [] [{i := .mv 3 (.c (.d true (.int .i64 1)))}] [])
 (.block 0 (.loop c_slices_Compact_of_int_l2)))
 (.seq (.rg 16 false [] [{i := .mv 60 (.t 0)}, {i := .mv 2 (.t 60)}] [])
 .ret))))
def n_slices_Compact_of_int : Fn := ⟨c_slices_Compact_of_int, [.s 2], none⟩
def c_ref36_With_l1 : C :=
(.seq (.seq (.rg 2 false [] [{i := .mv 8 (.t 7)}, {i := .fad 9 (.t 3) 4 0}, {i := .load 10 (.t 9) 0}, {i := .len 11 (.t 10)}, {i := .bin 12 .lss (.t 8) (.t 11)}] [])
 (.cond (.t 12) .skip (.exit 0)))
 (.seq (.block 1 (.rg 4 false [] [{i := .mv 15 (.t 1)}, {i := .mv 16 (.t 2)}, {i := .fad 17 (.t 3) 4 0}, {i := .load 18 (.t 17) 0}, {i := .mv 19 (.t 7)}, {i := .mv 20 (.t 7)}, {i := .bin 21 .add (.t 20) (.c (.d true (.int .i64 1)))}, {i := .slc 22 1 (.t 18) (some (.t 19)) (some (.t 21)) none}, {i := .call 23 k_ref36_Told [(.t 16), (.t 22)] none}, {i := .call 24 k_ref22_Put [(.t 15), (.t 23)] none}, {i := .mv 1 (.t 24)}] []))
 (.rg 3 false [] [{i := .mv 13 (.t 7)}, {i := .bin 14 .add (.t 13) (.c (.d true (.int .i64 1)))}, {i := .mv 7 (.t 14)}] [])))
def c_ref36_With : C :=
(.seq (.rg 0 false [] [{i := .box 3 0 (.t 0) 6}, {i := .mv 6 (.c (.nil 1))}] [])
 (.seq (.seq (.rg 1 false [] [{i := .mv 7 (.c (.d true (.int .i64 0)))}] [])
 (.block 0 (.loop c_ref36_With_l1)))
 (.seq (.rg 5 false [] [{i := .mv 25 (.t 1)}, {i := .mv 6 (.t 25)}] [])
 .ret)))
def n_ref36_With : Fn := ⟨c_ref36_With, [.s 6], none⟩
def c_ref22_Put : C :=
(.seq (.rg 0 false [] [{i := .mv 4 (.c (.nil 1))}] [])
 (.seq (.seq (.rg 1 false [] [{i := .mv 6 (.t 1)}, {i := .call 7 k_ref13_Has [(.t 6), (.c (.d true (.int .i64 1)))] none}] [])
 (.cond (.t 7) (.seq (.rg 2 false [] [{i := .mv 8 (.t 0)}, {i := .mv 4 (.t 8)}] [])
 .ret) .skip))
 (.seq (.rg 3 false [] [{i := .mv 9 (.t 1)}, {i := .call 10 k_ref13_Without [(.t 9), (.c (.d true (.int .i64 0)))] none}, {i := .mv 5 (.t 10)}] [])
 (.seq (.seq (.rg 4 false [] [{i := .mv 11 (.t 5)}, {i := .call 12 k_ref13_Always [(.t 11)] none}] [])
 (.cond (.t 12) (.seq (.rg 5 false [] [{i := .mv 13 (.t 0)}, {i := .mv 4 (.t 13)}] [])
 .ret) .skip))
 (.seq (.rg 6 false [] [{i := .mv 14 (.t 0)}, {i := .mv 15 (.t 5)}, {i := .call 16 k_ref13_Sorted [(.t 15)] none}, {i := .bsl 17 0 1 1 (.k (.lst 1 [])) [(0, (.t 16))]}, {i := .app 18 1 1 (.t 14) (.t 17)}, {i := .mv 4 (.t 18)}] [])
 .ret)))))
def n_ref22_Put : Fn := ⟨c_ref22_Put, [.s 4], none⟩
def c_ref36_Told_l1 : C :=
(.seq (.seq (.rg 3 false [] [{i := .mv 7 (.t 6)}, {i := .mv 8 (.t 1)}, {i := .len 9 (.t 8)}, {i := .bin 10 .lss (.t 7) (.t 9)}] [])
 (.cond (.t 10) .skip (.exit 0)))
 (.seq (.block 1 (.rg 5 false [.kill 1 2] [{i := .mv 13 (.t 5)}, {i := .mv 14 (.t 0)}, {i := .mv 15 (.t 1)}, {i := .mv 16 (.t 6)}, {i := .ix 17 (.t 15) (.t 16) 1}, {i := .load 18 (.t 17) 0}, {i := .call 19 k_ref22_Lit [(.t 14), (.t 18)] none}, {i := .bsl 20 1 1 1 (.k (.int .i64 0)) [(0, (.t 19))]}, {i := .app 21 2 1 (.t 13) (.t 20)}, {i := .mv 5 (.t 21)}] []))
 (.rg 4 false [] [{i := .mv 11 (.t 6)}, {i := .bin 12 .add (.t 11) (.c (.d true (.int .i64 1)))}, {i := .mv 6 (.t 12)}] [])))
def c_ref36_Told : C :=
(.seq (.rg 0 false [] [{i := .mv 4 (.c (.nil 1))}] [])
 (.seq (.rg 1 false [] [{i := .nilr 5 0 1}] [])
 (.seq (.seq (.rg 2 false [] [{i := .mv 6 (.c (.d true (.int .i64 0)))}] [])
 (.block 0 (.loop c_ref36_Told_l1)))
 (.seq (.rg 6 false [] [{i := .mv 22 (.t 5)}, {i := .mv 4 (.t 22)}] [])
 .ret))))
def n_ref36_Told : Fn := ⟨c_ref36_Told, [.s 4], (some [false, false])⟩
def c_cmp_Less_of_int : C :=
(.seq (.rg 0 false [] [{i := .mv 4 (.c (.d true (.bool false)))}] [])
 (.seq (.rg 1 false [] [{i := .mv 5 (.t 0)}, {i := .call 6 k_cmp_isNaN_of_int [(.t 5)] none}, {i := .mv 7 (.t 6)}, ⟨.mv 8 (.t 1), some (7, true)⟩, ⟨.call 9 k_cmp_isNaN_of_int [(.t 8)] none, some (7, true)⟩, ⟨.un 10 .not (.t 9), some (7, true)⟩, {i := .pick 11 (.t 7) (.t 10) (.c (.d true (.bool false)))}, {i := .mv 12 (.t 11)}, ⟨.mv 13 (.t 0), some (12, false)⟩, ⟨.mv 14 (.t 1), some (12, false)⟩, ⟨.bin 15 .lss (.t 13) (.t 14), some (12, false)⟩, {i := .pick 16 (.t 12) (.c (.d true (.bool true))) (.t 15)}, {i := .mv 4 (.t 16)}] [])
 .ret))
def n_cmp_Less_of_int : Fn := ⟨c_cmp_Less_of_int, [.s 4], (some [false, false])⟩
def c_ref13_Has_l1 : C :=
(.seq (.seq (.rg 2 false [] [{i := .mv 6 (.t 5)}, {i := .mv 7 (.t 0)}, {i := .len 8 (.t 7)}, {i := .bin 9 .lss (.t 6) (.t 8)}] [])
 (.cond (.t 9) .skip (.exit 0)))
 (.seq (.block 1 (.seq (.rg 4 false [] [{i := .mv 12 (.t 0)}, {i := .mv 13 (.t 5)}, {i := .ix 14 (.t 12) (.t 13) 1}, {i := .load 15 (.t 14) 0}, {i := .mv 16 (.t 1)}, {i := .bin 17 .eql (.t 15) (.t 16)}] [])
 (.cond (.t 17) (.seq (.rg 5 false [] [{i := .mv 4 (.c (.d true (.bool true)))}] [])
 .ret) .skip)))
 (.rg 3 false [] [{i := .mv 10 (.t 5)}, {i := .bin 11 .add (.t 10) (.c (.d true (.int .i64 1)))}, {i := .mv 5 (.t 11)}] [])))
def c_ref13_Has : C :=
(.seq (.rg 0 false [] [{i := .mv 4 (.c (.d true (.bool false)))}] [])
 (.seq (.seq (.rg 1 false [] [{i := .mv 5 (.c (.d true (.int .i64 0)))}] [])
 (.block 0 (.loop c_ref13_Has_l1)))
 (.seq (.rg 6 false [] [{i := .mv 4 (.c (.d true (.bool false)))}] [])
 .ret)))
def n_ref13_Has : Fn := ⟨c_ref13_Has, [.s 4], (some [false, false])⟩
def c_slices_IndexFunc_of_api_Latch_l1 : C :=
(.seq (.rg 2 false [] [{i := .bin 9 .lss (.t 8) (.t 7)}] [])
 (.seq (.cond (.t 9) .skip (.exit 0))
 (.seq (.block 1 (.seq (.rg 3 false [] [{i := .mv 10 (.t 8)}, {i := .mv 5 (.t 10)}] [])
 (.seq (.rg 4 false [] [{i := .mv 11 (.t 1)}, {i := .mv 12 (.t 0)}, {i := .mv 13 (.t 5)}, {i := .ix 14 (.t 12) (.t 13) 2}, {i := .load 15 (.t 14) 3}, {i := .callv 16 (.t 11) [(.t 15)] none}] [])
 (.cond (.t 16) (.seq (.rg 5 false [] [{i := .mv 17 (.t 5)}, {i := .mv 4 (.t 17)}] [])
 .ret) .skip))))
 (.rg 6 false [] [{i := .bin 18 .add (.t 8) (.c (.d true (.int .i64 1)))}, {i := .mv 8 (.t 18)}] []))))
def c_slices_IndexFunc_of_api_Latch : C :=
(.seq (.rg 0 false [] [{i := .mv 4 (.c (.d true (.int .i64 0)))}] [])
 (.seq (.seq (.rg 1 false [] [{i := .mv 6 (.t 0)}, {i := .len 7 (.t 6)}, {i := .mv 8 (.c (.d true (.int .i64 0)))}] [])
 (.block 0 (.loop c_slices_IndexFunc_of_api_Latch_l1)))
 (.seq (.rg 7 false [] [{i := .mv 4 (.c (.d true (.int .i64 (-1))))}] [])
 .ret)))
def n_slices_IndexFunc_of_api_Latch : Fn := ⟨c_slices_IndexFunc_of_api_Latch, [.s 4], none⟩
def c_unroll_frames_fresh : C :=
(.seq (.rg 0 false [] [{i := .mv 2 (.c (.d true (.int .i64 0)))}] [])
 (.seq (.rg 1 false [] [{i := .mv 3 (.t 0)}, {i := .chk 4 (.t 3)}, {i := .fad 5 (.t 4) 0 4}, {i := .fad 6 (.t 5) 0 0}, {i := .load 7 (.t 6) 0}, {i := .bin 8 .add (.t 7) (.c (.d true (.int .i64 1)))}, {i := .chk 9 (.t 3)}, {i := .fad 10 (.t 9) 0 4}, {i := .fad 11 (.t 10) 0 0}, {i := .store (.t 11) (.t 8) 0}] [])
 (.seq (.rg 2 false [] [{i := .mv 12 (.t 0)}, {i := .chk 13 (.t 12)}, {i := .fad 14 (.t 13) 0 4}, {i := .fad 15 (.t 14) 0 0}, {i := .load 16 (.t 15) 0}, {i := .bin 17 .mul (.c (.d true (.int .i64 2))) (.t 16)}, {i := .mv 2 (.t 17)}] [])
 .ret)))
def n_unroll_frames_fresh : Fn := ⟨c_unroll_frames_fresh, [.s 2], none⟩
def c_unroll_frames_add_p1 : C :=
(.block 1 (.seq (.rg 3 false [] [{i := .ix 14 (.t 10) (.t 12) 1}, {i := .load 15 (.t 14) 0}, {i := .mv 6 (.t 15)}] [])
 (.seq (.seq (.rg 4 false [] [{i := .mv 16 (.t 6)}, {i := .bin 17 .eql (.t 16) (.c (.d true (.int .i64 1)))}] [])
 (.cond (.t 17) .ret .skip))
 (.seq (.rg 5 false [] [{i := .mv 18 (.t 6)}, {i := .bin 19 .gtr (.t 18) (.c (.d true (.int .i64 1)))}] [])
 (.cond (.t 19) (.rg 6 false [(.kill 1 2)] [{i := .mv 20 (.t 4)}, {i := .mv 21 (.t 6)}, {i := .bsl 22 1 1 1 (.k (.int .i64 0)) [(0, (.t 21))]}, {i := .app 23 2 1 (.t 20) (.t 22)}, {i := .mv 4 (.t 23)}] []) .skip)))))
def c_unroll_frames_add_l1 : C :=
(.seq (.rg 2 false [] [{i := .bin 13 .lss (.t 12) (.t 11)}] [])
 (.seq (.cond (.t 13) .skip (.exit 0))
 (.seq c_unroll_frames_add_p1
 (.rg 7 false [] [{i := .bin 24 .add (.t 12) (.c (.d true (.int .i64 1)))}, {i := .mv 12 (.t 24)}] []))))
def c_unroll_frames_add_p2 : C :=
(.rg 9 false [] [{i := .mv 36 (.t 9)}, {i := .bin 37 .eql (.t 36) (.c (.d true (.int .i64 0)))}, {i := .mv 38 (.t 37)}, ⟨(.mv 39 (.t 8)), (some (38, true))⟩, ⟨(.un 40 .not (.t 39)), (some (38, true))⟩, {i := .pick 41 (.t 38) (.t 40) (.c (.d true (.bool false)))}] [])
def c_unroll_frames_add : C :=
(.seq (.rg 0 false [] [{i := .nilr 4 0 1}] [])
 (.seq (.seq (.rg 1 false [] [{i := .mv 10 (.t 1)}, {i := .len 11 (.t 10)}, {i := .mv 12 (.c (.d true (.int .i64 0)))}] [])
 (.block 0 (.loop c_unroll_frames_add_l1)))
 (.seq (.rg 8 false [] [{i := .mv 26 (.t 0)}, {i := .chk 27 (.t 26)}, {i := .fad 28 (.t 27) 0 4}, {i := .fad 29 (.t 28) 0 0}, {i := .load 30 (.t 29) 0}, {i := .mv 31 (.t 4)}, {i := .call 32 k_clause_Make [(.t 30), (.t 31)] none}, {i := .mv 25 (.t 32)}, {i := .xt 33 (.t 25) 0}, {i := .xt 34 (.t 25) 1}, {i := .xt 35 (.t 25) 2}, {i := .mv 7 (.t 33)}, {i := .mv 8 (.t 34)}, {i := .mv 9 (.t 35)}] [])
 (.seq c_unroll_frames_add_p2
 (.cond (.t 41) (.rg 10 false [] [{i := .mv 42 (.t 0)}, {i := .mv 43 (.t 0)}, {i := .chk 44 (.t 43)}, {i := .fad 45 (.t 44) 0 4}, {i := .fad 46 (.t 45) 2 0}, {i := .load 47 (.t 46) 0}, {i := .mv 48 (.t 7)}, {i := .bsl 49 3 1 1 (.k (.lst 1 [])) [(0, (.t 48))]}, {i := .app 50 4 1 (.t 47) (.t 49)}, {i := .chk 51 (.t 42)}, {i := .fad 52 (.t 51) 0 4}, {i := .fad 53 (.t 52) 2 0}, {i := .store (.t 53) (.t 50) 0}] []) .skip)))))
def n_unroll_frames_add : Fn := ⟨c_unroll_frames_add, [], none⟩
def c_ref23_Resets_p1 : C :=
(.rg 6 false [] [{i := .mv 21 (.t 1)}, {i := .mv 22 (.t 21)}, ⟨(.mv 23 (.t 7)), (some (22, false))⟩, ⟨(.bin 24 .eql (.t 23) (.c (.d true (.int .i64 2)))), (some (22, false))⟩, {i := .pick 25 (.t 22) (.c (.d true (.bool true))) (.t 24)}] [])
def c_ref23_Resets_p2 : C :=
(.seq c_ref23_Resets_p1
 (.cond (.t 25) (.rg 7 false [] [{i := .mv 7 (.c (.d true (.int .i64 (-1))))}] []) .skip))
def c_ref23_Resets_l1 : C :=
(.seq (.seq (.rg 3 false [] [{i := .mv 8 (.t 6)}, {i := .fad 9 (.t 2) 1 0}, {i := .load 10 (.t 9) 0}, {i := .len 11 (.t 10)}, {i := .bin 12 .lss (.t 8) (.t 11)}] [])
 (.cond (.t 12) .skip (.exit 0)))
 (.seq (.block 1 (.seq (.rg 5 false [] [{i := .fad 15 (.t 2) 1 0}, {i := .load 16 (.t 15) 0}, {i := .mv 17 (.t 6)}, {i := .ix 18 (.t 16) (.t 17) 2}, {i := .fad 19 (.t 18) 1 0}, {i := .load 20 (.t 19) 0}, {i := .mv 7 (.t 20)}] [])
 (.seq c_ref23_Resets_p2
 (.rg 8 false [(.kill 2 3)] [{i := .mv 26 (.t 5)}, {i := .mv 27 (.t 7)}, {i := .bsl 28 2 1 1 (.k (.int .i64 0)) [(0, (.t 27))]}, {i := .app 29 3 1 (.t 26) (.t 28)}, {i := .mv 5 (.t 29)}] []))))
 (.rg 4 false [] [{i := .mv 13 (.t 6)}, {i := .bin 14 .add (.t 13) (.c (.d true (.int .i64 1)))}, {i := .mv 6 (.t 14)}] [])))
def c_ref23_Resets : C :=
(.seq (.rg 0 false [] [{i := .box 2 0 (.t 0) 6}, {i := .mv 4 (.c (.nil 1))}] [])
 (.seq (.rg 1 false [] [{i := .nilr 5 1 1}] [])
 (.seq (.seq (.rg 2 false [] [{i := .mv 6 (.c (.d true (.int .i64 0)))}] [])
 (.block 0 (.loop c_ref23_Resets_l1)))
 (.seq (.rg 9 false [] [{i := .mv 30 (.t 5)}, {i := .mv 4 (.t 30)}] [])
 .ret))))
def n_ref23_Resets : Fn := ⟨c_ref23_Resets, [.s 4], (some [false, false])⟩
def c_ref23_More_p1 : C :=
(.rg 6 false [] [{i := .mv 26 (.t 9)}, {i := .bin 27 .geq (.t 26) (.c (.d true (.int .i64 0)))}, {i := .mv 28 (.t 27)}, ⟨(.mv 29 (.t 10)), (some (28, true))⟩, ⟨(.bin 30 .lss (.t 29) (.c (.d true (.int .i64 0)))), (some (28, true))⟩, {i := .pick 31 (.t 28) (.t 30) (.c (.d true (.bool false)))}, {i := .mv 32 (.t 31)}, ⟨(.mv 33 (.t 2)), (some (32, true))⟩, ⟨(.mv 34 (.t 9)), (some (32, true))⟩, ⟨(.ix 35 (.t 33) (.t 34) 1), (some (32, true))⟩, ⟨(.load 36 (.t 35) 0), (some (32, true))⟩, ⟨(.bin 37 .geq (.t 36) (.c (.d true (.int .i64 0)))), (some (32, true))⟩, {i := .pick 38 (.t 32) (.t 37) (.c (.d true (.bool false)))}] [])
def c_ref23_More_p2 : C :=
(.block 1 (.seq (.rg 5 true [] [{i := .mv 18 (.t 8)}, {i := .bin 19 .sub (.t 18) (.c (.d true (.int .i64 1)))}, {i := .fad 20 (.t 3) 0 0}, {i := .load 21 (.t 20) 0}, {i := .bin 22 .sub (.t 19) (.t 21)}, {i := .load 23 (.t 3) 6}, {i := .mv 24 (.t 8)}, {i := .call 25 k_ref02_Gate [(.t 23), (.t 24)] none}, {i := .mv 9 (.t 22)}, {i := .mv 10 (.t 25)}] [])
 (.seq (.seq c_ref23_More_p1
 (.cond (.t 38) (.seq (.rg 7 false [(.kill 6 7)] [{i := .mv 39 (.t 7)}, {i := .mv 40 (.t 2)}, {i := .mv 41 (.t 9)}, {i := .ix 42 (.t 40) (.t 41) 1}, {i := .load 43 (.t 42) 0}, {i := .bsl 44 6 1 1 (.k (.int .i64 0)) [(0, (.t 43))]}, {i := .app 45 7 1 (.t 39) (.t 44)}, {i := .mv 7 (.t 45)}] [])
 (.exit 1)) .skip))
 (.seq (.rg 8 false [] [{i := .fad 46 (.t 4) 0 0}, {i := .load 47 (.t 46) 0}, {i := .bin 48 .add (.t 47) (.c (.d true (.int .i64 1)))}, {i := .fad 49 (.t 4) 0 0}, {i := .store (.t 49) (.t 48) 0}] [])
 (.seq (.rg 9 false [(.kill 8 9)] [{i := .mv 50 (.t 7)}, {i := .fad 51 (.t 4) 0 0}, {i := .load 52 (.t 51) 0}, {i := .bin 53 .mul (.c (.d true (.int .i64 2))) (.t 52)}, {i := .bsl 54 8 1 1 (.k (.int .i64 0)) [(0, (.t 53))]}, {i := .app 55 9 1 (.t 50) (.t 54)}, {i := .mv 7 (.t 55)}] [])
 (.seq (.rg 10 false [] [{i := .mv 56 (.t 10)}, {i := .bin 57 .geq (.t 56) (.c (.d true (.int .i64 0)))}] [])
 (.cond (.t 57) (.rg 11 true [] [{i := .fad 58 (.t 4) 2 0}, {i := .load 59 (.t 58) 0}, {i := .fad 60 (.t 4) 0 0}, {i := .load 61 (.t 60) 0}, {i := .bin 62 .mul (.c (.d true (.int .i64 2))) (.t 61)}, {i := .mv 63 (.t 7)}, {i := .fad 64 (.t 3) 2 0}, {i := .load 65 (.t 64) 0}, {i := .mv 66 (.t 10)}, {i := .ix 67 (.t 65) (.t 66) 2}, {i := .fad 68 (.t 67) 0 0}, {i := .load 69 (.t 68) 0}, {i := .call 70 k_ref22_Lit [(.t 63), (.t 69)] none}, {i := .mv 71 (.t 7)}, {i := .fad 72 (.t 3) 2 0}, {i := .load 73 (.t 72) 0}, {i := .mv 74 (.t 10)}, {i := .ix 75 (.t 73) (.t 74) 2}, {i := .fad 76 (.t 75) 1 0}, {i := .load 77 (.t 76) 0}, {i := .call 78 k_ref22_Lit [(.t 71), (.t 77)] none}, {i := .call 79 k_ref22_Gate [(.t 59), (.t 62), (.t 70), (.t 78)] none}, {i := .fad 80 (.t 4) 2 0}, {i := .store (.t 80) (.t 79) 0}] []) .skip)))))))
def c_ref23_More_l1 : C :=
(.seq (.seq (.rg 3 false [] [{i := .mv 12 (.t 8)}, {i := .load 13 (.t 3) 6}, {i := .call 14 k_ref02_Size [(.t 13)] none}, {i := .bin 15 .leq (.t 12) (.t 14)}] [])
 (.cond (.t 15) .skip (.exit 0)))
 (.seq c_ref23_More_p2
 (.rg 4 false [] [{i := .mv 16 (.t 8)}, {i := .bin 17 .add (.t 16) (.c (.d true (.int .i64 1)))}, {i := .mv 8 (.t 17)}] [])))
def c_ref23_More : C :=
(.seq (.rg 0 false [] [{i := .box 3 0 (.t 0) 6}, {i := .box 4 1 (.t 1) 4}, {i := .alloc 6 2 [(.k (.int .i64 0)), (.r 3 1), (.r 4 1)]}] [])
 (.seq (.rg 1 false [] [{i := .bsl 11 5 1 1 (.k (.int .i64 0)) [(0, (.c (.d true (.int .i64 0))))]}, {i := .mv 7 (.t 11)}] [])
 (.seq (.seq (.rg 2 false [] [{i := .mv 8 (.c (.d true (.int .i64 1)))}] [])
 (.block 0 (.loop c_ref23_More_l1)))
 (.seq (.rg 12 false [] [{i := .fad 81 (.t 4) 1 0}, {i := .load 82 (.t 81) 0}, {i := .mv 83 (.t 7)}, {i := .bsl 84 10 1 1 (.k (.lst 1 [])) [(0, (.t 83))]}, {i := .app 85 11 1 (.t 82) (.t 84)}, {i := .fad 86 (.t 4) 1 0}, {i := .store (.t 86) (.t 85) 0}] [])
 (.seq (.rg 13 false [] [{i := .load 87 (.t 4) 4}, {i := .store (.t 6) (.t 87) 4}] [])
 .ret)))))
def n_ref23_More : Fn := ⟨c_ref23_More, [.c 6 4], none⟩
def c_ref23_Behind_l1 : C :=
(.seq (.seq (.rg 3 false [] [{i := .mv 7 (.t 6)}, {i := .fad 8 (.t 2) 1 0}, {i := .load 9 (.t 8) 0}, {i := .len 10 (.t 9)}, {i := .bin 11 .lss (.t 7) (.t 10)}] [])
 (.cond (.t 11) .skip (.exit 0)))
 (.seq (.block 1 (.rg 5 false [.kill 2 3] [{i := .mv 14 (.t 5)}, {i := .mv 15 (.t 1)}, {i := .fad 16 (.t 2) 1 0}, {i := .load 17 (.t 16) 0}, {i := .mv 18 (.t 6)}, {i := .ix 19 (.t 17) (.t 18) 2}, {i := .fad 20 (.t 19) 0 0}, {i := .load 21 (.t 20) 0}, {i := .call 22 k_ref22_Lit [(.t 15), (.t 21)] none}, {i := .bsl 23 2 1 1 (.k (.int .i64 0)) [(0, (.t 22))]}, {i := .app 24 3 1 (.t 14) (.t 23)}, {i := .mv 5 (.t 24)}] []))
 (.rg 4 false [] [{i := .mv 12 (.t 6)}, {i := .bin 13 .add (.t 12) (.c (.d true (.int .i64 1)))}, {i := .mv 6 (.t 13)}] [])))
def c_ref23_Behind : C :=
(.seq (.rg 0 false [] [{i := .box 2 0 (.t 0) 6}, {i := .mv 4 (.c (.nil 1))}] [])
 (.seq (.rg 1 false [] [{i := .nilr 5 1 1}] [])
 (.seq (.seq (.rg 2 false [] [{i := .mv 6 (.c (.d true (.int .i64 0)))}] [])
 (.block 0 (.loop c_ref23_Behind_l1)))
 (.seq (.rg 6 false [] [{i := .mv 25 (.t 5)}, {i := .mv 4 (.t 25)}] [])
 .ret))))
def n_ref23_Behind : Fn := ⟨c_ref23_Behind, [.s 4], (some [false, false])⟩
def c_slices_pdqsortOrdered_of_int_l1 : C :=
(.block 1 (.seq (.rg 2 false [] [{i := .mv 19 (.t 2)}, {i := .mv 20 (.t 1)}, {i := .bin 21 .sub (.t 19) (.t 20)}, {i := .mv 10 (.t 21)}] [])
 (.seq (.seq (.rg 3 false [] [{i := .mv 22 (.t 10)}, {i := .bin 23 .leq (.t 22) (.c (.d true (.int .i64 12)))}] [])
 (.cond (.t 23) (.seq (.rg 4 false [] [{i := .mv 24 (.t 0)}, {i := .mv 25 (.t 1)}, {i := .mv 26 (.t 2)}, {i := .call 27 k_slices_insertionSortOrdered_of_int [(.t 24), (.t 25), (.t 26)] none}] [])
 .ret) .skip))
 (.seq (.seq (.rg 5 false [] [{i := .mv 28 (.t 3)}, {i := .bin 29 .eql (.t 28) (.c (.d true (.int .i64 0)))}] [])
 (.cond (.t 29) (.seq (.rg 6 false [] [{i := .mv 30 (.t 0)}, {i := .mv 31 (.t 1)}, {i := .mv 32 (.t 2)}, {i := .call 33 k_slices_heapSortOrdered_of_int [(.t 30), (.t 31), (.t 32)] none}] [])
 .ret) .skip))
 (.seq (.seq (.rg 7 false [] [{i := .mv 34 (.t 8)}, {i := .un 35 .not (.t 34)}] [])
 (.cond (.t 35) (.seq (.rg 8 false [] [{i := .mv 36 (.t 0)}, {i := .mv 37 (.t 1)}, {i := .mv 38 (.t 2)}, {i := .call 39 k_slices_breakPatternsOrdered_of_int [(.t 36), (.t 37), (.t 38)] none}] [])
 (.rg 9 false [] [{i := .mv 40 (.t 3)}, {i := .bin 41 .sub (.t 40) (.c (.d true (.int .i64 1)))}, {i := .mv 3 (.t 41)}] [])) .skip))
 (.seq (.rg 10 false [] [{i := .mv 43 (.t 0)}, {i := .mv 44 (.t 1)}, {i := .mv 45 (.t 2)}, {i := .call 46 k_slices_choosePivotOrdered_of_int [(.t 43), (.t 44), (.t 45)] none}, {i := .mv 42 (.t 46)}, {i := .xt 47 (.t 42) 0}, {i := .xt 48 (.t 42) 1}, {i := .mv 11 (.t 47)}, {i := .mv 12 (.t 48)}] [])
 (.seq (.seq (.rg 11 false [] [{i := .mv 49 (.t 12)}, {i := .bin 50 .eql (.t 49) (.c (.d true (.int .i64 2)))}] [])
 (.cond (.t 50) (.seq (.rg 12 false [] [{i := .mv 51 (.t 0)}, {i := .mv 52 (.t 1)}, {i := .mv 53 (.t 2)}, {i := .call 54 k_slices_reverseRangeOrdered_of_int [(.t 51), (.t 52), (.t 53)] none}] [])
 (.seq (.rg 13 false [] [{i := .mv 55 (.t 2)}, {i := .bin 56 .sub (.t 55) (.c (.d true (.int .i64 1)))}, {i := .mv 57 (.t 11)}, {i := .mv 58 (.t 1)}, {i := .bin 59 .sub (.t 57) (.t 58)}, {i := .bin 60 .sub (.t 56) (.t 59)}, {i := .mv 11 (.t 60)}] [])
 (.rg 14 false [] [{i := .mv 12 (.c (.d true (.int .i64 1)))}] []))) .skip))
 (.seq (.seq (.rg 15 false [] [{i := .mv 61 (.t 8)}, {i := .mv 62 (.t 61)}, ⟨.mv 63 (.t 9), some (62, true)⟩, {i := .pick 64 (.t 62) (.t 63) (.c (.d true (.bool false)))}, {i := .mv 65 (.t 64)}, ⟨.mv 66 (.t 12), some (65, true)⟩, ⟨.bin 67 .eql (.t 66) (.c (.d true (.int .i64 1))), some (65, true)⟩, {i := .pick 68 (.t 65) (.t 67) (.c (.d true (.bool false)))}] [])
 (.cond (.t 68) (.seq (.rg 16 false [] [{i := .mv 69 (.t 0)}, {i := .mv 70 (.t 1)}, {i := .mv 71 (.t 2)}, {i := .call 72 k_slices_partialInsertionSortOrdered_of_int [(.t 69), (.t 70), (.t 71)] none}] [])
 (.cond (.t 72) .ret .skip)) .skip))
 (.seq (.seq (.rg 17 true [] [{i := .mv 73 (.t 1)}, {i := .bin 74 .gtr (.t 73) (.c (.d true (.int .i64 0)))}, {i := .mv 75 (.t 74)}, ⟨.mv 76 (.t 0), some (75, true)⟩, ⟨.mv 77 (.t 1), some (75, true)⟩, ⟨.bin 78 .sub (.t 77) (.c (.d true (.int .i64 1))), some (75, true)⟩, ⟨.ix 79 (.t 76) (.t 78) 1, some (75, true)⟩, ⟨.load 80 (.t 79) 0, some (75, true)⟩, ⟨.mv 81 (.t 0), some (75, true)⟩, ⟨.mv 82 (.t 11), some (75, true)⟩, ⟨.ix 83 (.t 81) (.t 82) 1, some (75, true)⟩, ⟨.load 84 (.t 83) 0, some (75, true)⟩, ⟨.call 85 k_cmp_Less_of_int [(.t 80), (.t 84)] none, some (75, true)⟩, ⟨.un 86 .not (.t 85), some (75, true)⟩, {i := .pick 87 (.t 75) (.t 86) (.c (.d true (.bool false)))}] [])
 (.cond (.t 87) (.seq (.rg 18 false [] [{i := .mv 88 (.t 0)}, {i := .mv 89 (.t 1)}, {i := .mv 90 (.t 2)}, {i := .mv 91 (.t 11)}, {i := .call 92 k_slices_partitionEqualOrdered_of_int [(.t 88), (.t 89), (.t 90), (.t 91)] none}, {i := .mv 13 (.t 92)}] [])
 (.seq (.rg 19 false [] [{i := .mv 93 (.t 13)}, {i := .mv 1 (.t 93)}] [])
 (.exit 1))) .skip))
 (.seq (.rg 20 false [] [{i := .mv 95 (.t 0)}, {i := .mv 96 (.t 1)}, {i := .mv 97 (.t 2)}, {i := .mv 98 (.t 11)}, {i := .call 99 k_slices_partitionOrdered_of_int [(.t 95), (.t 96), (.t 97), (.t 98)] none}, {i := .mv 94 (.t 99)}, {i := .xt 100 (.t 94) 0}, {i := .xt 101 (.t 94) 1}, {i := .mv 14 (.t 100)}, {i := .mv 15 (.t 101)}] [])
 (.seq (.rg 21 false [] [{i := .mv 102 (.t 15)}, {i := .mv 9 (.t 102)}] [])
 (.seq (.rg 22 false [] [{i := .mv 103 (.t 14)}, {i := .mv 104 (.t 1)}, {i := .bin 105 .sub (.t 103) (.t 104)}, {i := .mv 106 (.t 2)}, {i := .mv 107 (.t 14)}, {i := .bin 108 .sub (.t 106) (.t 107)}, {i := .mv 16 (.t 105)}, {i := .mv 17 (.t 108)}] [])
 (.seq (.rg 23 false [] [{i := .mv 109 (.t 10)}, {i := .bin 110 .quo (.t 109) (.c (.d true (.int .i64 8)))}, {i := .mv 18 (.t 110)}] [])
 (.seq (.rg 24 false [] [{i := .mv 111 (.t 16)}, {i := .mv 112 (.t 17)}, {i := .bin 113 .lss (.t 111) (.t 112)}] [])
 (.cond (.t 113) (.seq (.rg 25 false [] [{i := .mv 114 (.t 16)}, {i := .mv 115 (.t 18)}, {i := .bin 116 .geq (.t 114) (.t 115)}, {i := .mv 8 (.t 116)}] [])
 (.seq (.rg 26 false [] [{i := .mv 117 (.t 0)}, {i := .mv 118 (.t 1)}, {i := .mv 119 (.t 14)}, {i := .mv 120 (.t 3)}, {i := .call 121 k_slices_pdqsortOrdered_of_int [(.t 117), (.t 118), (.t 119), (.t 120)] none}] [])
 (.rg 27 false [] [{i := .mv 122 (.t 14)}, {i := .bin 123 .add (.t 122) (.c (.d true (.int .i64 1)))}, {i := .mv 1 (.t 123)}] []))) (.seq (.rg 28 false [] [{i := .mv 124 (.t 17)}, {i := .mv 125 (.t 18)}, {i := .bin 126 .geq (.t 124) (.t 125)}, {i := .mv 8 (.t 126)}] [])
 (.seq (.rg 29 false [] [{i := .mv 127 (.t 0)}, {i := .mv 128 (.t 14)}, {i := .bin 129 .add (.t 128) (.c (.d true (.int .i64 1)))}, {i := .mv 130 (.t 2)}, {i := .mv 131 (.t 3)}, {i := .call 132 k_slices_pdqsortOrdered_of_int [(.t 127), (.t 129), (.t 130), (.t 131)] none}] [])
 (.rg 30 false [] [{i := .mv 133 (.t 14)}, {i := .mv 2 (.t 133)}] []))))))))))))))))))
def c_slices_pdqsortOrdered_of_int : C :=
(.seq (.rg 0 false [] [{i := .mv 8 (.c (.d true (.bool true)))}] [])
 (.seq (.rg 1 false [] [{i := .mv 9 (.c (.d true (.bool true)))}] [])
 (.block 0 (.loop c_slices_pdqsortOrdered_of_int_l1))))
def n_slices_pdqsortOrdered_of_int : Fn := ⟨c_slices_pdqsortOrdered_of_int, [], none⟩
def c_bits_Len : C :=
(.seq (.rg 0 false [] [{i := .mv 2 (.c (.d true (.int .i64 0)))}] [])
 (.seq (.cond (.c (.d true (.bool false))) (.seq (.rg 1 false [] [{i := .mv 3 (.t 0)}, {i := .cvt 4 .u32 (.t 3)}, {i := .call 5 k_bits_Len32 [(.t 4)] none}, {i := .mv 2 (.t 5)}] [])
 .ret) .skip)
 (.seq (.rg 2 false [] [{i := .mv 6 (.t 0)}, {i := .call 7 k_bits_Len64 [(.t 6)] none}, {i := .mv 2 (.t 7)}] [])
 .ret)))
def n_bits_Len : Fn := ⟨c_bits_Len, [.s 2], (some [false])⟩
def c_ref13_Without_p1 : C :=
(.block 1 (.seq (.rg 5 false [] [{i := .mv 13 (.t 0)}, {i := .mv 14 (.t 6)}, {i := .ix 15 (.t 13) (.t 14) 1}, {i := .load 16 (.t 15) 0}, {i := .mv 17 (.t 1)}, {i := .bin 18 .neq (.t 16) (.t 17)}] [])
 (.cond (.t 18) (.rg 6 false [(.kill 1 2)] [{i := .mv 19 (.t 5)}, {i := .mv 20 (.t 0)}, {i := .mv 21 (.t 6)}, {i := .ix 22 (.t 20) (.t 21) 1}, {i := .load 23 (.t 22) 0}, {i := .bsl 24 1 1 1 (.k (.int .i64 0)) [(0, (.t 23))]}, {i := .app 25 2 1 (.t 19) (.t 24)}, {i := .mv 5 (.t 25)}] []) .skip)))
def c_ref13_Without_l1 : C :=
(.seq (.seq (.rg 3 false [] [{i := .mv 7 (.t 6)}, {i := .mv 8 (.t 0)}, {i := .len 9 (.t 8)}, {i := .bin 10 .lss (.t 7) (.t 9)}] [])
 (.cond (.t 10) .skip (.exit 0)))
 (.seq c_ref13_Without_p1
 (.rg 4 false [] [{i := .mv 11 (.t 6)}, {i := .bin 12 .add (.t 11) (.c (.d true (.int .i64 1)))}, {i := .mv 6 (.t 12)}] [])))
def c_ref13_Without : C :=
(.seq (.rg 0 false [] [{i := .mv 4 (.c (.nil 1))}] [])
 (.seq (.rg 1 false [] [{i := .nilr 5 0 1}] [])
 (.seq (.seq (.rg 2 false [] [{i := .mv 6 (.c (.d true (.int .i64 0)))}] [])
 (.block 0 (.loop c_ref13_Without_l1)))
 (.seq (.rg 7 false [] [{i := .mv 26 (.t 5)}, {i := .mv 4 (.t 26)}] [])
 .ret))))
def n_ref13_Without : Fn := ⟨c_ref13_Without, [.s 4], (some [false, false])⟩
def c_ref13_Always_l1 : C :=
(.seq (.seq (.rg 2 false [] [{i := .mv 4 (.t 3)}, {i := .mv 5 (.t 0)}, {i := .len 6 (.t 5)}, {i := .bin 7 .lss (.t 4) (.t 6)}] [])
 (.cond (.t 7) .skip (.exit 0)))
 (.seq (.block 1 (.seq (.rg 4 false [] [{i := .mv 10 (.t 0)}, {i := .mv 11 (.t 0)}, {i := .mv 12 (.t 3)}, {i := .ix 13 (.t 11) (.t 12) 1}, {i := .load 14 (.t 13) 0}, {i := .call 15 k_ref13_Not [(.t 14)] none}, {i := .call 16 k_ref13_Has [(.t 10), (.t 15)] none}] [])
 (.cond (.t 16) (.seq (.rg 5 false [] [{i := .mv 2 (.c (.d true (.bool true)))}] [])
 .ret) .skip)))
 (.rg 3 false [] [{i := .mv 8 (.t 3)}, {i := .bin 9 .add (.t 8) (.c (.d true (.int .i64 1)))}, {i := .mv 3 (.t 9)}] [])))
def c_ref13_Always : C :=
(.seq (.rg 0 false [] [{i := .mv 2 (.c (.d true (.bool false)))}] [])
 (.seq (.seq (.rg 1 false [] [{i := .mv 3 (.c (.d true (.int .i64 0)))}] [])
 (.block 0 (.loop c_ref13_Always_l1)))
 (.seq (.rg 6 false [] [{i := .mv 2 (.c (.d true (.bool false)))}] [])
 .ret)))
def n_ref13_Always : Fn := ⟨c_ref13_Always, [.s 2], (some [false])⟩
def c_ref13_Sorted_p1 : C :=
(.rg 8 true [] [{i := .mv 28 (.t 5)}, {i := .bin 29 .gtr (.t 28) (.c (.d true (.int .i64 0)))}, {i := .mv 30 (.t 29)}, ⟨(.mv 31 (.t 3)), (some (30, true))⟩, ⟨(.mv 32 (.t 5)), (some (30, true))⟩, ⟨(.ix 33 (.t 31) (.t 32) 1), (some (30, true))⟩, ⟨(.load 34 (.t 33) 0), (some (30, true))⟩, ⟨(.mv 35 (.t 3)), (some (30, true))⟩, ⟨(.mv 36 (.t 5)), (some (30, true))⟩, ⟨(.bin 37 .sub (.t 36) (.c (.d true (.int .i64 1)))), (some (30, true))⟩, ⟨(.ix 38 (.t 35) (.t 37) 1), (some (30, true))⟩, ⟨(.load 39 (.t 38) 0), (some (30, true))⟩, ⟨(.bin 40 .lss (.t 34) (.t 39)), (some (30, true))⟩, {i := .pick 41 (.t 30) (.t 40) (.c (.d true (.bool false)))}] [])
def c_ref13_Sorted_l1 : C :=
(.seq (.seq c_ref13_Sorted_p1
 (.cond (.t 41) .skip (.exit 2)))
 (.seq (.block 3 (.rg 10 true [] [{i := .mv 44 (.t 3)}, {i := .mv 45 (.t 5)}, {i := .mv 46 (.t 3)}, {i := .mv 47 (.t 5)}, {i := .bin 48 .sub (.t 47) (.c (.d true (.int .i64 1)))}, {i := .mv 49 (.t 3)}, {i := .mv 50 (.t 5)}, {i := .bin 51 .sub (.t 50) (.c (.d true (.int .i64 1)))}, {i := .ix 52 (.t 49) (.t 51) 1}, {i := .load 53 (.t 52) 0}, {i := .mv 54 (.t 3)}, {i := .mv 55 (.t 5)}, {i := .ix 56 (.t 54) (.t 55) 1}, {i := .load 57 (.t 56) 0}, {i := .ix 58 (.t 44) (.t 45) 1}, {i := .store (.t 58) (.t 53) 0}, {i := .ix 59 (.t 46) (.t 48) 1}, {i := .store (.t 59) (.t 57) 0}] []))
 (.rg 9 false [] [{i := .mv 42 (.t 5)}, {i := .bin 43 .sub (.t 42) (.c (.d true (.int .i64 1)))}, {i := .mv 5 (.t 43)}] [])))
def c_ref13_Sorted_p2 : C :=
(.block 1 (.seq (.seq (.rg 5 false [] [{i := .mv 12 (.t 3)}, {i := .mv 13 (.t 0)}, {i := .mv 14 (.t 4)}, {i := .ix 15 (.t 13) (.t 14) 1}, {i := .load 16 (.t 15) 0}, {i := .call 17 k_ref13_Has [(.t 12), (.t 16)] none}] [])
 (.cond (.t 17) (.exit 1) .skip))
 (.seq (.rg 6 false [(.kill 1 2)] [{i := .mv 18 (.t 3)}, {i := .mv 19 (.t 0)}, {i := .mv 20 (.t 4)}, {i := .ix 21 (.t 19) (.t 20) 1}, {i := .load 22 (.t 21) 0}, {i := .bsl 23 1 1 1 (.k (.int .i64 0)) [(0, (.t 22))]}, {i := .app 24 2 1 (.t 18) (.t 23)}, {i := .mv 3 (.t 24)}] [])
 (.seq (.rg 7 false [(.settle 0)] [{i := .mv 25 (.t 3)}, {i := .len 26 (.t 25)}, {i := .bin 27 .sub (.t 26) (.c (.d true (.int .i64 1)))}, {i := .mv 5 (.t 27)}] [])
 (.block 2 (.loop c_ref13_Sorted_l1))))))
def c_ref13_Sorted_l2 : C :=
(.seq (.seq (.rg 3 false [] [{i := .mv 6 (.t 4)}, {i := .mv 7 (.t 0)}, {i := .len 8 (.t 7)}, {i := .bin 9 .lss (.t 6) (.t 8)}] [])
 (.cond (.t 9) .skip (.exit 0)))
 (.seq c_ref13_Sorted_p2
 (.rg 4 false [] [{i := .mv 10 (.t 4)}, {i := .bin 11 .add (.t 10) (.c (.d true (.int .i64 1)))}, {i := .mv 4 (.t 11)}] [])))
def c_ref13_Sorted : C :=
(.seq (.rg 0 false [] [{i := .mv 2 (.c (.nil 1))}] [])
 (.seq (.rg 1 false [] [{i := .nilr 3 0 1}] [])
 (.seq (.seq (.rg 2 false [] [{i := .mv 4 (.c (.d true (.int .i64 0)))}] [])
 (.block 0 (.loop c_ref13_Sorted_l2)))
 (.seq (.rg 11 false [] [{i := .mv 60 (.t 3)}, {i := .mv 2 (.t 60)}] [])
 .ret))))
def n_ref13_Sorted : Fn := ⟨c_ref13_Sorted, [.s 2], (some [false])⟩
def c_ref22_Lit : C :=
(.seq (.rg 0 false [] [{i := .mv 4 (.c (.d true (.int .i64 0)))}] [])
 (.seq (.seq (.rg 1 false [] [{i := .mv 5 (.t 1)}, {i := .bin 6 .rem (.t 5) (.c (.d true (.int .i64 2)))}, {i := .bin 7 .eql (.t 6) (.c (.d true (.int .i64 1)))}] [])
 (.cond (.t 7) (.seq (.rg 2 false [] [{i := .mv 8 (.t 0)}, {i := .mv 9 (.t 1)}, {i := .bin 10 .quo (.t 9) (.c (.d true (.int .i64 2)))}, {i := .ix 11 (.t 8) (.t 10) 1}, {i := .load 12 (.t 11) 0}, {i := .call 13 k_ref22_Not [(.t 12)] none}, {i := .mv 4 (.t 13)}] [])
 .ret) .skip))
 (.seq (.rg 3 false [] [{i := .mv 14 (.t 0)}, {i := .mv 15 (.t 1)}, {i := .bin 16 .quo (.t 15) (.c (.d true (.int .i64 2)))}, {i := .ix 17 (.t 14) (.t 16) 1}, {i := .load 18 (.t 17) 0}, {i := .mv 4 (.t 18)}] [])
 .ret)))
def n_ref22_Lit : Fn := ⟨c_ref22_Lit, [.s 4], (some [false, false])⟩
def c_cmp_isNaN_of_int : C :=
(.seq (.rg 0 false [] [{i := .mv 2 (.c (.d true (.bool false)))}] [])
 (.seq (.rg 1 false [] [{i := .mv 3 (.t 0)}, {i := .mv 4 (.t 0)}, {i := .bin 5 .neq (.t 3) (.t 4)}, {i := .mv 2 (.t 5)}] [])
 .ret))
def n_cmp_isNaN_of_int : Fn := ⟨c_cmp_isNaN_of_int, [.s 2], (some [false])⟩
def c_clause_Make_p1 : C :=
(.rg 1 false [] [{i := .mv 10 (.t 0)}, {i := .bin 11 .lss (.t 10) (.c (.d true (.int .i64 0)))}, {i := .mv 12 (.t 11)}, ⟨(.mv 13 (.t 0)), (some (12, false))⟩, ⟨(.bin 14 .gtr (.t 13) (.c (.d true (.int .i64 4000)))), (some (12, false))⟩, {i := .pick 15 (.t 12) (.c (.d true (.bool true))) (.t 14)}] [])
def c_clause_Make_l1 : C :=
(.seq (.rg 4 false [] [{i := .bin 19 .lss (.t 18) (.t 17)}] [])
 (.seq (.cond (.t 19) .skip (.exit 0))
 (.seq (.block 1 (.seq (.rg 5 false [] [{i := .ix 20 (.t 16) (.t 18) 1}, {i := .load 21 (.t 20) 0}, {i := .mv 8 (.t 21)}] [])
 (.seq (.rg 6 false [] [{i := .mv 22 (.t 0)}, {i := .mv 23 (.t 8)}, {i := .call 24 k_clause_known [(.t 22), (.t 23)] none}, {i := .un 25 .not (.t 24)}] [])
 (.cond (.t 25) (.seq (.rg 7 false [] [{i := .mv 4 (.c (.nil 1))}, {i := .mv 5 (.c (.d true (.bool false)))}, {i := .mv 6 (.c (.d true (.int .i64 8)))}] [])
 .ret) .skip))))
 (.rg 8 false [] [{i := .bin 26 .add (.t 18) (.c (.d true (.int .i64 1)))}, {i := .mv 18 (.t 26)}] []))))
def c_clause_Make_p2 : C :=
(.rg 15 true [] [{i := .mv 38 (.t 9)}, {i := .bin 39 .gtr (.t 38) (.c (.d true (.int .i64 0)))}, {i := .mv 40 (.t 39)}, ⟨(.mv 41 (.t 4)), (some (40, true))⟩, ⟨(.mv 42 (.t 9)), (some (40, true))⟩, ⟨(.ix 43 (.t 41) (.t 42) 1), (some (40, true))⟩, ⟨(.load 44 (.t 43) 0), (some (40, true))⟩, ⟨(.bin 45 .quo (.t 44) (.c (.d true (.int .i64 2)))), (some (40, true))⟩, ⟨(.mv 46 (.t 4)), (some (40, true))⟩, ⟨(.mv 47 (.t 9)), (some (40, true))⟩, ⟨(.bin 48 .sub (.t 47) (.c (.d true (.int .i64 1)))), (some (40, true))⟩, ⟨(.ix 49 (.t 46) (.t 48) 1), (some (40, true))⟩, ⟨(.load 50 (.t 49) 0), (some (40, true))⟩, ⟨(.bin 51 .quo (.t 50) (.c (.d true (.int .i64 2)))), (some (40, true))⟩, ⟨(.bin 52 .eql (.t 45) (.t 51)), (some (40, true))⟩, {i := .pick 53 (.t 40) (.t 52) (.c (.d true (.bool false)))}] [])
def c_clause_Make_l2 : C :=
(.seq (.rg 13 false [] [{i := .bin 36 .lss (.t 35) (.t 34)}] [])
 (.seq (.cond (.t 36) .skip (.exit 2))
 (.seq (.block 3 (.seq (.rg 14 false [] [{i := .mv 37 (.t 35)}, {i := .mv 9 (.t 37)}] [])
 (.seq c_clause_Make_p2
 (.cond (.t 53) (.seq (.rg 16 false [] [{i := .mv 4 (.c (.nil 1))}, {i := .mv 5 (.c (.d true (.bool true)))}, {i := .mv 6 (.c (.d true (.int .i64 0)))}] [])
 .ret) .skip))))
 (.rg 17 false [] [{i := .bin 54 .add (.t 35) (.c (.d true (.int .i64 1)))}, {i := .mv 35 (.t 54)}] []))))
def c_clause_Make : C :=
(.seq (.rg 0 false [] [{i := .mv 4 (.c (.nil 1))}, {i := .mv 5 (.c (.d true (.bool false)))}, {i := .mv 6 (.c (.d true (.int .i64 0)))}] [])
 (.seq (.seq c_clause_Make_p1
 (.cond (.t 15) (.seq (.rg 2 false [] [{i := .mv 4 (.c (.nil 1))}, {i := .mv 5 (.c (.d true (.bool false)))}, {i := .mv 6 (.c (.d true (.int .i64 2)))}] [])
 .ret) .skip))
 (.seq (.seq (.rg 3 false [] [{i := .mv 16 (.t 1)}, {i := .len 17 (.t 16)}, {i := .mv 18 (.c (.d true (.int .i64 0)))}] [])
 (.block 0 (.loop c_clause_Make_l1)))
 (.seq (.rg 9 false [] [{i := .mv 27 (.t 1)}, {i := .call 28 k_slices_Clone_of_int [(.t 27)] (some 20)}, {i := .mv 4 (.t 28)}] [])
 (.seq (.rg 10 false [] [{i := .mv 29 (.t 4)}, {i := .call 30 k_slices_Sort_of_int [(.t 29)] none}] [])
 (.seq (.rg 11 false [] [{i := .mv 31 (.t 4)}, {i := .call 32 k_slices_Compact_of_int [(.t 31)] none}, {i := .mv 4 (.t 32)}] [])
 (.seq (.seq (.rg 12 false [] [{i := .mv 33 (.t 4)}, {i := .len 34 (.t 33)}, {i := .mv 35 (.c (.d true (.int .i64 0)))}] [])
 (.block 2 (.loop c_clause_Make_l2)))
 (.seq (.rg 18 false [] [{i := .mv 55 (.t 4)}, {i := .mv 4 (.t 55)}, {i := .mv 5 (.c (.d true (.bool false)))}, {i := .mv 6 (.c (.d true (.int .i64 0)))}] [])
 .ret))))))))
def n_clause_Make : Fn := ⟨c_clause_Make, [.s 4, .s 5, .s 6], (some [false, false])⟩
def c_ref02_Gate : C :=
(.seq (.rg 0 false [] [{i := .box 2 0 (.t 0) 6}, {i := .mv 4 (.c (.d true (.int .i64 0)))}] [])
 (.seq (.rg 1 false [] [{i := .mv 5 (.t 1)}, {i := .bin 6 .sub (.t 5) (.c (.d true (.int .i64 1)))}, {i := .fad 7 (.t 2) 0 0}, {i := .load 8 (.t 7) 0}, {i := .bin 9 .sub (.t 6) (.t 8)}, {i := .fad 10 (.t 2) 1 0}, {i := .load 11 (.t 10) 0}, {i := .len 12 (.t 11)}, {i := .bin 13 .sub (.t 9) (.t 12)}, {i := .mv 4 (.t 13)}] [])
 .ret))
def n_ref02_Gate : Fn := ⟨c_ref02_Gate, [.s 4], (some [false, false])⟩
def c_ref22_Gate : C :=
(.seq (.rg 0 false [] [{i := .mv 8 (.c (.nil 1))}] [])
 (.seq (.rg 1 false [] [{i := .mv 9 (.t 0)}, {i := .mv 10 (.t 1)}, {i := .call 11 k_ref22_Not [(.t 10)] none}, {i := .mv 12 (.t 2)}, {i := .bsl 13 0 1 2 (.k (.int .i64 0)) [(0, (.t 11)), (1, (.t 12))]}, {i := .call 14 k_ref22_Put [(.t 9), (.t 13)] none}, {i := .mv 0 (.t 14)}] [])
 (.seq (.rg 2 false [] [{i := .mv 15 (.t 0)}, {i := .mv 16 (.t 1)}, {i := .call 17 k_ref22_Not [(.t 16)] none}, {i := .mv 18 (.t 3)}, {i := .bsl 19 1 1 2 (.k (.int .i64 0)) [(0, (.t 17)), (1, (.t 18))]}, {i := .call 20 k_ref22_Put [(.t 15), (.t 19)] none}, {i := .mv 0 (.t 20)}] [])
 (.seq (.rg 3 false [] [{i := .mv 21 (.t 0)}, {i := .mv 22 (.t 1)}, {i := .mv 23 (.t 2)}, {i := .call 24 k_ref22_Not [(.t 23)] none}, {i := .mv 25 (.t 3)}, {i := .call 26 k_ref22_Not [(.t 25)] none}, {i := .bsl 27 2 1 3 (.k (.int .i64 0)) [(0, (.t 22)), (1, (.t 24)), (2, (.t 26))]}, {i := .call 28 k_ref22_Put [(.t 21), (.t 27)] none}, {i := .mv 8 (.t 28)}] [])
 .ret))))
def n_ref22_Gate : Fn := ⟨c_ref22_Gate, [.s 8], none⟩
def c_slices_insertionSortOrdered_of_int_l1 : C :=
(.seq (.seq (.rg 4 true [] [{i := .mv 16 (.t 7)}, {i := .mv 17 (.t 1)}, {i := .bin 18 .gtr (.t 16) (.t 17)}, {i := .mv 19 (.t 18)}, ⟨.mv 20 (.t 0), some (19, true)⟩, ⟨.mv 21 (.t 7), some (19, true)⟩, ⟨.ix 22 (.t 20) (.t 21) 1, some (19, true)⟩, ⟨.load 23 (.t 22) 0, some (19, true)⟩, ⟨.mv 24 (.t 0), some (19, true)⟩, ⟨.mv 25 (.t 7), some (19, true)⟩, ⟨.bin 26 .sub (.t 25) (.c (.d true (.int .i64 1))), some (19, true)⟩, ⟨.ix 27 (.t 24) (.t 26) 1, some (19, true)⟩, ⟨.load 28 (.t 27) 0, some (19, true)⟩, ⟨.call 29 k_cmp_Less_of_int [(.t 23), (.t 28)] none, some (19, true)⟩, {i := .pick 30 (.t 19) (.t 29) (.c (.d true (.bool false)))}] [])
 (.cond (.t 30) .skip (.exit 2)))
 (.seq (.block 3 (.rg 6 true [] [{i := .mv 33 (.t 0)}, {i := .mv 34 (.t 7)}, {i := .mv 35 (.t 0)}, {i := .mv 36 (.t 7)}, {i := .bin 37 .sub (.t 36) (.c (.d true (.int .i64 1)))}, {i := .mv 38 (.t 0)}, {i := .mv 39 (.t 7)}, {i := .bin 40 .sub (.t 39) (.c (.d true (.int .i64 1)))}, {i := .ix 41 (.t 38) (.t 40) 1}, {i := .load 42 (.t 41) 0}, {i := .mv 43 (.t 0)}, {i := .mv 44 (.t 7)}, {i := .ix 45 (.t 43) (.t 44) 1}, {i := .load 46 (.t 45) 0}, {i := .ix 47 (.t 33) (.t 34) 1}, {i := .store (.t 47) (.t 42) 0}, {i := .ix 48 (.t 35) (.t 37) 1}, {i := .store (.t 48) (.t 46) 0}] []))
 (.rg 5 false [] [{i := .mv 31 (.t 7)}, {i := .bin 32 .sub (.t 31) (.c (.d true (.int .i64 1)))}, {i := .mv 7 (.t 32)}] [])))
def c_slices_insertionSortOrdered_of_int_l2 : C :=
(.seq (.seq (.rg 1 false [] [{i := .mv 10 (.t 6)}, {i := .mv 11 (.t 2)}, {i := .bin 12 .lss (.t 10) (.t 11)}] [])
 (.cond (.t 12) .skip (.exit 0)))
 (.seq (.block 1 (.seq (.rg 3 false [] [{i := .mv 15 (.t 6)}, {i := .mv 7 (.t 15)}] [])
 (.block 2 (.loop c_slices_insertionSortOrdered_of_int_l1))))
 (.rg 2 false [] [{i := .mv 13 (.t 6)}, {i := .bin 14 .add (.t 13) (.c (.d true (.int .i64 1)))}, {i := .mv 6 (.t 14)}] [])))
def c_slices_insertionSortOrdered_of_int : C :=
(.seq (.rg 0 false [] [{i := .mv 8 (.t 1)}, {i := .bin 9 .add (.t 8) (.c (.d true (.int .i64 1)))}, {i := .mv 6 (.t 9)}] [])
 (.block 0 (.loop c_slices_insertionSortOrdered_of_int_l2)))
def n_slices_insertionSortOrdered_of_int : Fn := ⟨c_slices_insertionSortOrdered_of_int, [], none⟩
def c_bits_Len32 : C :=
(.seq (.rg 0 false [] [{i := .mv 2 (.c (.d true (.int .i64 0)))}] [])
 (.seq (.seq (.rg 1 false [] [{i := .mv 3 (.t 0)}, {i := .bin 4 .geq (.t 3) (.c (.d true (.int .u32 65536)))}] [])
 (.cond (.t 4) (.seq (.rg 2 false [] [{i := .mv 5 (.t 0)}, {i := .bin 6 .shr (.t 5) (.c (.d true (.int .u64 16)))}, {i := .mv 0 (.t 6)}] [])
 (.rg 3 false [] [{i := .mv 2 (.c (.d true (.int .i64 16)))}] [])) .skip))
 (.seq (.seq (.rg 4 false [] [{i := .mv 7 (.t 0)}, {i := .bin 8 .geq (.t 7) (.c (.d true (.int .u32 256)))}] [])
 (.cond (.t 8) (.seq (.rg 5 false [] [{i := .mv 9 (.t 0)}, {i := .bin 10 .shr (.t 9) (.c (.d true (.int .u64 8)))}, {i := .mv 0 (.t 10)}] [])
 (.rg 6 false [] [{i := .mv 11 (.t 2)}, {i := .bin 12 .add (.t 11) (.c (.d true (.int .i64 8)))}, {i := .mv 2 (.t 12)}] [])) .skip))
 (.seq (.rg 7 false [] [{i := .mv 13 (.t 2)}, {i := .mv 14 (.t 0)}, {i := .cvt 15 .u8 (.t 14)}, {i := .stx 16 [0, 1, 2, 2, 3, 3, 3, 3, 4, 4, 4, 4, 4, 4, 4, 4, 5, 5, 5, 5, 5, 5, 5, 5, 5, 5, 5, 5, 5, 5, 5, 5, 6, 6, 6, 6, 6, 6, 6, 6, 6, 6, 6, 6, 6, 6, 6, 6, 6, 6, 6, 6, 6, 6, 6, 6, 6, 6, 6, 6, 6, 6, 6, 6, 7, 7, 7, 7, 7, 7, 7, 7, 7, 7, 7, 7, 7, 7, 7, 7, 7, 7, 7, 7, 7, 7, 7, 7, 7, 7, 7, 7, 7, 7, 7, 7, 7, 7, 7, 7, 7, 7, 7, 7, 7, 7, 7, 7, 7, 7, 7, 7, 7, 7, 7, 7, 7, 7, 7, 7, 7, 7, 7, 7, 7, 7, 7, 7, 8, 8, 8, 8, 8, 8, 8, 8, 8, 8, 8, 8, 8, 8, 8, 8, 8, 8, 8, 8, 8, 8, 8, 8, 8, 8, 8, 8, 8, 8, 8, 8, 8, 8, 8, 8, 8, 8, 8, 8, 8, 8, 8, 8, 8, 8, 8, 8, 8, 8, 8, 8, 8, 8, 8, 8, 8, 8, 8, 8, 8, 8, 8, 8, 8, 8, 8, 8, 8, 8, 8, 8, 8, 8, 8, 8, 8, 8, 8, 8, 8, 8, 8, 8, 8, 8, 8, 8, 8, 8, 8, 8, 8, 8, 8, 8, 8, 8, 8, 8, 8, 8, 8, 8, 8, 8, 8, 8, 8, 8, 8, 8, 8, 8, 8, 8, 8, 8, 8, 8, 8, 8, 8, 8, 8, 8, 8, 8] (.t 15)}, {i := .cvt 17 .i64 (.t 16)}, {i := .bin 18 .add (.t 13) (.t 17)}, {i := .mv 2 (.t 18)}] [])
 .ret))))
def n_bits_Len32 : Fn := ⟨c_bits_Len32, [.s 2], (some [false])⟩
def c_bits_Len64 : C :=
(.seq (.rg 0 false [] [{i := .mv 2 (.c (.d true (.int .i64 0)))}] [])
 (.seq (.seq (.rg 1 false [] [{i := .mv 3 (.t 0)}, {i := .bin 4 .geq (.t 3) (.c (.d true (.int .u64 4294967296)))}] [])
 (.cond (.t 4) (.seq (.rg 2 false [] [{i := .mv 5 (.t 0)}, {i := .bin 6 .shr (.t 5) (.c (.d true (.int .u64 32)))}, {i := .mv 0 (.t 6)}] [])
 (.rg 3 false [] [{i := .mv 2 (.c (.d true (.int .i64 32)))}] [])) .skip))
 (.seq (.seq (.rg 4 false [] [{i := .mv 7 (.t 0)}, {i := .bin 8 .geq (.t 7) (.c (.d true (.int .u64 65536)))}] [])
 (.cond (.t 8) (.seq (.rg 5 false [] [{i := .mv 9 (.t 0)}, {i := .bin 10 .shr (.t 9) (.c (.d true (.int .u64 16)))}, {i := .mv 0 (.t 10)}] [])
 (.rg 6 false [] [{i := .mv 11 (.t 2)}, {i := .bin 12 .add (.t 11) (.c (.d true (.int .i64 16)))}, {i := .mv 2 (.t 12)}] [])) .skip))
 (.seq (.seq (.rg 7 false [] [{i := .mv 13 (.t 0)}, {i := .bin 14 .geq (.t 13) (.c (.d true (.int .u64 256)))}] [])
 (.cond (.t 14) (.seq (.rg 8 false [] [{i := .mv 15 (.t 0)}, {i := .bin 16 .shr (.t 15) (.c (.d true (.int .u64 8)))}, {i := .mv 0 (.t 16)}] [])
 (.rg 9 false [] [{i := .mv 17 (.t 2)}, {i := .bin 18 .add (.t 17) (.c (.d true (.int .i64 8)))}, {i := .mv 2 (.t 18)}] [])) .skip))
 (.seq (.rg 10 false [] [{i := .mv 19 (.t 2)}, {i := .mv 20 (.t 0)}, {i := .cvt 21 .u8 (.t 20)}, {i := .stx 22 [0, 1, 2, 2, 3, 3, 3, 3, 4, 4, 4, 4, 4, 4, 4, 4, 5, 5, 5, 5, 5, 5, 5, 5, 5, 5, 5, 5, 5, 5, 5, 5, 6, 6, 6, 6, 6, 6, 6, 6, 6, 6, 6, 6, 6, 6, 6, 6, 6, 6, 6, 6, 6, 6, 6, 6, 6, 6, 6, 6, 6, 6, 6, 6, 7, 7, 7, 7, 7, 7, 7, 7, 7, 7, 7, 7, 7, 7, 7, 7, 7, 7, 7, 7, 7, 7, 7, 7, 7, 7, 7, 7, 7, 7, 7, 7, 7, 7, 7, 7, 7, 7, 7, 7, 7, 7, 7, 7, 7, 7, 7, 7, 7, 7, 7, 7, 7, 7, 7, 7, 7, 7, 7, 7, 7, 7, 7, 7, 8, 8, 8, 8, 8, 8, 8, 8, 8, 8, 8, 8, 8, 8, 8, 8, 8, 8, 8, 8, 8, 8, 8, 8, 8, 8, 8, 8, 8, 8, 8, 8, 8, 8, 8, 8, 8, 8, 8, 8, 8, 8, 8, 8, 8, 8, 8, 8, 8, 8, 8, 8, 8, 8, 8, 8, 8, 8, 8, 8, 8, 8, 8, 8, 8, 8, 8, 8, 8, 8, 8, 8, 8, 8, 8, 8, 8, 8, 8, 8, 8, 8, 8, 8, 8, 8, 8, 8, 8, 8, 8, 8, 8, 8, 8, 8, 8, 8, 8, 8, 8, 8, 8, 8, 8, 8, 8, 8, 8, 8, 8, 8, 8, 8, 8, 8, 8, 8, 8, 8, 8, 8, 8, 8, 8, 8, 8, 8] (.t 21)}, {i := .cvt 23 .i64 (.t 22)}, {i := .bin 24 .add (.t 19) (.t 23)}, {i := .mv 2 (.t 24)}] [])
 .ret)))))
def n_bits_Len64 : Fn := ⟨c_bits_Len64, [.s 2], (some [false])⟩
def c_ref13_Not : C :=
(.seq (.rg 0 false [] [{i := .mv 2 (.c (.d true (.int .i64 0)))}] [])
 (.seq (.seq (.rg 1 false [] [{i := .mv 3 (.t 0)}, {i := .bin 4 .rem (.t 3) (.c (.d true (.int .i64 2)))}, {i := .bin 5 .eql (.t 4) (.c (.d true (.int .i64 0)))}] [])
 (.cond (.t 5) (.seq (.rg 2 false [] [{i := .mv 6 (.t 0)}, {i := .bin 7 .add (.t 6) (.c (.d true (.int .i64 1)))}, {i := .mv 2 (.t 7)}] [])
 .ret) .skip))
 (.seq (.rg 3 false [] [{i := .mv 8 (.t 0)}, {i := .bin 9 .sub (.t 8) (.c (.d true (.int .i64 1)))}, {i := .mv 2 (.t 9)}] [])
 .ret)))
def n_ref13_Not : Fn := ⟨c_ref13_Not, [.s 2], (some [false])⟩
def c_ref22_Not : C :=
(.seq (.rg 0 false [] [{i := .mv 2 (.c (.d true (.int .i64 0)))}] [])
 (.seq (.rg 1 false [] [{i := .mv 3 (.t 0)}, {i := .call 4 k_ref13_Not [(.t 3)] none}, {i := .mv 2 (.t 4)}] [])
 .ret))
def n_ref22_Not : Fn := ⟨c_ref22_Not, [.s 2], (some [false])⟩
def fnList : List (Nat × Fn) := [(k_law36_BmcClauses, n_law36_BmcClauses),
 (k_ref13_SameAll, n_ref13_SameAll),
 (k_ref36_Great, n_ref36_Great),
 (k_ref13_Same, n_ref13_Same),
 (k_unroll_Of, n_unroll_Of),
 (k_ref23_Of, n_ref23_Of),
 (k_ref22_Same, n_ref22_Same),
 (k_ref02_Check, n_ref02_Check),
 (k_ref02_Twin, n_ref02_Twin),
 (k_bmc_Clauses, n_bmc_Clauses),
 (k_ref36_Clauses, n_ref36_Clauses),
 (k_ref02_Same, n_ref02_Same),
 (k_slices_ContainsFunc_of_int, n_slices_ContainsFunc_of_int),
 (k_ref02_Great, n_ref02_Great),
 (k_ref02_Size, n_ref02_Size),
 (k_gates_Check, n_gates_Check),
 (k_unroll_made, n_unroll_made),
 (k_ref23_Asked, n_ref23_Asked),
 (k_ref02_literals, n_ref02_literals),
 (k_bmc_asked, n_bmc_asked),
 (k_bmc_put, n_bmc_put),
 (k_ref36_asked, n_ref36_asked),
 (k_ref36_Made, n_ref36_Made),
 (k_ref02_SameInts, n_ref02_SameInts),
 (k_clause_known, n_clause_known),
 (k_slices_IndexFunc_of_int, n_slices_IndexFunc_of_int),
 (k_gates_starts, n_gates_starts),
 (k_gates_Check_1, n_gates_Check_1),
 (k_gates_Check_2, n_gates_Check_2),
 (k_slices_ContainsFunc_of_api_Latch, n_slices_ContainsFunc_of_api_Latch),
 (k_unroll_frames_frame, n_unroll_frames_frame),
 (k_unroll_lit, n_unroll_lit),
 (k_ref23_Made, n_ref23_Made),
 (k_slices_Sort_of_int, n_slices_Sort_of_int),
 (k_slices_Compact_of_int, n_slices_Compact_of_int),
 (k_ref36_With, n_ref36_With),
 (k_ref22_Put, n_ref22_Put),
 (k_ref36_Told, n_ref36_Told),
 (k_cmp_Less_of_int, n_cmp_Less_of_int),
 (k_ref13_Has, n_ref13_Has),
 (k_slices_IndexFunc_of_api_Latch, n_slices_IndexFunc_of_api_Latch),
 (k_unroll_frames_fresh, n_unroll_frames_fresh),
 (k_unroll_frames_add, n_unroll_frames_add),
 (k_ref23_Resets, n_ref23_Resets),
 (k_ref23_More, n_ref23_More),
 (k_ref23_Behind, n_ref23_Behind),
 (k_slices_pdqsortOrdered_of_int, n_slices_pdqsortOrdered_of_int),
 (k_bits_Len, n_bits_Len),
 (k_ref13_Without, n_ref13_Without),
 (k_ref13_Always, n_ref13_Always),
 (k_ref13_Sorted, n_ref13_Sorted),
 (k_ref22_Lit, n_ref22_Lit),
 (k_cmp_isNaN_of_int, n_cmp_isNaN_of_int),
 (k_clause_Make, n_clause_Make),
 (k_ref02_Gate, n_ref02_Gate),
 (k_ref22_Gate, n_ref22_Gate),
 (k_slices_insertionSortOrdered_of_int, n_slices_insertionSortOrdered_of_int),
 (k_bits_Len32, n_bits_Len32),
 (k_bits_Len64, n_bits_Len64),
 (k_ref13_Not, n_ref13_Not),
 (k_ref22_Not, n_ref22_Not)]
def fnOf (f : Nat) : Option Fn := lk fnList f
theorem fn_law36_BmcClauses : fnOf k_law36_BmcClauses = some n_law36_BmcClauses := by kernel_rfl
theorem fn_ref13_SameAll : fnOf k_ref13_SameAll = some n_ref13_SameAll := by kernel_rfl
theorem fn_ref36_Great : fnOf k_ref36_Great = some n_ref36_Great := by kernel_rfl
theorem fn_ref13_Same : fnOf k_ref13_Same = some n_ref13_Same := by kernel_rfl
theorem fn_unroll_Of : fnOf k_unroll_Of = some n_unroll_Of := by kernel_rfl
theorem fn_ref23_Of : fnOf k_ref23_Of = some n_ref23_Of := by kernel_rfl
theorem fn_ref22_Same : fnOf k_ref22_Same = some n_ref22_Same := by kernel_rfl
theorem fn_ref02_Check : fnOf k_ref02_Check = some n_ref02_Check := by kernel_rfl
theorem fn_ref02_Twin : fnOf k_ref02_Twin = some n_ref02_Twin := by kernel_rfl
theorem fn_bmc_Clauses : fnOf k_bmc_Clauses = some n_bmc_Clauses := by kernel_rfl
theorem fn_ref36_Clauses : fnOf k_ref36_Clauses = some n_ref36_Clauses := by kernel_rfl
theorem fn_ref02_Same : fnOf k_ref02_Same = some n_ref02_Same := by kernel_rfl
theorem fn_slices_ContainsFunc_of_int : fnOf k_slices_ContainsFunc_of_int = some n_slices_ContainsFunc_of_int := by kernel_rfl
theorem fn_ref02_Great : fnOf k_ref02_Great = some n_ref02_Great := by kernel_rfl
theorem fn_ref02_Size : fnOf k_ref02_Size = some n_ref02_Size := by kernel_rfl
theorem fn_gates_Check : fnOf k_gates_Check = some n_gates_Check := by kernel_rfl
theorem fn_unroll_made : fnOf k_unroll_made = some n_unroll_made := by kernel_rfl
theorem fn_ref23_Asked : fnOf k_ref23_Asked = some n_ref23_Asked := by kernel_rfl
theorem fn_ref02_literals : fnOf k_ref02_literals = some n_ref02_literals := by kernel_rfl
theorem fn_bmc_asked : fnOf k_bmc_asked = some n_bmc_asked := by kernel_rfl
theorem fn_bmc_put : fnOf k_bmc_put = some n_bmc_put := by kernel_rfl
theorem fn_ref36_asked : fnOf k_ref36_asked = some n_ref36_asked := by kernel_rfl
theorem fn_ref36_Made : fnOf k_ref36_Made = some n_ref36_Made := by kernel_rfl
theorem fn_ref02_SameInts : fnOf k_ref02_SameInts = some n_ref02_SameInts := by kernel_rfl
theorem fn_clause_known : fnOf k_clause_known = some n_clause_known := by kernel_rfl
theorem fn_slices_IndexFunc_of_int : fnOf k_slices_IndexFunc_of_int = some n_slices_IndexFunc_of_int := by kernel_rfl
theorem fn_gates_starts : fnOf k_gates_starts = some n_gates_starts := by kernel_rfl
theorem fn_gates_Check_1 : fnOf k_gates_Check_1 = some n_gates_Check_1 := by kernel_rfl
theorem fn_gates_Check_2 : fnOf k_gates_Check_2 = some n_gates_Check_2 := by kernel_rfl
theorem fn_slices_ContainsFunc_of_api_Latch : fnOf k_slices_ContainsFunc_of_api_Latch = some n_slices_ContainsFunc_of_api_Latch := by kernel_rfl
theorem fn_unroll_frames_frame : fnOf k_unroll_frames_frame = some n_unroll_frames_frame := by kernel_rfl
theorem fn_unroll_lit : fnOf k_unroll_lit = some n_unroll_lit := by kernel_rfl
theorem fn_ref23_Made : fnOf k_ref23_Made = some n_ref23_Made := by kernel_rfl
theorem fn_slices_Sort_of_int : fnOf k_slices_Sort_of_int = some n_slices_Sort_of_int := by kernel_rfl
theorem fn_slices_Compact_of_int : fnOf k_slices_Compact_of_int = some n_slices_Compact_of_int := by kernel_rfl
theorem fn_ref36_With : fnOf k_ref36_With = some n_ref36_With := by kernel_rfl
theorem fn_ref22_Put : fnOf k_ref22_Put = some n_ref22_Put := by kernel_rfl
theorem fn_ref36_Told : fnOf k_ref36_Told = some n_ref36_Told := by kernel_rfl
theorem fn_cmp_Less_of_int : fnOf k_cmp_Less_of_int = some n_cmp_Less_of_int := by kernel_rfl
theorem fn_ref13_Has : fnOf k_ref13_Has = some n_ref13_Has := by kernel_rfl
theorem fn_slices_IndexFunc_of_api_Latch : fnOf k_slices_IndexFunc_of_api_Latch = some n_slices_IndexFunc_of_api_Latch := by kernel_rfl
theorem fn_unroll_frames_fresh : fnOf k_unroll_frames_fresh = some n_unroll_frames_fresh := by kernel_rfl
theorem fn_unroll_frames_add : fnOf k_unroll_frames_add = some n_unroll_frames_add := by kernel_rfl
theorem fn_ref23_Resets : fnOf k_ref23_Resets = some n_ref23_Resets := by kernel_rfl
theorem fn_ref23_More : fnOf k_ref23_More = some n_ref23_More := by kernel_rfl
theorem fn_ref23_Behind : fnOf k_ref23_Behind = some n_ref23_Behind := by kernel_rfl
theorem fn_slices_pdqsortOrdered_of_int : fnOf k_slices_pdqsortOrdered_of_int = some n_slices_pdqsortOrdered_of_int := by kernel_rfl
theorem fn_bits_Len : fnOf k_bits_Len = some n_bits_Len := by kernel_rfl
theorem fn_ref13_Without : fnOf k_ref13_Without = some n_ref13_Without := by kernel_rfl
theorem fn_ref13_Always : fnOf k_ref13_Always = some n_ref13_Always := by kernel_rfl
theorem fn_ref13_Sorted : fnOf k_ref13_Sorted = some n_ref13_Sorted := by kernel_rfl
theorem fn_ref22_Lit : fnOf k_ref22_Lit = some n_ref22_Lit := by kernel_rfl
theorem fn_cmp_isNaN_of_int : fnOf k_cmp_isNaN_of_int = some n_cmp_isNaN_of_int := by kernel_rfl
theorem fn_clause_Make : fnOf k_clause_Make = some n_clause_Make := by kernel_rfl
theorem fn_ref02_Gate : fnOf k_ref02_Gate = some n_ref02_Gate := by kernel_rfl
theorem fn_ref22_Gate : fnOf k_ref22_Gate = some n_ref22_Gate := by kernel_rfl
theorem fn_slices_insertionSortOrdered_of_int : fnOf k_slices_insertionSortOrdered_of_int = some n_slices_insertionSortOrdered_of_int := by kernel_rfl
theorem fn_ref13_Not : fnOf k_ref13_Not = some n_ref13_Not := by kernel_rfl
theorem fn_ref22_Not : fnOf k_ref22_Not = some n_ref22_Not := by kernel_rfl
theorem fn_slices_Clone_of_int : fnOf k_slices_Clone_of_int = none := by kernel_rfl
end Go.Proofs.Ytbmhmfcjjhjkgaa.Vm
