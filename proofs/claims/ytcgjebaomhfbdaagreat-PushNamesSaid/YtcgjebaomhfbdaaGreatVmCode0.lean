/- The functions, as the machine's code. Printed. -/
import Derived.Test.YtcgjebaomhfbdaaGreatVmP1
import Derived.KernelRfl
namespace Go.Proofs.YtcgjebaomhfbdaaGreat.Vm
open Go

def k_law40_PushNames : Nat := 6
def k_frames_Clauses : Nat := 15
def k_frames_Put : Nat := 16
def k_frames_Check : Nat := 18
def k_frames_Before : Nat := 20
def k_ref37_Same : Nat := 23
def k_ref13_Same : Nat := 28
def k_shrink_First : Nat := 29
def k_law40_stays : Nat := 34
def k_push_Sound : Nat := 35
def k_push_Push : Nat := 36
def k_push_Fixed : Nat := 37
def k_push_Inductive : Nat := 38
def k_push_Invariant : Nat := 39
def k_law40_alive : Nat := 40
def k_unroll_Of : Nat := 60
def k_solve_Run : Nat := 62
def k_unroll_Trace : Nat := 63
def k_frames_asked : Nat := 66
def k_frames_all : Nat := 67
def k_clause_Check : Nat := 68
def k_slices_ContainsFunc_of_Lint : Nat := 69
def k_frames_Put_1 : Nat := 70
def k_frames_part : Nat := 71
def k_slices_Clone_of_int : Nat := 72
def k_frames_count : Nat := 73
def k_slices_ContainsFunc_of_int : Nat := 74
def k_gates_Check : Nat := 76
def k_frames_begun : Nat := 77
def k_frames_asks_put : Nat := 78
def k_frames_told : Nat := 79
def k_frames_Before_1 : Nat := 80
def k_frames_asks_latch : Nat := 81
def k_frames_asks_lit : Nat := 82
def k_frames_asks_step : Nat := 83
def k_ref13_SameAll : Nat := 84
def k_shrink_first : Nat := 92
def k_slices_Delete_of_int : Nat := 93
def k_push_asked : Nat := 94
def k_push_turned : Nat := 95
def k_slices_Clone_of_Lint : Nat := 96
def k_push_Push_1 : Nat := 97
def k_slices_Equal_of_int : Nat := 98
def k_slices_IndexFunc_of_LLint : Nat := 99
def k_push_Fixed_1 : Nat := 100
def k_preds_Check : Nat := 101
def k_preds_Put : Nat := 102
def k_push_ask : Nat := 103
def k_preds_Clauses : Nat := 104
def k_unroll_made : Nat := 114
def k_slices_Sort_of_int : Nat := 115
def k_slices_Compact_of_int : Nat := 116
def k_solve_check : Nat := 117
def k_unit_Run : Nat := 118
def k_solve_solver_fail : Nat := 119
def k_solve_solver_choose : Nat := 120
def k_solve_solver_model : Nat := 121
def k_gates_Vars : Nat := 122
def k_tseitin_Check : Nat := 123
def k_unroll_value : Nat := 124
def k_clause_known : Nat := 126
def k_slices_IndexFunc_of_Lint : Nat := 127
def k_slices_BinarySearch_of_int : Nat := 128
def k_slices_IndexFunc_of_int : Nat := 129
def k_gates_starts : Nat := 130
def k_gates_Check_1 : Nat := 131
def k_gates_Check_2 : Nat := 132
def k_slices_ContainsFunc_of_api_Latch : Nat := 133
def k_unroll_Free : Nat := 134
def k_shrink_first_1 : Nat := 140
def k_slices_Clone_of_api_And : Nat := 141
def k_preds_Put_1 : Nat := 142
def k_preds_builder_put : Nat := 143
def k_slices_Clone_of_api_Latch : Nat := 144
def k_push_put : Nat := 145
def k_preds_over : Nat := 146
def k_preds_builder_and : Nat := 147
def k_preds_builder_pred : Nat := 148
def k_unroll_frames_frame : Nat := 165
def k_unroll_lit : Nat := 166
def k_slices_pdqsortOrdered_of_int : Nat := 167
def k_bits_Len : Nat := 168
def k_assign_Check : Nat := 169
def k_unit_values : Nat := 170
def k_unit_next : Nat := 171
def k_learn_Clause : Nat := 172
def k_solve_solver_learn : Nat := 173
def k_jump_Back : Nat := 174
def k_decide_Next : Nat := 175
def k_cmp_Less_of_int : Nat := 176
def k_slices_isNaN_of_int : Nat := 177
def k_slices_IndexFunc_of_api_Latch : Nat := 178
def k_preds_builder_put_1 : Nat := 183
def k_preds_over_1 : Nat := 184
def k_lits_And : Nat := 185
def k_slices_Index_of_api_And : Nat := 186
def k_unroll_frames_fresh : Nat := 199
def k_unroll_frames_add : Nat := 200
def k_slices_insertionSortOrdered_of_int : Nat := 201
def k_slices_heapSortOrdered_of_int : Nat := 202
def k_slices_breakPatternsOrdered_of_int : Nat := 203
def k_slices_choosePivotOrdered_of_int : Nat := 204
def k_slices_reverseRangeOrdered_of_int : Nat := 205
def k_slices_partialInsertionSortOrdered_of_int : Nat := 206
def k_slices_partitionEqualOrdered_of_int : Nat := 207
def k_slices_partitionOrdered_of_int : Nat := 208
def k_bits_Len32 : Nat := 209
def k_bits_Len64 : Nat := 210
def k_assign_known : Nat := 211
def k_unit_state : Nat := 212
def k_learn_check : Nat := 213
def k_learn_conflict : Nat := 214
def k_slices_Index_of_int : Nat := 215
def k_jump_levels : Nat := 216
def k_jump_second : Nat := 217
def k_assign_Undo : Nat := 218
def k_assign_Imply : Nat := 219
def k_decide_Check : Nat := 220
def k_decide_pop : Nat := 221
def k_cmp_isNaN_of_int : Nat := 222
def k_lits_check : Nat := 227
def k_clause_Make : Nat := 243
def k_slices_siftDownOrdered_of_int : Nat := 244
def k_slices_nextPowerOfTwo : Nat := 245
def k_slices_xorshift_Next : Nat := 246
def k_slices_medianAdjacentOrdered_of_int : Nat := 247
def k_slices_medianOrdered_of_int : Nat := 248
def k_unit_State : Nat := 249
def k_assign_Level : Nat := 250
def k_jump_levels_1 : Nat := 251
def k_cmp_Compare_of_int : Nat := 252
def k_slices_SortFunc_of_jump_at : Nat := 253
def k_assign_put : Nat := 254
def k_slices_order2Ordered_of_int : Nat := 266
def k_assign_open : Nat := 267
def k_assign_Level_1 : Nat := 268
def k_slices_pdqsortCmpFunc_of_jump_at : Nat := 269
def k_slices_Contains_of_int : Nat := 270
def k_slices_insertionSortCmpFunc_of_jump_at : Nat := 275
def k_slices_heapSortCmpFunc_of_jump_at : Nat := 276
def k_slices_breakPatternsCmpFunc_of_jump_at : Nat := 277
def k_slices_choosePivotCmpFunc_of_jump_at : Nat := 278
def k_slices_reverseRangeCmpFunc_of_jump_at : Nat := 279
def k_slices_partialInsertionSortCmpFunc_of_jump_at : Nat := 280
def k_slices_partitionEqualCmpFunc_of_jump_at : Nat := 281
def k_slices_partitionCmpFunc_of_jump_at : Nat := 282
def k_slices_siftDownCmpFunc_of_jump_at : Nat := 285
def k_slices_medianAdjacentCmpFunc_of_jump_at : Nat := 286
def k_slices_medianCmpFunc_of_jump_at : Nat := 287
def k_slices_order2CmpFunc_of_jump_at : Nat := 288
def c_law40_PushNames : C :=
(.seq (.rg 0 false [] [⟨.mv 0 (.c (.d true (.bool false))), none⟩] [])
(.seq (.rg 1 false [] [⟨.call 62 k_law40_stays [] none, none⟩,
⟨.mv 61 (.t 62), none⟩,
⟨.xt 63 (.t 61) 0, none⟩,
⟨.xt 64 (.t 61) 1, none⟩,
⟨.alloc 1 0 [.k (.int .i64 0), .n 2, .n 2, .n 1, .n 1], none⟩,
⟨.alloc 2 1 [.n 1], none⟩,
⟨.store (.t 1) (.t 63) 6, none⟩,
⟨.store (.t 2) (.t 64) 2, none⟩] [])
(.seq (.rg 2 false [] [⟨.load 66 (.t 1) 6, none⟩,
⟨.load 67 (.t 2) 2, none⟩,
⟨.call 68 k_push_Sound [(.t 66), (.t 67), (.c (.d true (.int .i64 9)))] none, none⟩,
⟨.mv 65 (.t 68), none⟩,
⟨.xt 69 (.t 65) 0, none⟩,
⟨.xt 70 (.t 65) 1, none⟩,
⟨.xt 71 (.t 65) 2, none⟩,
⟨.mv 3 (.t 69), none⟩,
⟨.mv 4 (.t 70), none⟩,
⟨.mv 5 (.t 71), none⟩] [])
(.seq (.rg 3 false [] [⟨.load 73 (.t 1) 6, none⟩,
⟨.bsl 74 2 1 1 (.k (.int .i64 0)) [(0, (.c (.d true (.int .i64 2))))], none⟩,
⟨.bsl 75 3 1 1 (.k (.lst 1 [])) [(0, (.t 74))], none⟩,
⟨.bsl 76 4 1 1 (.k (.lst 1 [])) [(0, (.t 75))], none⟩,
⟨.bld 77 [.n 1] [(0, 0, (.t 76))], none⟩,
⟨.call 78 k_push_Sound [(.t 73), (.t 77), (.c (.d true (.int .i64 9)))] none, none⟩,
⟨.mv 72 (.t 78), none⟩,
⟨.xt 79 (.t 72) 0, none⟩,
⟨.xt 80 (.t 72) 1, none⟩,
⟨.xt 81 (.t 72) 2, none⟩,
⟨.mv 6 (.t 79), none⟩,
⟨.mv 7 (.t 80), none⟩,
⟨.mv 8 (.t 81), none⟩] [])
(.seq (.rg 4 false [] [⟨.bld 82 [.k (.int .i64 0), .k (.int .i64 0)] [(0, 0, (.c (.d true (.int .i64 3))))], none⟩,
⟨.bsl 83 5 2 1 (.k (.agg [(.int .i64 0), (.int .i64 0)])) [(0, (.t 82))], none⟩,
⟨.bsl 84 6 1 1 (.k (.int .i64 0)) [(0, (.c (.d true (.int .i64 2))))], none⟩,
⟨.bld 85 [.k (.int .i64 0), .n 2, .n 2, .n 1, .n 1] [(1, 0, (.t 83)), (3, 0, (.t 84))], none⟩,
⟨.alloc 9 7 [.k (.int .i64 0), .n 2, .n 2, .n 1, .n 1], none⟩,
⟨.store (.t 9) (.t 85) 6, none⟩] [])
(.seq (.rg 5 false [] [⟨.load 87 (.t 9) 6, none⟩,
⟨.load 88 (.t 2) 2, none⟩,
⟨.call 89 k_push_Sound [(.t 87), (.t 88), (.c (.d true (.int .i64 9)))] none, none⟩,
⟨.mv 86 (.t 89), none⟩,
⟨.xt 90 (.t 86) 0, none⟩,
⟨.xt 91 (.t 86) 1, none⟩,
⟨.xt 92 (.t 86) 2, none⟩,
⟨.mv 10 (.t 90), none⟩,
⟨.mv 11 (.t 91), none⟩,
⟨.mv 12 (.t 92), none⟩] [])
(.seq (.rg 6 false [] [⟨.load 94 (.t 9) 6, none⟩,
⟨.load 95 (.t 2) 2, none⟩,
⟨.call 96 k_push_Push [(.t 94), (.t 95), (.c (.d true (.int .i64 9)))] none, none⟩,
⟨.mv 93 (.t 96), none⟩,
⟨.xt 97 (.t 93) 0, none⟩,
⟨.xt 98 (.t 93) 1, none⟩,
⟨.xt 99 (.t 93) 2, none⟩,
⟨.alloc 13 8 [.n 1], none⟩,
⟨.store (.t 13) (.t 97) 2, none⟩,
⟨.mv 14 (.t 98), none⟩,
⟨.mv 15 (.t 99), none⟩] [])
(.seq (.rg 7 false [] [⟨.load 101 (.t 2) 2, none⟩,
⟨.call 102 k_push_Fixed [(.c (.d true (.int .i64 1))), (.t 101)] none, none⟩,
⟨.mv 100 (.t 102), none⟩,
⟨.xt 103 (.t 100) 0, none⟩,
⟨.xt 104 (.t 100) 1, none⟩,
⟨.mv 16 (.t 103), none⟩,
⟨.mv 17 (.t 104), none⟩] [])
(.seq (.rg 8 false [] [⟨.bsl 106 9 1 1 (.k (.lst 1 [])) [(0, (.c (.nil 1)))], none⟩,
⟨.bld 107 [.n 1] [(0, 0, (.t 106))], none⟩,
⟨.call 108 k_push_Fixed [(.c (.d true (.int .i64 1))), (.t 107)] none, none⟩,
⟨.mv 105 (.t 108), none⟩,
⟨.xt 109 (.t 105) 0, none⟩,
⟨.xt 110 (.t 105) 1, none⟩,
⟨.mv 18 (.t 109), none⟩,
⟨.mv 19 (.t 110), none⟩] [])
(.seq (.rg 9 false [] [⟨.bsl 112 10 1 1 (.k (.int .i64 0)) [(0, (.c (.d true (.int .i64 3))))], none⟩,
⟨.bsl 113 11 1 1 (.k (.lst 1 [])) [(0, (.t 112))], none⟩,
⟨.bsl 114 12 1 3 (.k (.lst 1 [])) [(0, (.t 113)), (1, (.c (.nil 1))), (2, (.c (.nil 1)))], none⟩,
⟨.bld 115 [.n 1] [(0, 0, (.t 114))], none⟩,
⟨.call 116 k_push_Fixed [(.c (.d true (.int .i64 1))), (.t 115)] none, none⟩,
⟨.mv 111 (.t 116), none⟩,
⟨.xt 117 (.t 111) 0, none⟩,
⟨.xt 118 (.t 111) 1, none⟩,
⟨.mv 20 (.t 117), none⟩,
⟨.mv 21 (.t 118), none⟩] [])
(.seq (.rg 10 false [] [⟨.bld 119 [.n 2, .k (.int .i64 0)] [(1, 0, (.c (.d true (.int .i64 1))))], none⟩,
⟨.alloc 22 13 [.n 2, .k (.int .i64 0)], none⟩,
⟨.store (.t 22) (.t 119) 3, none⟩] [])
(.seq (.rg 11 false [] [⟨.bld 120 [.n 2, .k (.int .i64 0)] [(1, 0, (.c (.d true (.int .i64 3))))], none⟩,
⟨.alloc 23 14 [.n 2, .k (.int .i64 0)], none⟩,
⟨.store (.t 23) (.t 120) 3, none⟩] [])
(.seq (.rg 12 false [] [⟨.load 122 (.t 1) 6, none⟩,
⟨.load 123 (.t 23) 3, none⟩,
⟨.call 124 k_push_Inductive [(.t 122), (.t 123), (.c (.d true (.int .i64 9)))] none, none⟩,
⟨.mv 121 (.t 124), none⟩,
⟨.xt 125 (.t 121) 0, none⟩,
⟨.xt 126 (.t 121) 1, none⟩,
⟨.xt 127 (.t 121) 2, none⟩,
⟨.mv 24 (.t 125), none⟩,
⟨.mv 25 (.t 126), none⟩,
⟨.mv 26 (.t 127), none⟩] [])
(.seq (.rg 13 false [] [⟨.load 129 (.t 1) 6, none⟩,
⟨.load 130 (.t 22) 3, none⟩,
⟨.call 131 k_push_Inductive [(.t 129), (.t 130), (.c (.d true (.int .i64 9)))] none, none⟩,
⟨.mv 128 (.t 131), none⟩,
⟨.xt 132 (.t 128) 0, none⟩,
⟨.xt 133 (.t 128) 1, none⟩,
⟨.xt 134 (.t 128) 2, none⟩,
⟨.mv 27 (.t 132), none⟩,
⟨.mv 28 (.t 133), none⟩,
⟨.mv 29 (.t 134), none⟩] [])
(.seq (.rg 14 false [] [⟨.load 136 (.t 1) 6, none⟩,
⟨.bld 137 [.n 2, .k (.int .i64 0)] [(1, 0, (.c (.d true (.int .i64 2))))], none⟩,
⟨.call 138 k_push_Inductive [(.t 136), (.t 137), (.c (.d true (.int .i64 9)))] none, none⟩,
⟨.mv 135 (.t 138), none⟩,
⟨.xt 139 (.t 135) 0, none⟩,
⟨.xt 140 (.t 135) 1, none⟩,
⟨.xt 141 (.t 135) 2, none⟩,
⟨.mv 30 (.t 139), none⟩,
⟨.mv 31 (.t 140), none⟩,
⟨.mv 32 (.t 141), none⟩] [])
(.seq (.rg 15 false [] [⟨.load 143 (.t 9) 6, none⟩,
⟨.load 144 (.t 23) 3, none⟩,
⟨.call 145 k_push_Inductive [(.t 143), (.t 144), (.c (.d true (.int .i64 9)))] none, none⟩,
⟨.mv 142 (.t 145), none⟩,
⟨.xt 146 (.t 142) 0, none⟩,
⟨.xt 147 (.t 142) 1, none⟩,
⟨.xt 148 (.t 142) 2, none⟩,
⟨.mv 33 (.t 146), none⟩,
⟨.mv 34 (.t 147), none⟩,
⟨.mv 35 (.t 148), none⟩] [])
(.seq (.rg 16 false [] [⟨.load 149 (.t 9) 6, none⟩,
⟨.alloc 36 15 [.k (.int .i64 0), .n 2, .n 2, .n 1, .n 1], none⟩,
⟨.store (.t 36) (.t 149) 6, none⟩] [])
(.seq (.rg 17 false [] [⟨.bsl 150 16 1 1 (.k (.int .i64 0)) [(0, (.c (.d true (.int .i64 0))))], none⟩,
⟨.fad 151 (.t 36) 4 0, none⟩,
⟨.store (.t 151) (.t 150) 0, none⟩] [])
(.seq (.rg 18 false [] [⟨.load 153 (.t 36) 6, none⟩,
⟨.load 154 (.t 23) 3, none⟩,
⟨.call 155 k_push_Inductive [(.t 153), (.t 154), (.c (.d true (.int .i64 9)))] none, none⟩,
⟨.mv 152 (.t 155), none⟩,
⟨.xt 156 (.t 152) 0, none⟩,
⟨.xt 157 (.t 152) 1, none⟩,
⟨.xt 158 (.t 152) 2, none⟩,
⟨.mv 37 (.t 156), none⟩,
⟨.mv 38 (.t 157), none⟩,
⟨.mv 39 (.t 158), none⟩] [])
(.seq (.rg 19 false [] [⟨.bld 160 [.k (.int .i64 0), .n 2, .n 2, .n 1, .n 1] [(0, 0, (.c (.d true (.int .i64 (-1)))))], none⟩,
⟨.bld 161 [.n 1] [], none⟩,
⟨.call 162 k_push_Push [(.t 160), (.t 161), (.c (.d true (.int .i64 (-1))))] none, none⟩,
⟨.mv 159 (.t 162), none⟩,
⟨.xt 163 (.t 159) 0, none⟩,
⟨.xt 164 (.t 159) 1, none⟩,
⟨.xt 165 (.t 159) 2, none⟩,
⟨.alloc 40 17 [.n 1], none⟩,
⟨.store (.t 40) (.t 163) 2, none⟩,
⟨.mv 41 (.t 164), none⟩,
⟨.mv 42 (.t 165), none⟩] [])
(.seq (.rg 20 false [] [⟨.load 167 (.t 1) 6, none⟩,
⟨.bld 168 [.n 1] [], none⟩,
⟨.call 169 k_push_Push [(.t 167), (.t 168), (.c (.d true (.int .i64 (-1))))] none, none⟩,
⟨.mv 166 (.t 169), none⟩,
⟨.xt 170 (.t 166) 0, none⟩,
⟨.xt 171 (.t 166) 1, none⟩,
⟨.xt 172 (.t 166) 2, none⟩,
⟨.alloc 43 18 [.n 1], none⟩,
⟨.store (.t 43) (.t 170) 2, none⟩,
⟨.mv 44 (.t 171), none⟩,
⟨.mv 45 (.t 172), none⟩] [])
(.seq (.rg 21 false [] [⟨.load 174 (.t 1) 6, none⟩,
⟨.load 175 (.t 2) 2, none⟩,
⟨.call 176 k_push_Sound [(.t 174), (.t 175), (.c (.d true (.int .i64 (-1))))] none, none⟩,
⟨.mv 173 (.t 176), none⟩,
⟨.xt 177 (.t 173) 0, none⟩,
⟨.xt 178 (.t 173) 1, none⟩,
⟨.xt 179 (.t 173) 2, none⟩,
⟨.mv 46 (.t 177), none⟩,
⟨.mv 47 (.t 178), none⟩,
⟨.mv 48 (.t 179), none⟩] [])
(.seq (.rg 22 false [] [⟨.load 181 (.t 1) 6, none⟩,
⟨.bld 182 [.n 2, .k (.int .i64 0)] [(1, 0, (.c (.d true (.int .i64 4))))], none⟩,
⟨.call 183 k_push_Inductive [(.t 181), (.t 182), (.c (.d true (.int .i64 (-1))))] none, none⟩,
⟨.mv 180 (.t 183), none⟩,
⟨.xt 184 (.t 180) 0, none⟩,
⟨.xt 185 (.t 180) 1, none⟩,
⟨.xt 186 (.t 180) 2, none⟩,
⟨.mv 49 (.t 184), none⟩,
⟨.mv 50 (.t 185), none⟩,
⟨.mv 51 (.t 186), none⟩] [])
(.seq (.rg 23 false [] [⟨.load 188 (.t 1) 6, none⟩,
⟨.load 189 (.t 22) 3, none⟩,
⟨.call 190 k_push_Inductive [(.t 188), (.t 189), (.c (.d true (.int .i64 100001)))] none, none⟩,
⟨.mv 187 (.t 190), none⟩,
⟨.xt 191 (.t 187) 0, none⟩,
⟨.xt 192 (.t 187) 1, none⟩,
⟨.xt 193 (.t 187) 2, none⟩,
⟨.mv 52 (.t 191), none⟩,
⟨.mv 53 (.t 192), none⟩,
⟨.mv 54 (.t 193), none⟩] [])
(.seq (.rg 24 false [] [⟨.load 195 (.t 2) 2, none⟩,
⟨.call 196 k_push_Invariant [(.c (.d true (.int .i64 1))), (.t 195), (.c (.d true (.int .i64 0)))] none, none⟩,
⟨.mv 194 (.t 196), none⟩,
⟨.xt 197 (.t 194) 0, none⟩,
⟨.xt 198 (.t 194) 1, none⟩,
⟨.alloc 55 19 [.n 2, .k (.int .i64 0)], none⟩,
⟨.store (.t 55) (.t 197) 3, none⟩,
⟨.mv 56 (.t 198), none⟩] [])
(.seq (.rg 25 false [] [⟨.load 200 (.t 2) 2, none⟩,
⟨.call 201 k_push_Invariant [(.c (.d true (.int .i64 1))), (.t 200), (.c (.d true (.int .i64 3)))] none, none⟩,
⟨.mv 199 (.t 201), none⟩,
⟨.xt 202 (.t 199) 0, none⟩,
⟨.xt 203 (.t 199) 1, none⟩,
⟨.alloc 57 20 [.n 2, .k (.int .i64 0)], none⟩,
⟨.store (.t 57) (.t 202) 3, none⟩,
⟨.mv 58 (.t 203), none⟩] [])
(.seq (.rg 26 false [] [⟨.load 205 (.t 2) 2, none⟩,
⟨.call 206 k_push_Invariant [(.c (.d true (.int .i64 1))), (.t 205), (.c (.d true (.int .i64 2)))] none, none⟩,
⟨.mv 204 (.t 206), none⟩,
⟨.xt 207 (.t 204) 0, none⟩,
⟨.xt 208 (.t 204) 1, none⟩,
⟨.alloc 59 21 [.n 2, .k (.int .i64 0)], none⟩,
⟨.store (.t 59) (.t 207) 3, none⟩,
⟨.mv 60 (.t 208), none⟩] [])
(.seq (.rg 27 false [] [⟨.mv 209 (.t 5), none⟩,
⟨.bin 210 .eql (.t 209) (.c (.d true (.int .i64 0))), none⟩,
⟨.mv 211 (.t 210), none⟩,
⟨.mv 212 (.t 3), some (211, true)⟩,
⟨.pick 213 (.t 211) (.t 212) (.c (.d true (.bool false))), none⟩,
⟨.mv 214 (.t 213), none⟩,
⟨.mv 215 (.t 8), some (214, true)⟩,
⟨.bin 216 .eql (.t 215) (.c (.d true (.int .i64 0))), some (214, true)⟩,
⟨.pick 217 (.t 214) (.t 216) (.c (.d true (.bool false))), none⟩,
⟨.mv 218 (.t 217), none⟩,
⟨.mv 219 (.t 6), some (218, true)⟩,
⟨.un 220 .not (.t 219), some (218, true)⟩,
⟨.pick 221 (.t 218) (.t 220) (.c (.d true (.bool false))), none⟩,
⟨.mv 222 (.t 221), none⟩,
⟨.mv 223 (.t 7), some (222, true)⟩,
⟨.bin 224 .eql (.t 223) (.c (.d true (.int .i64 0))), some (222, true)⟩,
⟨.pick 225 (.t 222) (.t 224) (.c (.d true (.bool false))), none⟩,
⟨.mv 226 (.t 225), none⟩,
⟨.mv 227 (.t 12), some (226, true)⟩,
⟨.bin 228 .eql (.t 227) (.c (.d true (.int .i64 0))), some (226, true)⟩,
⟨.pick 229 (.t 226) (.t 228) (.c (.d true (.bool false))), none⟩,
⟨.mv 230 (.t 229), none⟩,
⟨.mv 231 (.t 10), some (230, true)⟩,
⟨.un 232 .not (.t 231), some (230, true)⟩,
⟨.pick 233 (.t 230) (.t 232) (.c (.d true (.bool false))), none⟩,
⟨.mv 234 (.t 233), none⟩,
⟨.mv 235 (.t 15), some (234, true)⟩,
⟨.bin 236 .eql (.t 235) (.c (.d true (.int .i64 0))), some (234, true)⟩,
⟨.pick 237 (.t 234) (.t 236) (.c (.d true (.bool false))), none⟩,
⟨.mv 238 (.t 237), none⟩,
⟨.load 239 (.t 13) 2, some (238, true)⟩,
⟨.load 240 (.t 2) 2, some (238, true)⟩,
⟨.call 241 k_ref37_Same [(.t 239), (.t 240)] none, some (238, true)⟩,
⟨.pick 242 (.t 238) (.t 241) (.c (.d true (.bool false))), none⟩,
⟨.mv 243 (.t 242), none⟩,
⟨.mv 244 (.t 17), some (243, true)⟩,
⟨.bin 245 .eql (.t 244) (.c (.d true (.int .i64 0))), some (243, true)⟩,
⟨.pick 246 (.t 243) (.t 245) (.c (.d true (.bool false))), none⟩,
⟨.mv 247 (.t 246), none⟩,
⟨.mv 248 (.t 16), some (247, true)⟩,
⟨.bin 249 .eql (.t 248) (.c (.d true (.int .i64 0))), some (247, true)⟩,
⟨.pick 250 (.t 247) (.t 249) (.c (.d true (.bool false))), none⟩,
⟨.mv 251 (.t 250), none⟩,
⟨.mv 252 (.t 19), some (251, true)⟩,
⟨.bin 253 .eql (.t 252) (.c (.d true (.int .i64 0))), some (251, true)⟩,
⟨.pick 254 (.t 251) (.t 253) (.c (.d true (.bool false))), none⟩,
⟨.mv 255 (.t 254), none⟩,
⟨.mv 256 (.t 18), some (255, true)⟩,
⟨.bin 257 .eql (.t 256) (.c (.d true (.int .i64 0))), some (255, true)⟩,
⟨.pick 258 (.t 255) (.t 257) (.c (.d true (.bool false))), none⟩,
⟨.mv 259 (.t 258), none⟩,
⟨.mv 260 (.t 21), some (259, true)⟩,
⟨.bin 261 .eql (.t 260) (.c (.d true (.int .i64 0))), some (259, true)⟩,
⟨.pick 262 (.t 259) (.t 261) (.c (.d true (.bool false))), none⟩,
⟨.mv 263 (.t 262), none⟩,
⟨.mv 264 (.t 20), some (263, true)⟩,
⟨.bin 265 .eql (.t 264) (.c (.d true (.int .i64 2))), some (263, true)⟩,
⟨.pick 266 (.t 263) (.t 265) (.c (.d true (.bool false))), none⟩,
⟨.mv 267 (.t 266), none⟩,
⟨.mv 268 (.t 26), some (267, true)⟩,
⟨.bin 269 .eql (.t 268) (.c (.d true (.int .i64 0))), some (267, true)⟩,
⟨.pick 270 (.t 267) (.t 269) (.c (.d true (.bool false))), none⟩,
⟨.mv 271 (.t 270), none⟩,
⟨.mv 272 (.t 24), some (271, true)⟩,
⟨.pick 273 (.t 271) (.t 272) (.c (.d true (.bool false))), none⟩,
⟨.mv 274 (.t 273), none⟩,
⟨.mv 275 (.t 29), some (274, true)⟩,
⟨.bin 276 .eql (.t 275) (.c (.d true (.int .i64 0))), some (274, true)⟩,
⟨.pick 277 (.t 274) (.t 276) (.c (.d true (.bool false))), none⟩,
⟨.mv 278 (.t 277), none⟩,
⟨.mv 279 (.t 27), some (278, true)⟩,
⟨.un 280 .not (.t 279), some (278, true)⟩,
⟨.pick 281 (.t 278) (.t 280) (.c (.d true (.bool false))), none⟩,
⟨.mv 282 (.t 281), none⟩,
⟨.mv 283 (.t 32), some (282, true)⟩,
⟨.bin 284 .eql (.t 283) (.c (.d true (.int .i64 0))), some (282, true)⟩,
⟨.pick 285 (.t 282) (.t 284) (.c (.d true (.bool false))), none⟩,
⟨.mv 286 (.t 285), none⟩,
⟨.mv 287 (.t 30), some (286, true)⟩,
⟨.un 288 .not (.t 287), some (286, true)⟩,
⟨.pick 289 (.t 286) (.t 288) (.c (.d true (.bool false))), none⟩,
⟨.mv 290 (.t 289), none⟩,
⟨.mv 291 (.t 35), some (290, true)⟩,
⟨.bin 292 .eql (.t 291) (.c (.d true (.int .i64 0))), some (290, true)⟩,
⟨.pick 293 (.t 290) (.t 292) (.c (.d true (.bool false))), none⟩,
⟨.mv 294 (.t 293), none⟩,
⟨.mv 295 (.t 33), some (294, true)⟩,
⟨.un 296 .not (.t 295), some (294, true)⟩,
⟨.pick 297 (.t 294) (.t 296) (.c (.d true (.bool false))), none⟩,
⟨.mv 298 (.t 297), none⟩,
⟨.mv 299 (.t 39), some (298, true)⟩,
⟨.bin 300 .eql (.t 299) (.c (.d true (.int .i64 0))), some (298, true)⟩,
⟨.pick 301 (.t 298) (.t 300) (.c (.d true (.bool false))), none⟩,
⟨.mv 302 (.t 301), none⟩,
⟨.mv 303 (.t 37), some (302, true)⟩,
⟨.pick 304 (.t 302) (.t 303) (.c (.d true (.bool false))), none⟩,
⟨.mv 305 (.t 304), none⟩,
⟨.mv 306 (.t 42), some (305, true)⟩,
⟨.bin 307 .eql (.t 306) (.c (.d true (.int .i64 8))), some (305, true)⟩,
⟨.pick 308 (.t 305) (.t 307) (.c (.d true (.bool false))), none⟩,
⟨.mv 309 (.t 308), none⟩,
⟨.mv 310 (.t 45), some (309, true)⟩,
⟨.bin 311 .eql (.t 310) (.c (.d true (.int .i64 8))), some (309, true)⟩,
⟨.pick 312 (.t 309) (.t 311) (.c (.d true (.bool false))), none⟩,
⟨.mv 313 (.t 312), none⟩,
⟨.mv 314 (.t 48), some (313, true)⟩,
⟨.bin 315 .eql (.t 314) (.c (.d true (.int .i64 2))), some (313, true)⟩,
⟨.pick 316 (.t 313) (.t 315) (.c (.d true (.bool false))), none⟩,
⟨.mv 317 (.t 316), none⟩,
⟨.mv 318 (.t 51), some (317, true)⟩,
⟨.bin 319 .eql (.t 318) (.c (.d true (.int .i64 8))), some (317, true)⟩,
⟨.pick 320 (.t 317) (.t 319) (.c (.d true (.bool false))), none⟩,
⟨.mv 321 (.t 320), none⟩,
⟨.mv 322 (.t 54), some (321, true)⟩,
⟨.bin 323 .eql (.t 322) (.c (.d true (.int .i64 2))), some (321, true)⟩,
⟨.pick 324 (.t 321) (.t 323) (.c (.d true (.bool false))), none⟩,
⟨.mv 325 (.t 324), none⟩,
⟨.mv 326 (.t 56), some (325, true)⟩,
⟨.bin 327 .eql (.t 326) (.c (.d true (.int .i64 2))), some (325, true)⟩,
⟨.pick 328 (.t 325) (.t 327) (.c (.d true (.bool false))), none⟩,
⟨.mv 329 (.t 328), none⟩,
⟨.mv 330 (.t 58), some (329, true)⟩,
⟨.bin 331 .eql (.t 330) (.c (.d true (.int .i64 2))), some (329, true)⟩,
⟨.pick 332 (.t 329) (.t 331) (.c (.d true (.bool false))), none⟩,
⟨.mv 333 (.t 332), none⟩,
⟨.mv 334 (.t 60), some (333, true)⟩,
⟨.bin 335 .eql (.t 334) (.c (.d true (.int .i64 0))), some (333, true)⟩,
⟨.pick 336 (.t 333) (.t 335) (.c (.d true (.bool false))), none⟩,
⟨.mv 337 (.t 336), none⟩,
⟨.fad 338 (.t 59) 0 0, some (337, true)⟩,
⟨.load 339 (.t 338) 0, some (337, true)⟩,
⟨.len 340 (.t 339), some (337, true)⟩,
⟨.bin 341 .eql (.t 340) (.c (.d true (.int .i64 0))), some (337, true)⟩,
⟨.pick 342 (.t 337) (.t 341) (.c (.d true (.bool false))), none⟩,
⟨.mv 343 (.t 342), none⟩,
⟨.fad 344 (.t 59) 1 0, some (343, true)⟩,
⟨.load 345 (.t 344) 0, some (343, true)⟩,
⟨.bin 346 .eql (.t 345) (.c (.d true (.int .i64 1))), some (343, true)⟩,
⟨.pick 347 (.t 343) (.t 346) (.c (.d true (.bool false))), none⟩,
⟨.mv 348 (.t 347), none⟩,
⟨.call 349 k_law40_alive [] none, some (348, true)⟩,
⟨.pick 350 (.t 348) (.t 349) (.c (.d true (.bool false))), none⟩,
⟨.mv 0 (.t 350), none⟩] [])
.ret))))))))))))))))))))))))))))
def n_law40_PushNames : Fn := ⟨c_law40_PushNames, [.s 0], (some [])⟩

def c_frames_Clauses : C :=
(.seq (.rg 0 false [] [⟨.box 4 0 (.t 1) 2, none⟩,
⟨.mv 6 (.c (.nil 1)), none⟩,
⟨.mv 7 (.c (.d true (.int .i64 0))), none⟩] [])
(.seq (.seq (.rg 1 false [] [⟨.mv 9 (.t 0), none⟩,
⟨.load 10 (.t 4) 2, none⟩,
⟨.mv 11 (.t 2), none⟩,
⟨.call 12 k_frames_asked [(.t 9), (.t 10), (.t 11), (.c (.d true (.int .i64 1)))] none, none⟩,
⟨.mv 8 (.t 12), none⟩] [])
(.seq (.rg 2 false [] [⟨.mv 13 (.t 8), none⟩,
⟨.bin 14 .neq (.t 13) (.c (.d true (.int .i64 0))), none⟩] [])
(.cond (.t 14) (.seq (.rg 3 false [] [⟨.mv 15 (.t 8), none⟩,
⟨.mv 6 (.c (.nil 1)), none⟩,
⟨.mv 7 (.t 15), none⟩] [])
.ret) .skip)))
(.seq (.rg 4 false [] [⟨.load 16 (.t 4) 2, none⟩,
⟨.mv 17 (.t 2), none⟩,
⟨.call 18 k_frames_all [(.t 16), (.t 17)] none, none⟩,
⟨.mv 6 (.t 18), none⟩,
⟨.mv 7 (.c (.d true (.int .i64 0))), none⟩] [])
.ret)))
def n_frames_Clauses : Fn := ⟨c_frames_Clauses, [.s 6, .s 7], (some [false, false, false])⟩

def c_frames_Put_l1 : C :=
(.seq (.rg 8 false [] [⟨.bin 45 .lss (.t 44) (.t 43), none⟩] [])
(.seq (.cond (.t 45) .skip (.exit 0))
(.seq (.block 1 (.seq (.rg 9 false [] [⟨.ix 46 (.t 42) (.t 44) 1, none⟩,
⟨.load 47 (.t 46) 0, none⟩,
⟨.mv 13 (.t 47), none⟩] [])
(.rg 10 false [] [⟨.mv 48 (.t 11), none⟩,
⟨.mv 49 (.t 48), none⟩,
⟨.mv 50 (.t 13), some (49, false)⟩,
⟨.fn 51 k_frames_Put_1 [(.t 7)], some (49, false)⟩,
⟨.call 52 k_slices_ContainsFunc_of_Lint [(.t 50), (.t 51)] none, some (49, false)⟩,
⟨.pick 53 (.t 49) (.c (.d true (.bool true))) (.t 52), none⟩,
⟨.mv 11 (.t 53), none⟩] [])))
(.rg 11 false [] [⟨.bin 54 .add (.t 44) (.c (.d true (.int .i64 1))), none⟩,
⟨.mv 44 (.t 54), none⟩] []))))
def c_frames_Put_l2 : C :=
(.seq (.rg 18 false [] [⟨.bin 66 .lss (.t 65) (.t 64), none⟩] [])
(.seq (.cond (.t 66) .skip (.exit 4))
(.seq (.block 5 (.seq (.rg 19 false [] [⟨.ix 67 (.t 63) (.t 65) 1, none⟩,
⟨.load 68 (.t 67) 0, none⟩,
⟨.mv 19 (.t 68), none⟩] [])
(.seq (.rg 20 false [] [⟨.mv 69 (.t 11), none⟩,
⟨.mv 70 (.t 69), none⟩,
⟨.mv 71 (.t 15), some (70, false)⟩,
⟨.mv 72 (.t 2), some (70, false)⟩,
⟨.bin 73 .geq (.t 71) (.t 72), some (70, false)⟩,
⟨.pick 74 (.t 70) (.c (.d true (.bool true))) (.t 73), none⟩,
⟨.mv 75 (.t 74), none⟩,
⟨.load 76 (.t 7) 0, some (75, false)⟩,
⟨.mv 77 (.t 19), some (75, false)⟩,
⟨.call 78 k_frames_part [(.t 76), (.t 77)] none, some (75, false)⟩,
⟨.un 79 .not (.t 78), some (75, false)⟩,
⟨.pick 80 (.t 75) (.c (.d true (.bool true))) (.t 79), none⟩] [])
(.cond (.t 80) (.rg 21 false [.kill 6 7] [⟨.mv 81 (.t 17), none⟩,
⟨.mv 82 (.t 19), none⟩,
⟨.call 83 k_slices_Clone_of_int [(.t 82)] none, none⟩,
⟨.bsl 84 6 1 1 (.k (.lst 1 [])) [(0, (.t 83))], none⟩,
⟨.app 85 7 1 (.t 81) (.t 84), none⟩,
⟨.mv 17 (.t 85), none⟩] []) .skip))))
(.rg 22 false [] [⟨.bin 86 .add (.t 65) (.c (.d true (.int .i64 1))), none⟩,
⟨.mv 65 (.t 86), none⟩] []))))
def c_frames_Put_l3 : C :=
(.seq (.rg 14 false [] [⟨.bin 59 .lss (.t 58) (.t 57), none⟩] [])
(.seq (.cond (.t 59) .skip (.exit 2))
(.seq (.block 3 (.seq (.rg 15 false [] [⟨.mv 60 (.t 58), none⟩,
⟨.ix 61 (.t 56) (.t 58) 1, none⟩,
⟨.load 62 (.t 61) 0, none⟩,
⟨.mv 15 (.t 60), none⟩,
⟨.mv 16 (.t 62), none⟩] [])
(.seq (.rg 16 false [.kill 5 6] [⟨.nilr 17 5 1, none⟩] [])
(.seq (.seq (.rg 17 false [] [⟨.mv 63 (.t 16), none⟩,
⟨.len 64 (.t 63), none⟩,
⟨.mv 65 (.c (.d true (.int .i64 0))), none⟩] [])
(.block 4 (.loop c_frames_Put_l2)))
(.rg 23 false [.kill 8 9, .renf 5 60, .ren 9 30] [⟨.fad 87 (.t 14) 0 0, none⟩,
⟨.load 88 (.t 87) 0, none⟩,
⟨.mv 89 (.t 17), none⟩,
⟨.bsv 90 8 [(.t 89)], none⟩,
⟨.apv 91 9 (.t 88) (.t 90), none⟩,
⟨.fad 92 (.t 14) 0 0, none⟩,
⟨.store (.t 92) (.t 91) 0, none⟩] [])))))
(.rg 24 false [] [⟨.bin 93 .add (.t 58) (.c (.d true (.int .i64 1))), none⟩,
⟨.mv 58 (.t 93), none⟩] []))))
def c_frames_Put : C :=
(.seq (.rg 0 false [] [⟨.box 5 0 (.t 1) 2, none⟩,
⟨.box 7 1 (.t 3) 0, none⟩,
⟨.alloc 8 2 [.r 3 1], none⟩,
⟨.mv 9 (.c (.d true (.int .i64 0))), none⟩] [])
(.seq (.seq (.rg 1 false [] [⟨.mv 20 (.t 0), none⟩,
⟨.load 21 (.t 5) 2, none⟩,
⟨.mv 22 (.t 2), none⟩,
⟨.call 23 k_frames_asked [(.t 20), (.t 21), (.t 22), (.c (.d true (.int .i64 1)))] none, none⟩,
⟨.mv 10 (.t 23), none⟩] [])
(.seq (.rg 2 false [] [⟨.mv 24 (.t 10), none⟩,
⟨.bin 25 .neq (.t 24) (.c (.d true (.int .i64 0))), none⟩] [])
(.cond (.t 25) (.seq (.rg 3 false [] [⟨.bld 26 [.n 1] [], none⟩,
⟨.mv 27 (.t 10), none⟩,
⟨.store (.t 8) (.t 26) 2, none⟩,
⟨.mv 9 (.t 27), none⟩] [])
.ret) .skip)))
(.seq (.seq (.rg 4 false [] [⟨.load 28 (.t 7) 0, none⟩,
⟨.len 29 (.t 28), none⟩,
⟨.bin 30 .eql (.t 29) (.c (.d true (.int .i64 0))), none⟩,
⟨.mv 31 (.t 30), none⟩,
⟨.mv 32 (.t 0), some (31, false)⟩,
⟨.load 33 (.t 7) 0, some (31, false)⟩,
⟨.call 34 k_clause_Check [(.t 32), (.t 33)] none, some (31, false)⟩,
⟨.bin 35 .neq (.t 34) (.c (.d true (.int .i64 0))), some (31, false)⟩,
⟨.pick 36 (.t 31) (.c (.d true (.bool true))) (.t 35), none⟩] [])
(.cond (.t 36) (.seq (.rg 5 false [] [⟨.bld 37 [.n 1] [], none⟩,
⟨.store (.t 8) (.t 37) 2, none⟩,
⟨.mv 9 (.c (.d true (.int .i64 8))), none⟩] [])
.ret) .skip))
(.seq (.rg 6 false [] [⟨.mv 11 (.c (.d true (.bool false))), none⟩] [])
(.seq (.seq (.rg 7 false [] [⟨.fad 38 (.t 5) 0 0, none⟩,
⟨.load 39 (.t 38) 0, none⟩,
⟨.mv 40 (.t 2), none⟩,
⟨.bin 41 .sub (.t 40) (.c (.d true (.int .i64 1))), none⟩,
⟨.slc 42 1 (.t 39) (some (.t 41)) none none, none⟩,
⟨.len 43 (.t 42), none⟩,
⟨.mv 44 (.c (.d true (.int .i64 0))), none⟩] [])
(.block 0 (.loop c_frames_Put_l1)))
(.seq (.rg 12 false [] [⟨.alloc 14 4 [.n 1], none⟩] [])
(.seq (.seq (.rg 13 false [] [⟨.fad 55 (.t 5) 0 0, none⟩,
⟨.load 56 (.t 55) 0, none⟩,
⟨.len 57 (.t 56), none⟩,
⟨.mv 58 (.c (.d true (.int .i64 0))), none⟩] [])
(.block 2 (.loop c_frames_Put_l3)))
(.seq (.seq (.rg 25 false [] [⟨.mv 94 (.t 11), none⟩,
⟨.un 95 .not (.t 94), none⟩] [])
(.cond (.t 95) (.rg 26 true [] [⟨.fad 96 (.t 14) 0 0, none⟩,
⟨.load 97 (.t 96) 0, none⟩,
⟨.mv 98 (.t 2), none⟩,
⟨.bin 99 .sub (.t 98) (.c (.d true (.int .i64 1))), none⟩,
⟨.fad 100 (.t 14) 0 0, none⟩,
⟨.load 101 (.t 100) 0, none⟩,
⟨.mv 102 (.t 2), none⟩,
⟨.bin 103 .sub (.t 102) (.c (.d true (.int .i64 1))), none⟩,
⟨.ixv 104 (.t 101) (.t 103), none⟩,
⟨.load 105 (.t 104) 0, none⟩,
⟨.load 106 (.t 7) 0, none⟩,
⟨.call 107 k_slices_Clone_of_int [(.t 106)] none, none⟩,
⟨.bsl 108 10 1 1 (.k (.lst 1 [])) [(0, (.t 107))], none⟩,
⟨.app 109 11 1 (.t 105) (.t 108), none⟩,
⟨.ixv 110 (.t 97) (.t 99), none⟩,
⟨.store (.t 110) (.t 109) 0, none⟩] [[0, 2, 3, 4, 5, 6, 7, 10, 11, 12, 8, 1, 9, 13, 14, 15], [0, 1, 2, 3, 4, 5, 6, 7, 10, 11, 12, 8, 9, 13, 14, 15], [0, 2, 3, 4, 5, 6, 7, 10, 11, 8, 1, 9, 12, 13, 14, 15], [0, 1, 2, 3, 4, 5, 6, 7, 10, 11, 8, 9, 12, 13, 14, 15], [0, 2, 3, 4, 5, 6, 7, 10, 8, 1, 9, 11, 12, 13, 14, 15], [0, 1, 2, 3, 4, 5, 6, 7, 10, 8, 9, 11, 12, 13, 14, 15], [0, 2, 3, 4, 5, 6, 7, 8, 1, 9, 10, 11, 12, 13, 14, 15]]) .skip))
(.seq (.seq (.rg 27 false [.unvs 9] [⟨.load 111 (.t 14) 2, none⟩,
⟨.call 112 k_frames_count [(.t 111)] none, none⟩,
⟨.bin 113 .gtr (.t 112) (.c (.d true (.int .i64 20000))), none⟩] [])
(.cond (.t 113) (.seq (.rg 28 false [] [⟨.bld 114 [.n 1] [], none⟩,
⟨.store (.t 8) (.t 114) 2, none⟩,
⟨.mv 9 (.c (.d true (.int .i64 4))), none⟩] [])
.ret) .skip))
(.seq (.rg 29 false [] [⟨.load 115 (.t 14) 2, none⟩,
⟨.store (.t 8) (.t 115) 2, none⟩,
⟨.mv 9 (.c (.d true (.int .i64 0))), none⟩] [])
.ret))))))))))
def n_frames_Put : Fn := ⟨c_frames_Put, [.c 8 2, .s 9], (some [false, false, false, false])⟩

def c_frames_Check_l1 : C :=
(.seq (.rg 11 false [] [⟨.bin 38 .lss (.t 37) (.t 36), none⟩] [])
(.seq (.cond (.t 38) .skip (.exit 2))
(.seq (.block 3 (.seq (.rg 12 false [] [⟨.ix 39 (.t 35) (.t 37) 1, none⟩,
⟨.load 40 (.t 39) 0, none⟩,
⟨.mv 8 (.t 40), none⟩] [])
(.seq (.rg 13 false [] [⟨.mv 41 (.t 8), none⟩,
⟨.len 42 (.t 41), none⟩,
⟨.bin 43 .eql (.t 42) (.c (.d true (.int .i64 0))), none⟩,
⟨.mv 44 (.t 43), none⟩,
⟨.mv 45 (.t 0), some (44, false)⟩,
⟨.mv 46 (.t 8), some (44, false)⟩,
⟨.call 47 k_clause_Check [(.t 45), (.t 46)] none, some (44, false)⟩,
⟨.bin 48 .neq (.t 47) (.c (.d true (.int .i64 0))), some (44, false)⟩,
⟨.pick 49 (.t 44) (.c (.d true (.bool true))) (.t 48), none⟩] [])
(.cond (.t 49) (.seq (.rg 14 false [] [⟨.mv 4 (.c (.d true (.int .i64 8))), none⟩] [])
.ret) .skip))))
(.rg 15 false [] [⟨.bin 50 .add (.t 37) (.c (.d true (.int .i64 1))), none⟩,
⟨.mv 37 (.t 50), none⟩] []))))
def c_frames_Check_l2 : C :=
(.seq (.rg 8 false [] [⟨.bin 32 .lss (.t 31) (.t 30), none⟩] [])
(.seq (.cond (.t 32) .skip (.exit 0))
(.seq (.block 1 (.seq (.rg 9 false [] [⟨.ix 33 (.t 29) (.t 31) 1, none⟩,
⟨.load 34 (.t 33) 0, none⟩,
⟨.mv 6 (.t 34), none⟩] [])
(.seq (.rg 10 false [] [⟨.mv 35 (.t 6), none⟩,
⟨.len 36 (.t 35), none⟩,
⟨.mv 37 (.c (.d true (.int .i64 0))), none⟩] [])
(.block 2 (.loop c_frames_Check_l1)))))
(.rg 16 false [] [⟨.bin 51 .add (.t 31) (.c (.d true (.int .i64 1))), none⟩,
⟨.mv 31 (.t 51), none⟩] []))))
def c_frames_Check : C :=
(.seq (.rg 0 false [] [⟨.box 3 0 (.t 1) 2, none⟩,
⟨.mv 4 (.c (.d true (.int .i64 0))), none⟩] [])
(.seq (.seq (.rg 1 false [] [⟨.mv 9 (.t 0), none⟩,
⟨.bin 10 .lss (.t 9) (.c (.d true (.int .i64 0))), none⟩,
⟨.mv 11 (.t 10), none⟩,
⟨.mv 12 (.t 0), some (11, false)⟩,
⟨.bin 13 .gtr (.t 12) (.c (.d true (.int .i64 1000))), some (11, false)⟩,
⟨.pick 14 (.t 11) (.c (.d true (.bool true))) (.t 13), none⟩] [])
(.cond (.t 14) (.seq (.rg 2 false [] [⟨.mv 4 (.c (.d true (.int .i64 2))), none⟩] [])
.ret) .skip))
(.seq (.seq (.rg 3 false [] [⟨.fad 15 (.t 3) 0 0, none⟩,
⟨.load 16 (.t 15) 0, none⟩,
⟨.len 17 (.t 16), none⟩,
⟨.bin 18 .gtr (.t 17) (.c (.d true (.int .i64 60))), none⟩,
⟨.mv 19 (.t 18), none⟩,
⟨.load 20 (.t 3) 2, some (19, false)⟩,
⟨.call 21 k_frames_count [(.t 20)] none, some (19, false)⟩,
⟨.bin 22 .gtr (.t 21) (.c (.d true (.int .i64 20000))), some (19, false)⟩,
⟨.pick 23 (.t 19) (.c (.d true (.bool true))) (.t 22), none⟩] [])
(.cond (.t 23) (.seq (.rg 4 false [] [⟨.mv 4 (.c (.d true (.int .i64 4))), none⟩] [])
.ret) .skip))
(.seq (.seq (.rg 5 false [] [⟨.fad 24 (.t 3) 0 0, none⟩,
⟨.load 25 (.t 24) 0, none⟩,
⟨.len 26 (.t 25), none⟩,
⟨.bin 27 .eql (.t 26) (.c (.d true (.int .i64 0))), none⟩] [])
(.cond (.t 27) (.seq (.rg 6 false [] [⟨.mv 4 (.c (.d true (.int .i64 8))), none⟩] [])
.ret) .skip))
(.seq (.seq (.rg 7 false [] [⟨.fad 28 (.t 3) 0 0, none⟩,
⟨.load 29 (.t 28) 0, none⟩,
⟨.len 30 (.t 29), none⟩,
⟨.mv 31 (.c (.d true (.int .i64 0))), none⟩] [])
(.block 0 (.loop c_frames_Check_l2)))
(.seq (.rg 17 false [] [⟨.mv 4 (.c (.d true (.int .i64 0))), none⟩] [])
.ret))))))
def n_frames_Check : Fn := ⟨c_frames_Check, [.s 4], (some [false, false])⟩

def c_frames_Before_l1 : C :=
(.seq (.rg 13 false [] [⟨.bin 68 .lss (.t 67) (.t 66), none⟩] [])
(.seq (.cond (.t 68) .skip (.exit 0))
(.seq (.block 1 (.seq (.rg 14 false [] [⟨.ix 69 (.t 65) (.t 67) 1, none⟩,
⟨.load 70 (.t 69) 0, none⟩,
⟨.mv 18 (.t 70), none⟩] [])
(.rg 15 true [.kill 6 7] [⟨.load 71 (.t 15) 0, none⟩,
⟨.load 72 (.t 15) 0, none⟩,
⟨.fad 73 (.t 6) 1 0, none⟩,
⟨.load 74 (.t 73) 0, none⟩,
⟨.mv 75 (.t 18), none⟩,
⟨.bin 76 .quo (.t 75) (.c (.d true (.int .i64 2))), none⟩,
⟨.bin 77 .sub (.t 76) (.c (.d true (.int .i64 1))), none⟩,
⟨.ix 78 (.t 74) (.t 77) 2, none⟩,
⟨.fad 79 (.t 78) 0 0, none⟩,
⟨.load 80 (.t 79) 0, none⟩,
⟨.mv 81 (.t 18), none⟩,
⟨.bin 82 .rem (.t 81) (.c (.d true (.int .i64 2))), none⟩,
⟨.bin 83 .xor (.t 80) (.t 82), none⟩,
⟨.call 84 k_frames_asks_lit [(.t 72), (.t 83)] none, none⟩,
⟨.bsl 85 6 1 1 (.k (.int .i64 0)) [(0, (.t 84))], none⟩,
⟨.call 86 k_frames_asks_put [(.t 71), (.t 85)] none, none⟩] [[1, 2, 3, 4, 5, 6, 7, 8, 9, 10, 11, 12, 13, 0, 14, 15]])))
(.rg 16 false [] [⟨.bin 87 .add (.t 67) (.c (.d true (.int .i64 1))), none⟩,
⟨.mv 67 (.t 87), none⟩] []))))
def c_frames_Before : C :=
(.seq (.rg 0 false [] [⟨.box 6 0 (.t 0) 6, none⟩,
⟨.box 7 1 (.t 1) 2, none⟩,
⟨.alloc 12 2 [.k (.bool false), .r 3 1, .r 4 1, .k (.int .i64 0)], none⟩,
⟨.mv 13 (.c (.d true (.int .i64 0))), none⟩] [])
(.seq (.seq (.rg 1 false [] [⟨.load 19 (.t 6) 6, none⟩,
⟨.call 20 k_gates_Check [(.t 19)] none, none⟩,
⟨.mv 14 (.t 20), none⟩] [])
(.seq (.rg 2 false [] [⟨.mv 21 (.t 14), none⟩,
⟨.bin 22 .neq (.t 21) (.c (.d true (.int .i64 0))), none⟩] [])
(.cond (.t 22) (.seq (.rg 3 false [] [⟨.bld 23 [.k (.bool false), .n 1, .n 1, .k (.int .i64 0)] [], none⟩,
⟨.mv 24 (.t 14), none⟩,
⟨.store (.t 12) (.t 23) 5, none⟩,
⟨.mv 13 (.t 24), none⟩] [])
.ret) .skip)))
(.seq (.rg 4 false [] [⟨.load 26 (.t 6) 6, none⟩,
⟨.load 27 (.t 7) 2, none⟩,
⟨.mv 28 (.t 2), none⟩,
⟨.mv 29 (.t 5), none⟩,
⟨.call 30 k_frames_begun [(.t 26), (.t 27), (.t 28), (.t 29)] (some 41), none⟩,
⟨.mv 25 (.t 30), none⟩,
⟨.xt 31 (.t 25) 0, none⟩,
⟨.xt 32 (.t 25) 1, none⟩,
⟨.alloc 15 5 [.u], none⟩,
⟨.store (.t 15) (.t 31) 0, none⟩,
⟨.mv 16 (.t 32), none⟩] [])
(.seq (.seq (.rg 5 false [] [⟨.mv 33 (.t 16), none⟩,
⟨.bin 34 .eql (.t 33) (.c (.d true (.int .i64 0))), none⟩,
⟨.mv 35 (.t 34), none⟩,
⟨.mv 36 (.t 16), some (35, false)⟩,
⟨.bin 37 .eql (.t 36) (.c (.d true (.int .i64 4))), some (35, false)⟩,
⟨.mv 38 (.t 37), some (35, false)⟩,
⟨.fad 39 (.t 6) 1 0, some (38, true)⟩,
⟨.load 40 (.t 39) 0, some (38, true)⟩,
⟨.len 41 (.t 40), some (38, true)⟩,
⟨.load 42 (.t 7) 2, some (38, true)⟩,
⟨.mv 43 (.t 2), some (38, true)⟩,
⟨.call 44 k_frames_asked [(.t 41), (.t 42), (.t 43), (.c (.d true (.int .i64 0)))] none, some (38, true)⟩,
⟨.bin 45 .eql (.t 44) (.c (.d true (.int .i64 0))), some (38, true)⟩,
⟨.pick 46 (.t 38) (.t 45) (.c (.d true (.bool false))), some (35, false)⟩,
⟨.pick 47 (.t 35) (.c (.d true (.bool true))) (.t 46), none⟩] [])
(.cond (.t 47) (.seq (.rg 6 false [] [⟨.fad 48 (.t 6) 1 0, none⟩,
⟨.load 49 (.t 48) 0, none⟩,
⟨.len 50 (.t 49), none⟩,
⟨.mv 51 (.t 3), none⟩,
⟨.call 52 k_clause_Check [(.t 50), (.t 51)] none, none⟩,
⟨.bin 53 .neq (.t 52) (.c (.d true (.int .i64 0))), none⟩] [])
(.cond (.t 53) (.seq (.rg 7 false [] [⟨.bld 54 [.k (.bool false), .n 1, .n 1, .k (.int .i64 0)] [], none⟩,
⟨.store (.t 12) (.t 54) 5, none⟩,
⟨.mv 13 (.c (.d true (.int .i64 8))), none⟩] [])
.ret) .skip)) .skip))
(.seq (.seq (.rg 8 false [] [⟨.mv 55 (.t 16), none⟩,
⟨.bin 56 .neq (.t 55) (.c (.d true (.int .i64 0))), none⟩] [])
(.cond (.t 56) (.seq (.rg 9 false [] [⟨.bld 57 [.k (.bool false), .n 1, .n 1, .k (.int .i64 0)] [], none⟩,
⟨.mv 58 (.t 16), none⟩,
⟨.store (.t 12) (.t 57) 5, none⟩,
⟨.mv 13 (.t 58), none⟩] [])
.ret) .skip))
(.seq (.seq (.rg 10 false [] [⟨.mv 59 (.t 4), none⟩] [])
(.cond (.t 59) (.rg 11 true [] [⟨.load 60 (.t 15) 0, none⟩,
⟨.mv 61 (.t 3), none⟩,
⟨.fn 62 k_frames_Before_1 [(.t 15)], none⟩,
⟨.call 63 k_frames_told [(.t 61), (.t 62)] none, none⟩,
⟨.call 64 k_frames_asks_put [(.t 60), (.t 63)] none, none⟩] [[1, 2, 3, 0, 4]]) .skip))
(.seq (.seq (.rg 12 false [] [⟨.mv 65 (.t 3), none⟩,
⟨.len 66 (.t 65), none⟩,
⟨.mv 67 (.c (.d true (.int .i64 0))), none⟩] [])
(.block 0 (.loop c_frames_Before_l1)))
(.seq (.rg 17 false [] [⟨.load 88 (.t 15) 0, none⟩,
⟨.mv 89 (.t 5), none⟩,
⟨.call 90 k_frames_asks_step [(.t 88), (.t 89)] none, none⟩,
⟨.xt 91 (.t 90) 0, none⟩,
⟨.xt 92 (.t 90) 1, none⟩,
⟨.store (.t 12) (.t 91) 5, none⟩,
⟨.mv 13 (.t 92), none⟩] [])
.ret))))))))
def n_frames_Before : Fn := ⟨c_frames_Before, [.c 12 5, .s 13], (some [false, false, false, false, false, false])⟩

def c_ref37_Same_l1 : C :=
(.seq (.seq (.rg 4 false [] [⟨.mv 13 (.t 5), none⟩,
⟨.fad 14 (.t 2) 0 0, none⟩,
⟨.load 15 (.t 14) 0, none⟩,
⟨.len 16 (.t 15), none⟩,
⟨.bin 17 .lss (.t 13) (.t 16), none⟩] [])
(.cond (.t 17) .skip (.exit 0)))
(.seq (.block 1 (.seq (.rg 6 true [] [⟨.fad 20 (.t 2) 0 0, none⟩,
⟨.load 21 (.t 20) 0, none⟩,
⟨.mv 22 (.t 5), none⟩,
⟨.ix 23 (.t 21) (.t 22) 1, none⟩,
⟨.load 24 (.t 23) 0, none⟩,
⟨.fad 25 (.t 3) 0 0, none⟩,
⟨.load 26 (.t 25) 0, none⟩,
⟨.mv 27 (.t 5), none⟩,
⟨.ix 28 (.t 26) (.t 27) 1, none⟩,
⟨.load 29 (.t 28) 0, none⟩,
⟨.call 30 k_ref13_SameAll [(.t 24), (.t 29)] none, none⟩,
⟨.un 31 .not (.t 30), none⟩] [])
(.cond (.t 31) (.seq (.rg 7 false [] [⟨.mv 4 (.c (.d true (.bool false))), none⟩] [])
.ret) .skip)))
(.rg 5 false [] [⟨.mv 18 (.t 5), none⟩,
⟨.bin 19 .add (.t 18) (.c (.d true (.int .i64 1))), none⟩,
⟨.mv 5 (.t 19), none⟩] [])))
def c_ref37_Same : C :=
(.seq (.rg 0 false [] [⟨.box 2 0 (.t 0) 2, none⟩,
⟨.box 3 1 (.t 1) 2, none⟩,
⟨.mv 4 (.c (.d true (.bool false))), none⟩] [])
(.seq (.seq (.rg 1 false [] [⟨.fad 6 (.t 2) 0 0, none⟩,
⟨.load 7 (.t 6) 0, none⟩,
⟨.len 8 (.t 7), none⟩,
⟨.fad 9 (.t 3) 0 0, none⟩,
⟨.load 10 (.t 9) 0, none⟩,
⟨.len 11 (.t 10), none⟩,
⟨.bin 12 .neq (.t 8) (.t 11), none⟩] [])
(.cond (.t 12) (.seq (.rg 2 false [] [⟨.mv 4 (.c (.d true (.bool false))), none⟩] [])
.ret) .skip))
(.seq (.seq (.rg 3 false [] [⟨.mv 5 (.c (.d true (.int .i64 0))), none⟩] [])
(.block 0 (.loop c_ref37_Same_l1)))
(.seq (.rg 8 false [] [⟨.mv 4 (.c (.d true (.bool true))), none⟩] [])
.ret))))
def n_ref37_Same : Fn := ⟨c_ref37_Same, [.s 4], (some [false, false])⟩

def c_ref13_Same_l1 : C :=
(.seq (.seq (.rg 4 false [] [⟨.mv 11 (.t 5), none⟩,
⟨.mv 12 (.t 0), none⟩,
⟨.len 13 (.t 12), none⟩,
⟨.bin 14 .lss (.t 11) (.t 13), none⟩] [])
(.cond (.t 14) .skip (.exit 0)))
(.seq (.block 1 (.seq (.rg 6 true [] [⟨.mv 17 (.t 0), none⟩,
⟨.mv 18 (.t 5), none⟩,
⟨.ix 19 (.t 17) (.t 18) 1, none⟩,
⟨.load 20 (.t 19) 0, none⟩,
⟨.mv 21 (.t 1), none⟩,
⟨.mv 22 (.t 5), none⟩,
⟨.ix 23 (.t 21) (.t 22) 1, none⟩,
⟨.load 24 (.t 23) 0, none⟩,
⟨.bin 25 .neq (.t 20) (.t 24), none⟩] [])
(.cond (.t 25) (.seq (.rg 7 false [] [⟨.mv 4 (.c (.d true (.bool false))), none⟩] [])
.ret) .skip)))
(.rg 5 false [] [⟨.mv 15 (.t 5), none⟩,
⟨.bin 16 .add (.t 15) (.c (.d true (.int .i64 1))), none⟩,
⟨.mv 5 (.t 16), none⟩] [])))
def c_ref13_Same : C :=
(.seq (.rg 0 false [] [⟨.mv 4 (.c (.d true (.bool false))), none⟩] [])
(.seq (.seq (.rg 1 false [] [⟨.mv 6 (.t 0), none⟩,
⟨.len 7 (.t 6), none⟩,
⟨.mv 8 (.t 1), none⟩,
⟨.len 9 (.t 8), none⟩,
⟨.bin 10 .neq (.t 7) (.t 9), none⟩] [])
(.cond (.t 10) (.seq (.rg 2 false [] [⟨.mv 4 (.c (.d true (.bool false))), none⟩] [])
.ret) .skip))
(.seq (.seq (.rg 3 false [] [⟨.mv 5 (.c (.d true (.int .i64 0))), none⟩] [])
(.block 0 (.loop c_ref13_Same_l1)))
(.seq (.rg 8 false [] [⟨.mv 4 (.c (.d true (.bool true))), none⟩] [])
.ret))))
def n_ref13_Same : Fn := ⟨c_ref13_Same, [.s 4], (some [false, false])⟩

def c_shrink_First : C :=
(.seq (.rg 0 false [] [⟨.box 2 0 (.t 0) 6, none⟩,
⟨.mv 4 (.c (.d true (.bool false))), none⟩,
⟨.mv 5 (.c (.d true (.int .i64 0))), none⟩] [])
(.seq (.seq (.rg 1 false [] [⟨.load 7 (.t 2) 6, none⟩,
⟨.call 8 k_gates_Check [(.t 7)] none, none⟩,
⟨.mv 6 (.t 8), none⟩] [])
(.seq (.rg 2 false [] [⟨.mv 9 (.t 6), none⟩,
⟨.bin 10 .neq (.t 9) (.c (.d true (.int .i64 0))), none⟩] [])
(.cond (.t 10) (.seq (.rg 3 false [] [⟨.mv 11 (.t 6), none⟩,
⟨.mv 4 (.c (.d true (.bool false))), none⟩,
⟨.mv 5 (.t 11), none⟩] [])
.ret) .skip)))
(.seq (.seq (.rg 4 false [] [⟨.fad 12 (.t 2) 1 0, none⟩,
⟨.load 13 (.t 12) 0, none⟩,
⟨.len 14 (.t 13), none⟩,
⟨.mv 15 (.t 1), none⟩,
⟨.call 16 k_clause_Check [(.t 14), (.t 15)] none, none⟩,
⟨.bin 17 .neq (.t 16) (.c (.d true (.int .i64 0))), none⟩] [])
(.cond (.t 17) (.seq (.rg 5 false [] [⟨.mv 4 (.c (.d true (.bool false))), none⟩,
⟨.mv 5 (.c (.d true (.int .i64 8))), none⟩] [])
.ret) .skip))
(.seq (.rg 6 false [] [⟨.load 18 (.t 2) 6, none⟩,
⟨.mv 19 (.t 1), none⟩,
⟨.call 20 k_shrink_first [(.t 18), (.t 19)] none, none⟩,
⟨.mv 4 (.t 20), none⟩,
⟨.mv 5 (.c (.d true (.int .i64 0))), none⟩] [])
.ret))))
def n_shrink_First : Fn := ⟨c_shrink_First, [.s 4, .s 5], (some [false, false])⟩

def c_law40_stays : C :=
(.seq (.rg 0 false [] [⟨.alloc 0 0 [.k (.int .i64 0), .r 1 2, .r 2 2, .r 3 1, .r 4 1], none⟩,
⟨.alloc 1 5 [.r 6 1], none⟩] [])
(.seq (.rg 1 false [] [⟨.bld 2 [.k (.int .i64 0), .k (.int .i64 0)] [(0, 0, (.c (.d true (.int .i64 2))))], none⟩,
⟨.bsl 3 7 2 1 (.k (.agg [(.int .i64 0), (.int .i64 0)])) [(0, (.t 2))], none⟩,
⟨.bsl 4 8 1 1 (.k (.int .i64 0)) [(0, (.c (.d true (.int .i64 2))))], none⟩,
⟨.bld 5 [.k (.int .i64 0), .n 2, .n 2, .n 1, .n 1] [(1, 0, (.t 3)), (3, 0, (.t 4))], none⟩,
⟨.bsl 6 9 1 1 (.k (.int .i64 0)) [(0, (.c (.d true (.int .i64 3))))], none⟩,
⟨.bsl 7 10 1 1 (.k (.lst 1 [])) [(0, (.t 6))], none⟩,
⟨.bsl 8 11 1 2 (.k (.lst 1 [])) [(0, (.t 7)), (1, (.c (.nil 1)))], none⟩,
⟨.bld 9 [.n 1] [(0, 0, (.t 8))], none⟩,
⟨.store (.t 0) (.t 5) 6, none⟩,
⟨.store (.t 1) (.t 9) 2, none⟩] [])
.ret))
def n_law40_stays : Fn := ⟨c_law40_stays, [.c 0 6, .c 1 2], (some [])⟩

def c_push_Sound_l1 : C :=
(.seq (.rg 9 false [] [⟨.bin 38 .lss (.t 37) (.t 36), none⟩] [])
(.seq (.cond (.t 38) .skip (.exit 2))
(.seq (.block 3 (.seq (.rg 10 false [] [⟨.ix 39 (.t 35) (.t 37) 1, none⟩,
⟨.load 40 (.t 39) 0, none⟩,
⟨.mv 15 (.t 40), none⟩] [])
(.seq (.rg 11 false [] [⟨.mv 41 (.t 15), none⟩,
⟨.call 42 k_push_turned [(.t 41)] none, none⟩,
⟨.mv 16 (.t 42), none⟩] [])
(.seq (.rg 12 false [] [⟨.load 44 (.t 3) 6, none⟩,
⟨.mv 45 (.t 16), none⟩,
⟨.call 46 k_shrink_First [(.t 44), (.t 45)] none, none⟩,
⟨.mv 43 (.t 46), none⟩,
⟨.xt 47 (.t 43) 0, none⟩,
⟨.xt 48 (.t 43) 1, none⟩,
⟨.mv 17 (.t 47), none⟩,
⟨.mv 18 (.t 48), none⟩] [])
(.seq (.seq (.rg 13 false [] [⟨.mv 49 (.t 18), none⟩,
⟨.bin 50 .neq (.t 49) (.c (.d true (.int .i64 0))), none⟩] [])
(.cond (.t 50) (.seq (.rg 14 false [] [⟨.mv 51 (.t 18), none⟩,
⟨.mv 6 (.c (.d true (.bool false))), none⟩,
⟨.mv 7 (.c (.d true (.int .i64 0))), none⟩,
⟨.mv 8 (.t 51), none⟩] [])
.ret) .skip))
(.seq (.seq (.rg 15 false [] [⟨.mv 52 (.t 17), none⟩] [])
(.cond (.t 52) (.seq (.rg 16 false [] [⟨.mv 10 (.c (.d true (.bool false))), none⟩] [])
(.exit 0)) .skip))
(.seq (.rg 17 false [.kill 2 3] [⟨.load 54 (.t 3) 6, none⟩,
⟨.load 55 (.t 4) 2, none⟩,
⟨.mv 56 (.t 12), none⟩,
⟨.mv 57 (.t 16), none⟩,
⟨.mv 58 (.t 2), none⟩,
⟨.call 59 k_frames_Before [(.t 54), (.t 55), (.t 56), (.t 57), (.c (.d true (.bool false))), (.t 58)] none, none⟩,
⟨.mv 53 (.t 59), none⟩,
⟨.xt 60 (.t 53) 0, none⟩,
⟨.xt 61 (.t 53) 1, none⟩,
⟨.alloc 19 2 [.k (.bool false), .n 1, .n 1, .k (.int .i64 0)], none⟩,
⟨.store (.t 19) (.t 60) 5, none⟩,
⟨.mv 18 (.t 61), none⟩] [])
(.seq (.seq (.rg 18 false [] [⟨.mv 62 (.t 18), none⟩,
⟨.bin 63 .neq (.t 62) (.c (.d true (.int .i64 0))), none⟩] [])
(.cond (.t 63) (.seq (.rg 19 false [] [⟨.mv 64 (.t 18), none⟩,
⟨.mv 6 (.c (.d true (.bool false))), none⟩,
⟨.mv 7 (.c (.d true (.int .i64 0))), none⟩,
⟨.mv 8 (.t 64), none⟩] [])
.ret) .skip))
(.seq (.rg 20 false [] [⟨.mv 65 (.t 11), none⟩,
⟨.fad 66 (.t 19) 3 0, none⟩,
⟨.load 67 (.t 66) 0, none⟩,
⟨.mx 68 (.t 65) [(.t 67)], none⟩,
⟨.mv 11 (.t 68), none⟩] [])
(.seq (.rg 21 false [] [⟨.fad 69 (.t 19) 0 0, none⟩,
⟨.load 70 (.t 69) 0, none⟩] [])
(.cond (.t 70) (.seq (.rg 22 false [] [⟨.mv 10 (.c (.d true (.bool false))), none⟩] [])
(.exit 0)) .skip)))))))))))
(.rg 23 false [] [⟨.bin 71 .add (.t 37) (.c (.d true (.int .i64 1))), none⟩,
⟨.mv 37 (.t 71), none⟩] []))))
def c_push_Sound_l2 : C :=
(.seq (.rg 6 false [] [⟨.bin 31 .lss (.t 30) (.t 29), none⟩] [])
(.seq (.cond (.t 31) .skip (.exit 0))
(.seq (.block 1 (.seq (.rg 7 false [] [⟨.mv 32 (.t 30), none⟩,
⟨.ix 33 (.t 28) (.t 30) 1, none⟩,
⟨.load 34 (.t 33) 0, none⟩,
⟨.mv 12 (.t 32), none⟩,
⟨.mv 13 (.t 34), none⟩] [])
(.seq (.rg 8 false [] [⟨.mv 35 (.t 13), none⟩,
⟨.len 36 (.t 35), none⟩,
⟨.mv 37 (.c (.d true (.int .i64 0))), none⟩] [])
(.block 2 (.loop c_push_Sound_l1)))))
(.rg 24 false [] [⟨.bin 72 .add (.t 30) (.c (.d true (.int .i64 1))), none⟩,
⟨.mv 30 (.t 72), none⟩] []))))
def c_push_Sound : C :=
(.seq (.rg 0 false [] [⟨.box 3 0 (.t 0) 6, none⟩,
⟨.box 4 1 (.t 1) 2, none⟩,
⟨.mv 6 (.c (.d true (.bool false))), none⟩,
⟨.mv 7 (.c (.d true (.int .i64 0))), none⟩,
⟨.mv 8 (.c (.d true (.int .i64 0))), none⟩] [])
(.seq .skip (.seq (.seq (.rg 1 false [] [⟨.load 20 (.t 3) 6, none⟩,
⟨.load 21 (.t 4) 2, none⟩,
⟨.mv 22 (.t 2), none⟩,
⟨.call 23 k_push_asked [(.t 20), (.t 21), (.t 22)] none, none⟩,
⟨.mv 9 (.t 23), none⟩] [])
(.seq (.rg 2 false [] [⟨.mv 24 (.t 9), none⟩,
⟨.bin 25 .neq (.t 24) (.c (.d true (.int .i64 0))), none⟩] [])
(.cond (.t 25) (.seq (.rg 3 false [] [⟨.mv 26 (.t 9), none⟩,
⟨.mv 6 (.c (.d true (.bool false))), none⟩,
⟨.mv 7 (.c (.d true (.int .i64 0))), none⟩,
⟨.mv 8 (.t 26), none⟩] [])
.ret) .skip)))
(.seq (.rg 4 false [] [⟨.mv 10 (.c (.d true (.bool true))), none⟩,
⟨.mv 11 (.c (.d true (.int .i64 0))), none⟩] [])
(.seq .skip
(.seq (.seq (.rg 5 false [] [⟨.fad 27 (.t 4) 0 0, none⟩,
⟨.load 28 (.t 27) 0, none⟩,
⟨.len 29 (.t 28), none⟩,
⟨.mv 30 (.c (.d true (.int .i64 0))), none⟩] [])
(.block 0 (.loop c_push_Sound_l2)))
(.seq (.rg 25 false [] [⟨.mv 73 (.t 10), none⟩,
⟨.mv 74 (.t 11), none⟩,
⟨.mv 6 (.t 73), none⟩,
⟨.mv 7 (.t 74), none⟩,
⟨.mv 8 (.c (.d true (.int .i64 0))), none⟩] [])
.ret)))))))
def n_push_Sound : Fn := ⟨c_push_Sound, [.s 6, .s 7, .s 8], (some [false, false, false])⟩

def c_push_Push_l1 : C :=
(.seq (.rg 10 false [] [⟨.bin 41 .lss (.t 40) (.t 39), none⟩] [])
(.seq (.cond (.t 41) .skip (.exit 2))
(.seq (.block 3 (.seq (.rg 11 false [] [⟨.ix 42 (.t 38) (.t 40) 1, none⟩,
⟨.load 43 (.t 42) 0, none⟩,
⟨.mv 15 (.t 43), none⟩] [])
(.rg 12 false [.kill 6 7] [⟨.mv 44 (.t 13), none⟩,
⟨.mv 45 (.t 15), none⟩,
⟨.call 46 k_slices_Clone_of_int [(.t 45)] none, none⟩,
⟨.bsl 47 6 1 1 (.k (.lst 1 [])) [(0, (.t 46))], none⟩,
⟨.app 48 7 1 (.t 44) (.t 47), none⟩,
⟨.mv 13 (.t 48), none⟩] [])))
(.rg 13 false [] [⟨.bin 49 .add (.t 40) (.c (.d true (.int .i64 1))), none⟩,
⟨.mv 40 (.t 49), none⟩] []))))
def c_push_Push_l2 : C :=
(.seq (.rg 6 false [] [⟨.bin 35 .lss (.t 34) (.t 33), none⟩] [])
(.seq (.cond (.t 35) .skip (.exit 0))
(.seq (.block 1 (.seq (.rg 7 false [] [⟨.ix 36 (.t 32) (.t 34) 1, none⟩,
⟨.load 37 (.t 36) 0, none⟩,
⟨.mv 12 (.t 37), none⟩] [])
(.seq (.rg 8 false [.kill 5 6] [⟨.nilr 13 5 1, none⟩] [])
(.seq (.seq (.rg 9 false [] [⟨.mv 38 (.t 12), none⟩,
⟨.len 39 (.t 38), none⟩,
⟨.mv 40 (.c (.d true (.int .i64 0))), none⟩] [])
(.block 2 (.loop c_push_Push_l1)))
(.rg 14 false [.kill 8 9] [⟨.fad 50 (.t 10) 0 0, none⟩,
⟨.load 51 (.t 50) 0, none⟩,
⟨.mv 52 (.t 13), none⟩,
⟨.bsl 53 8 1 1 (.k (.lst 1 [])) [(0, (.t 52))], none⟩,
⟨.app 54 9 1 (.t 51) (.t 53), none⟩,
⟨.fad 55 (.t 10) 0 0, none⟩,
⟨.store (.t 55) (.t 54) 0, none⟩] [])))))
(.rg 15 false [] [⟨.bin 56 .add (.t 34) (.c (.d true (.int .i64 1))), none⟩,
⟨.mv 34 (.t 56), none⟩] []))))
def c_push_Push_l3 : C :=
(.seq (.rg 21 false [] [⟨.bin 72 .lss (.t 71) (.t 70), none⟩] [])
(.seq (.cond (.t 72) .skip (.exit 6))
(.seq (.block 7 (.seq (.rg 22 false [.kill 10 11] [⟨.ix 73 (.t 69) (.t 71) 1, none⟩,
⟨.load 74 (.t 73) 0, none⟩,
⟨.alloc 19 10 [.n 1], none⟩,
⟨.store (.t 19) (.t 74) 0, none⟩] [])
(.seq (.seq (.rg 23 false [] [⟨.fad 75 (.t 10) 0 0, none⟩,
⟨.load 76 (.t 75) 0, none⟩,
⟨.mv 77 (.t 17), none⟩,
⟨.ix 78 (.t 76) (.t 77) 1, none⟩,
⟨.load 79 (.t 78) 0, none⟩,
⟨.fn 80 k_push_Push_1 [(.t 19)], none⟩,
⟨.call 81 k_slices_ContainsFunc_of_Lint [(.t 79), (.t 80)] none, none⟩,
⟨.un 82 .not (.t 81), none⟩] [])
(.cond (.t 82) (.exit 7) .skip))
(.seq (.rg 24 true [.kill 11 12] [⟨.load 84 (.t 3) 6, none⟩,
⟨.load 85 (.t 10) 2, none⟩,
⟨.mv 86 (.t 17), none⟩,
⟨.bin 87 .add (.t 86) (.c (.d true (.int .i64 1))), none⟩,
⟨.load 88 (.t 19) 0, none⟩,
⟨.call 89 k_push_turned [(.t 88)] none, none⟩,
⟨.mv 90 (.t 2), none⟩,
⟨.call 91 k_frames_Before [(.t 84), (.t 85), (.t 87), (.t 89), (.c (.d true (.bool false))), (.t 90)] none, none⟩,
⟨.mv 83 (.t 91), none⟩,
⟨.xt 92 (.t 83) 0, none⟩,
⟨.xt 93 (.t 83) 1, none⟩,
⟨.alloc 20 11 [.k (.bool false), .n 1, .n 1, .k (.int .i64 0)], none⟩,
⟨.store (.t 20) (.t 92) 5, none⟩,
⟨.mv 21 (.t 93), none⟩] [])
(.seq (.seq (.rg 25 false [] [⟨.mv 94 (.t 21), none⟩,
⟨.bin 95 .neq (.t 94) (.c (.d true (.int .i64 0))), none⟩] [])
(.cond (.t 95) (.seq (.rg 26 false [] [⟨.bld 96 [.n 1] [], none⟩,
⟨.mv 97 (.t 21), none⟩,
⟨.store (.t 6) (.t 96) 2, none⟩,
⟨.mv 7 (.c (.d true (.int .i64 0))), none⟩,
⟨.mv 8 (.t 97), none⟩] [])
.ret) .skip))
(.seq (.rg 27 false [] [⟨.mv 98 (.t 16), none⟩,
⟨.fad 99 (.t 20) 3 0, none⟩,
⟨.load 100 (.t 99) 0, none⟩,
⟨.mx 101 (.t 98) [(.t 100)], none⟩,
⟨.mv 16 (.t 101), none⟩] [])
(.seq (.seq (.rg 28 false [] [⟨.fad 102 (.t 20) 0 0, none⟩,
⟨.load 103 (.t 102) 0, none⟩] [])
(.cond (.t 103) (.exit 7) .skip))
(.seq (.rg 29 false [] [⟨.fad 105 (.t 3) 1 0, none⟩,
⟨.load 106 (.t 105) 0, none⟩,
⟨.len 107 (.t 106), none⟩,
⟨.load 108 (.t 10) 2, none⟩,
⟨.mv 109 (.t 17), none⟩,
⟨.bin 110 .add (.t 109) (.c (.d true (.int .i64 2))), none⟩,
⟨.load 111 (.t 19) 0, none⟩,
⟨.call 112 k_frames_Put [(.t 107), (.t 108), (.t 110), (.t 111)] none, none⟩,
⟨.mv 104 (.t 112), none⟩,
⟨.xt 113 (.t 104) 0, none⟩,
⟨.xt 114 (.t 104) 1, none⟩,
⟨.store (.t 10) (.t 113) 2, none⟩,
⟨.mv 21 (.t 114), none⟩] [])
(.seq (.rg 30 false [] [⟨.mv 115 (.t 21), none⟩,
⟨.bin 116 .neq (.t 115) (.c (.d true (.int .i64 0))), none⟩] [])
(.cond (.t 116) (.seq (.rg 31 false [] [⟨.bld 117 [.n 1] [], none⟩,
⟨.mv 118 (.t 21), none⟩,
⟨.store (.t 6) (.t 117) 2, none⟩,
⟨.mv 7 (.c (.d true (.int .i64 0))), none⟩,
⟨.mv 8 (.t 118), none⟩] [])
.ret) .skip))))))))))
(.rg 32 false [] [⟨.bin 119 .add (.t 71) (.c (.d true (.int .i64 1))), none⟩,
⟨.mv 71 (.t 119), none⟩] []))))
def c_push_Push_l4 : C :=
(.seq (.rg 18 false [] [⟨.bin 62 .lss (.t 61) (.t 60), none⟩] [])
(.seq (.cond (.t 62) .skip (.exit 4))
(.seq (.block 5 (.seq (.rg 19 false [] [⟨.mv 63 (.t 61), none⟩,
⟨.mv 17 (.t 63), none⟩] [])
(.seq (.rg 20 false [.frz 40, .pur 40, .kill 40 41] [⟨.fad 64 (.t 10) 0 0, none⟩,
⟨.load 65 (.t 64) 0, none⟩,
⟨.mv 66 (.t 17), none⟩,
⟨.ix 67 (.t 65) (.t 66) 1, none⟩,
⟨.load 68 (.t 67) 0, none⟩,
⟨.call 69 k_slices_Clone_of_Lint [(.t 68)] (some 40), none⟩,
⟨.len 70 (.t 69), none⟩,
⟨.mv 71 (.c (.d true (.int .i64 0))), none⟩] [])
(.block 6 (.loop c_push_Push_l3)))))
(.rg 33 false [] [⟨.bin 120 .add (.t 61) (.c (.d true (.int .i64 1))), none⟩,
⟨.mv 61 (.t 120), none⟩] []))))
def c_push_Push : C :=
(.seq (.rg 0 false [] [⟨.box 3 0 (.t 0) 6, none⟩,
⟨.box 4 1 (.t 1) 2, none⟩,
⟨.alloc 6 2 [.r 3 1], none⟩,
⟨.mv 7 (.c (.d true (.int .i64 0))), none⟩,
⟨.mv 8 (.c (.d true (.int .i64 0))), none⟩] [])
(.seq (.seq (.rg 1 false [] [⟨.load 22 (.t 3) 6, none⟩,
⟨.load 23 (.t 4) 2, none⟩,
⟨.mv 24 (.t 2), none⟩,
⟨.call 25 k_push_asked [(.t 22), (.t 23), (.t 24)] none, none⟩,
⟨.mv 9 (.t 25), none⟩] [])
(.seq (.rg 2 false [] [⟨.mv 26 (.t 9), none⟩,
⟨.bin 27 .neq (.t 26) (.c (.d true (.int .i64 0))), none⟩] [])
(.cond (.t 27) (.seq (.rg 3 false [] [⟨.bld 28 [.n 1] [], none⟩,
⟨.mv 29 (.t 9), none⟩,
⟨.store (.t 6) (.t 28) 2, none⟩,
⟨.mv 7 (.c (.d true (.int .i64 0))), none⟩,
⟨.mv 8 (.t 29), none⟩] [])
.ret) .skip)))
(.seq (.rg 4 false [] [⟨.bld 30 [.n 1] [], none⟩,
⟨.alloc 10 4 [.n 1], none⟩,
⟨.store (.t 10) (.t 30) 2, none⟩] [])
(.seq (.seq (.rg 5 false [] [⟨.fad 31 (.t 4) 0 0, none⟩,
⟨.load 32 (.t 31) 0, none⟩,
⟨.len 33 (.t 32), none⟩,
⟨.mv 34 (.c (.d true (.int .i64 0))), none⟩] [])
(.block 0 (.loop c_push_Push_l2)))
(.seq (.rg 16 false [] [⟨.mv 16 (.c (.d true (.int .i64 0))), none⟩] [])
(.seq (.seq (.rg 17 false [] [⟨.fad 57 (.t 4) 0 0, none⟩,
⟨.load 58 (.t 57) 0, none⟩,
⟨.len 59 (.t 58), none⟩,
⟨.bin 60 .sub (.t 59) (.c (.d true (.int .i64 1))), none⟩,
⟨.mv 61 (.c (.d true (.int .i64 0))), none⟩] [])
(.block 4 (.loop c_push_Push_l4)))
(.seq (.rg 34 false [] [⟨.load 121 (.t 10) 2, none⟩,
⟨.mv 122 (.t 16), none⟩,
⟨.store (.t 6) (.t 121) 2, none⟩,
⟨.mv 7 (.t 122), none⟩,
⟨.mv 8 (.c (.d true (.int .i64 0))), none⟩] [])
.ret)))))))
def n_push_Push : Fn := ⟨c_push_Push, [.c 6 2, .s 7, .s 8], (some [false, false, false])⟩

def c_push_Fixed : C :=
(.seq (.rg 0 false [] [⟨.box 3 0 (.t 1) 2, none⟩,
⟨.mv 4 (.c (.d true (.int .i64 0))), none⟩,
⟨.mv 5 (.c (.d true (.int .i64 0))), none⟩] [])
(.seq (.seq (.rg 1 false [] [⟨.mv 8 (.t 0), none⟩,
⟨.load 9 (.t 3) 2, none⟩,
⟨.call 10 k_frames_Check [(.t 8), (.t 9)] none, none⟩,
⟨.mv 6 (.t 10), none⟩] [])
(.seq (.rg 2 false [] [⟨.mv 11 (.t 6), none⟩,
⟨.bin 12 .neq (.t 11) (.c (.d true (.int .i64 0))), none⟩] [])
(.cond (.t 12) (.seq (.rg 3 false [] [⟨.mv 13 (.t 6), none⟩,
⟨.mv 4 (.c (.d true (.int .i64 0))), none⟩,
⟨.mv 5 (.t 13), none⟩] [])
.ret) .skip)))
(.seq (.rg 4 false [] [⟨.fad 14 (.t 3) 0 0, none⟩,
⟨.load 15 (.t 14) 0, none⟩,
⟨.fad 16 (.t 3) 0 0, none⟩,
⟨.load 17 (.t 16) 0, none⟩,
⟨.len 18 (.t 17), none⟩,
⟨.bin 19 .sub (.t 18) (.c (.d true (.int .i64 1))), none⟩,
⟨.slc 20 1 (.t 15) none (some (.t 19)) none, none⟩,
⟨.call 21 k_slices_IndexFunc_of_LLint [(.t 20), (.c (.cl k_push_Fixed_1 []))] none, none⟩,
⟨.mv 7 (.t 21), none⟩] [])
(.seq (.rg 5 false [] [⟨.mv 22 (.t 7), none⟩,
⟨.bin 23 .add (.t 22) (.c (.d true (.int .i64 1))), none⟩,
⟨.mv 4 (.t 23), none⟩,
⟨.mv 5 (.c (.d true (.int .i64 0))), none⟩] [])
.ret))))
def n_push_Fixed : Fn := ⟨c_push_Fixed, [.s 4, .s 5], (some [false, false])⟩

def c_push_Inductive_l1 : C :=
(.seq (.rg 11 false [] [⟨.bin 47 .lss (.t 46) (.t 45), none⟩] [])
(.seq (.cond (.t 47) .skip (.exit 0))
(.seq (.block 1 (.seq (.rg 12 false [] [⟨.mv 48 (.t 46), none⟩,
⟨.mv 12 (.t 48), none⟩] [])
(.rg 13 false [] [⟨.mv 49 (.t 11), none⟩,
⟨.mv 50 (.t 12), none⟩,
⟨.fad 51 (.t 3) 0 0, none⟩,
⟨.load 52 (.t 51) 0, none⟩,
⟨.bin 53 .add (.t 52) (.c (.d true (.int .i64 1))), none⟩,
⟨.mv 54 (.t 12), none⟩,
⟨.bin 55 .add (.t 53) (.t 54), none⟩,
⟨.bin 56 .mul (.c (.d true (.int .i64 2))) (.t 55), none⟩,
⟨.ix 57 (.t 49) (.t 50) 1, none⟩,
⟨.store (.t 57) (.t 56) 0, none⟩] [])))
(.rg 14 false [] [⟨.bin 58 .add (.t 46) (.c (.d true (.int .i64 1))), none⟩,
⟨.mv 46 (.t 58), none⟩] []))))
def c_push_Inductive_l2 : C :=
(.seq (.rg 20 false [] [⟨.bin 71 .lss (.t 70) (.c (.d true (.int .i64 3))), none⟩] [])
(.seq (.cond (.t 71) .skip (.exit 2))
(.seq (.block 3 (.seq (.rg 21 false [] [⟨.mv 72 (.t 70), none⟩,
⟨.mv 17 (.t 72), none⟩] [])
(.seq (.rg 22 false [] [⟨.load 74 (.t 13) 6, none⟩,
⟨.mv 75 (.t 14), none⟩,
⟨.mv 76 (.t 17), none⟩,
⟨.mv 77 (.t 2), none⟩,
⟨.call 78 k_push_ask [(.t 74), (.t 75), (.t 76), (.t 77)] none, none⟩,
⟨.mv 73 (.t 78), none⟩,
⟨.xt 79 (.t 73) 0, none⟩,
⟨.xt 80 (.t 73) 1, none⟩,
⟨.xt 81 (.t 73) 2, none⟩,
⟨.mv 18 (.t 79), none⟩,
⟨.mv 19 (.t 80), none⟩,
⟨.mv 20 (.t 81), none⟩] [])
(.seq (.seq (.rg 23 false [] [⟨.mv 82 (.t 20), none⟩,
⟨.bin 83 .neq (.t 82) (.c (.d true (.int .i64 0))), none⟩] [])
(.cond (.t 83) (.seq (.rg 24 false [] [⟨.mv 84 (.t 20), none⟩,
⟨.mv 6 (.c (.d true (.bool false))), none⟩,
⟨.mv 7 (.c (.d true (.int .i64 0))), none⟩,
⟨.mv 8 (.t 84), none⟩] [])
.ret) .skip))
(.seq (.rg 25 false [] [⟨.mv 85 (.t 16), none⟩,
⟨.mv 86 (.t 19), none⟩,
⟨.mx 87 (.t 85) [(.t 86)], none⟩,
⟨.mv 16 (.t 87), none⟩] [])
(.seq (.rg 26 false [] [⟨.mv 88 (.t 18), none⟩,
⟨.un 89 .not (.t 88), none⟩] [])
(.cond (.t 89) (.seq (.rg 27 false [] [⟨.mv 90 (.t 16), none⟩,
⟨.mv 6 (.c (.d true (.bool false))), none⟩,
⟨.mv 7 (.t 90), none⟩,
⟨.mv 8 (.c (.d true (.int .i64 0))), none⟩] [])
.ret) .skip)))))))
(.rg 28 false [] [⟨.bin 91 .add (.t 70) (.c (.d true (.int .i64 1))), none⟩,
⟨.mv 70 (.t 91), none⟩] []))))
def c_push_Inductive : C :=
(.seq (.rg 0 false [] [⟨.box 3 0 (.t 0) 6, none⟩,
⟨.box 4 1 (.t 1) 3, none⟩,
⟨.mv 6 (.c (.d true (.bool false))), none⟩,
⟨.mv 7 (.c (.d true (.int .i64 0))), none⟩,
⟨.mv 8 (.c (.d true (.int .i64 0))), none⟩] [])
(.seq (.seq (.rg 1 false [] [⟨.load 21 (.t 3) 6, none⟩,
⟨.call 22 k_gates_Check [(.t 21)] none, none⟩,
⟨.mv 9 (.t 22), none⟩] [])
(.seq (.rg 2 false [] [⟨.mv 23 (.t 9), none⟩,
⟨.bin 24 .neq (.t 23) (.c (.d true (.int .i64 0))), none⟩] [])
(.cond (.t 24) (.seq (.rg 3 false [] [⟨.mv 25 (.t 9), none⟩,
⟨.mv 6 (.c (.d true (.bool false))), none⟩,
⟨.mv 7 (.c (.d true (.int .i64 0))), none⟩,
⟨.mv 8 (.t 25), none⟩] [])
.ret) .skip)))
(.seq (.seq (.rg 4 false [] [⟨.fad 26 (.t 3) 1 0, none⟩,
⟨.load 27 (.t 26) 0, none⟩,
⟨.len 28 (.t 27), none⟩,
⟨.load 29 (.t 4) 3, none⟩,
⟨.call 30 k_preds_Check [(.t 28), (.t 29)] none, none⟩,
⟨.mv 10 (.t 30), none⟩] [])
(.seq (.rg 5 false [] [⟨.mv 31 (.t 10), none⟩,
⟨.bin 32 .neq (.t 31) (.c (.d true (.int .i64 0))), none⟩] [])
(.cond (.t 32) (.seq (.rg 6 false [] [⟨.mv 33 (.t 10), none⟩,
⟨.mv 6 (.c (.d true (.bool false))), none⟩,
⟨.mv 7 (.c (.d true (.int .i64 0))), none⟩,
⟨.mv 8 (.t 33), none⟩] [])
.ret) .skip)))
(.seq (.seq (.rg 7 false [] [⟨.mv 34 (.t 2), none⟩,
⟨.bin 35 .lss (.t 34) (.c (.d true (.int .i64 0))), none⟩,
⟨.mv 36 (.t 35), none⟩,
⟨.mv 37 (.t 2), some (36, false)⟩,
⟨.bin 38 .gtr (.t 37) (.c (.d true (.int .i64 100000))), some (36, false)⟩,
⟨.pick 39 (.t 36) (.c (.d true (.bool true))) (.t 38), none⟩] [])
(.cond (.t 39) (.seq (.rg 8 false [] [⟨.mv 6 (.c (.d true (.bool false))), none⟩,
⟨.mv 7 (.c (.d true (.int .i64 0))), none⟩,
⟨.mv 8 (.c (.d true (.int .i64 2))), none⟩] [])
.ret) .skip))
(.seq (.rg 9 false [] [⟨.fad 40 (.t 3) 1 0, none⟩,
⟨.load 41 (.t 40) 0, none⟩,
⟨.len 42 (.t 41), none⟩,
⟨.mks 43 2 1 (.t 42) (.t 42) (.k (.int .i64 0)), none⟩,
⟨.mv 11 (.t 43), none⟩] [])
(.seq (.seq (.rg 10 false [] [⟨.mv 44 (.t 11), none⟩,
⟨.len 45 (.t 44), none⟩,
⟨.mv 46 (.c (.d true (.int .i64 0))), none⟩] [])
(.block 0 (.loop c_push_Inductive_l1)))
(.seq (.rg 15 false [] [⟨.load 60 (.t 3) 6, none⟩,
⟨.load 61 (.t 4) 3, none⟩,
⟨.mv 62 (.t 11), none⟩,
⟨.call 63 k_preds_Put [(.t 60), (.t 61), (.t 62)] none, none⟩,
⟨.mv 59 (.t 63), none⟩,
⟨.xt 64 (.t 59) 0, none⟩,
⟨.xt 65 (.t 59) 1, none⟩,
⟨.xt 66 (.t 59) 2, none⟩,
⟨.alloc 13 3 [.k (.int .i64 0), .n 2, .n 2, .n 1, .n 1], none⟩,
⟨.store (.t 13) (.t 64) 6, none⟩,
⟨.mv 14 (.t 65), none⟩,
⟨.mv 15 (.t 66), none⟩] [])
(.seq (.seq (.rg 16 false [] [⟨.mv 67 (.t 15), none⟩,
⟨.bin 68 .neq (.t 67) (.c (.d true (.int .i64 0))), none⟩] [])
(.cond (.t 68) (.seq (.rg 17 false [] [⟨.mv 69 (.t 15), none⟩,
⟨.mv 6 (.c (.d true (.bool false))), none⟩,
⟨.mv 7 (.c (.d true (.int .i64 0))), none⟩,
⟨.mv 8 (.t 69), none⟩] [])
.ret) .skip))
(.seq (.rg 18 false [] [⟨.mv 16 (.c (.d true (.int .i64 0))), none⟩] [])
(.seq (.seq (.rg 19 false [] [⟨.mv 70 (.c (.d true (.int .i64 0))), none⟩] [])
(.block 2 (.loop c_push_Inductive_l2)))
(.seq (.rg 29 false [] [⟨.mv 92 (.t 16), none⟩,
⟨.mv 6 (.c (.d true (.bool true))), none⟩,
⟨.mv 7 (.t 92), none⟩,
⟨.mv 8 (.c (.d true (.int .i64 0))), none⟩] [])
.ret)))))))))))
def n_push_Inductive : Fn := ⟨c_push_Inductive, [.s 6, .s 7, .s 8], (some [false, false, false])⟩

def c_push_Invariant : C :=
(.seq (.rg 0 false [] [⟨.box 4 0 (.t 1) 2, none⟩,
⟨.alloc 6 1 [.r 2 2, .k (.int .i64 0)], none⟩,
⟨.mv 7 (.c (.d true (.int .i64 0))), none⟩] [])
(.seq (.rg 1 false [] [⟨.mv 11 (.t 0), none⟩,
⟨.load 12 (.t 4) 2, none⟩,
⟨.mv 13 (.t 2), none⟩,
⟨.call 14 k_frames_Clauses [(.t 11), (.t 12), (.t 13)] none, none⟩,
⟨.mv 10 (.t 14), none⟩,
⟨.xt 15 (.t 10) 0, none⟩,
⟨.xt 16 (.t 10) 1, none⟩,
⟨.mv 8 (.t 15), none⟩,
⟨.mv 9 (.t 16), none⟩] [])
(.seq (.seq (.rg 2 false [] [⟨.mv 17 (.t 9), none⟩,
⟨.bin 18 .neq (.t 17) (.c (.d true (.int .i64 0))), none⟩] [])
(.cond (.t 18) (.seq (.rg 3 false [] [⟨.bld 19 [.n 2, .k (.int .i64 0)] [], none⟩,
⟨.mv 20 (.t 9), none⟩,
⟨.store (.t 6) (.t 19) 3, none⟩,
⟨.mv 7 (.t 20), none⟩] [])
.ret) .skip))
(.seq (.rg 4 false [] [⟨.mv 21 (.t 0), none⟩,
⟨.mv 22 (.t 8), none⟩,
⟨.call 23 k_preds_Clauses [(.t 21), (.t 22)] none, none⟩,
⟨.xt 24 (.t 23) 0, none⟩,
⟨.xt 25 (.t 23) 1, none⟩,
⟨.store (.t 6) (.t 24) 3, none⟩,
⟨.mv 7 (.t 25), none⟩] [])
.ret))))
def n_push_Invariant : Fn := ⟨c_push_Invariant, [.c 6 3, .s 7], (some [false, false, false])⟩

def c_law40_alive : C :=
(.seq (.rg 0 false [] [⟨.mv 0 (.c (.d true (.bool false))), none⟩] [])
(.seq (.rg 1 false [] [⟨.call 14 k_law40_stays [] none, none⟩,
⟨.mv 13 (.t 14), none⟩,
⟨.xt 15 (.t 13) 0, none⟩,
⟨.xt 16 (.t 13) 1, none⟩,
⟨.alloc 1 0 [.k (.int .i64 0), .n 2, .n 2, .n 1, .n 1], none⟩,
⟨.alloc 2 1 [.n 1], none⟩,
⟨.store (.t 1) (.t 15) 6, none⟩,
⟨.store (.t 2) (.t 16) 2, none⟩] [])
(.seq (.rg 2 false [] [⟨.load 18 (.t 1) 6, none⟩,
⟨.load 19 (.t 2) 2, none⟩,
⟨.call 20 k_push_Push [(.t 18), (.t 19), (.c (.d true (.int .i64 9)))] none, none⟩,
⟨.mv 17 (.t 20), none⟩,
⟨.xt 21 (.t 17) 0, none⟩,
⟨.xt 22 (.t 17) 1, none⟩,
⟨.xt 23 (.t 17) 2, none⟩,
⟨.alloc 3 2 [.n 1], none⟩,
⟨.store (.t 3) (.t 21) 2, none⟩,
⟨.mv 4 (.t 22), none⟩,
⟨.mv 5 (.t 23), none⟩] [])
(.seq (.rg 3 false [] [⟨.load 25 (.t 3) 2, none⟩,
⟨.call 26 k_push_Fixed [(.c (.d true (.int .i64 1))), (.t 25)] none, none⟩,
⟨.mv 24 (.t 26), none⟩,
⟨.xt 27 (.t 24) 0, none⟩,
⟨.xt 28 (.t 24) 1, none⟩,
⟨.mv 6 (.t 27), none⟩,
⟨.mv 7 (.t 28), none⟩] [])
(.seq (.rg 4 false [] [⟨.load 30 (.t 3) 2, none⟩,
⟨.call 31 k_push_Invariant [(.c (.d true (.int .i64 1))), (.t 30), (.c (.d true (.int .i64 2)))] none, none⟩,
⟨.mv 29 (.t 31), none⟩,
⟨.xt 32 (.t 29) 0, none⟩,
⟨.xt 33 (.t 29) 1, none⟩,
⟨.alloc 8 3 [.n 2, .k (.int .i64 0)], none⟩,
⟨.store (.t 8) (.t 32) 3, none⟩,
⟨.mv 9 (.t 33), none⟩] [])
(.seq (.rg 5 false [] [⟨.load 35 (.t 1) 6, none⟩,
⟨.load 36 (.t 8) 3, none⟩,
⟨.call 37 k_push_Inductive [(.t 35), (.t 36), (.c (.d true (.int .i64 9)))] none, none⟩,
⟨.mv 34 (.t 37), none⟩,
⟨.xt 38 (.t 34) 0, none⟩,
⟨.xt 39 (.t 34) 1, none⟩,
⟨.xt 40 (.t 34) 2, none⟩,
⟨.mv 10 (.t 38), none⟩,
⟨.mv 11 (.t 39), none⟩,
⟨.mv 12 (.t 40), none⟩] [])
(.seq (.rg 6 false [] [⟨.mv 41 (.t 5), none⟩,
⟨.bin 42 .eql (.t 41) (.c (.d true (.int .i64 0))), none⟩,
⟨.mv 43 (.t 42), none⟩,
⟨.load 44 (.t 3) 2, some (43, true)⟩,
⟨.bsl 45 4 1 1 (.k (.int .i64 0)) [(0, (.c (.d true (.int .i64 3))))], some (43, true)⟩,
⟨.bsl 46 5 1 1 (.k (.lst 1 [])) [(0, (.t 45))], some (43, true)⟩,
⟨.bsl 47 6 1 2 (.k (.lst 1 [])) [(0, (.c (.nil 1))), (1, (.t 46))], some (43, true)⟩,
⟨.bld 48 [.n 1] [(0, 0, (.t 47))], some (43, true)⟩,
⟨.call 49 k_ref37_Same [(.t 44), (.t 48)] none, some (43, true)⟩,
⟨.pick 50 (.t 43) (.t 49) (.c (.d true (.bool false))), none⟩,
⟨.mv 51 (.t 50), none⟩,
⟨.mv 52 (.t 7), some (51, true)⟩,
⟨.bin 53 .eql (.t 52) (.c (.d true (.int .i64 0))), some (51, true)⟩,
⟨.pick 54 (.t 51) (.t 53) (.c (.d true (.bool false))), none⟩,
⟨.mv 55 (.t 54), none⟩,
⟨.mv 56 (.t 6), some (55, true)⟩,
⟨.bin 57 .eql (.t 56) (.c (.d true (.int .i64 1))), some (55, true)⟩,
⟨.pick 58 (.t 55) (.t 57) (.c (.d true (.bool false))), none⟩,
⟨.mv 59 (.t 58), none⟩,
⟨.mv 60 (.t 9), some (59, true)⟩,
⟨.bin 61 .eql (.t 60) (.c (.d true (.int .i64 0))), some (59, true)⟩,
⟨.pick 62 (.t 59) (.t 61) (.c (.d true (.bool false))), none⟩,
⟨.mv 63 (.t 62), none⟩,
⟨.mv 64 (.t 12), some (63, true)⟩,
⟨.bin 65 .eql (.t 64) (.c (.d true (.int .i64 0))), some (63, true)⟩,
⟨.pick 66 (.t 63) (.t 65) (.c (.d true (.bool false))), none⟩,
⟨.mv 67 (.t 66), none⟩,
⟨.mv 68 (.t 10), some (67, true)⟩,
⟨.pick 69 (.t 67) (.t 68) (.c (.d true (.bool false))), none⟩,
⟨.mv 0 (.t 69), none⟩] [])
.ret)))))))
def n_law40_alive : Fn := ⟨c_law40_alive, [.s 0], (some [])⟩

def c_unroll_Of_l1 : C :=
(.seq (.rg 6 false [] [⟨.bin 21 .lss (.t 20) (.t 19), none⟩] [])
(.seq (.cond (.t 21) .skip (.exit 0))
(.seq (.block 1 (.seq (.rg 7 false [.kill 5 6] [⟨.ix 22 (.t 18) (.t 20) 2, none⟩,
⟨.load 23 (.t 22) 3, none⟩,
⟨.alloc 9 5 [.k (.int .i64 0), .k (.int .i64 0)], none⟩,
⟨.store (.t 9) (.t 23) 3, none⟩] [])
(.seq (.rg 8 false [] [⟨.fad 24 (.t 9) 1 0, none⟩,
⟨.load 25 (.t 24) 0, none⟩,
⟨.mv 10 (.t 25), none⟩] [])
(.seq (.seq (.rg 9 false [] [⟨.fad 26 (.t 9) 1 0, none⟩,
⟨.load 27 (.t 26) 0, none⟩,
⟨.bin 28 .eql (.t 27) (.c (.d true (.int .i64 2))), none⟩] [])
(.cond (.t 28) (.rg 10 false [] [⟨.mv 10 (.c (.d true (.int .i64 (-1)))), none⟩] []) .skip))
(.rg 11 false [.kill 6 7] [⟨.mv 29 (.t 7), none⟩,
⟨.mv 30 (.t 10), none⟩,
⟨.bsl 31 6 1 1 (.k (.int .i64 0)) [(0, (.t 30))], none⟩,
⟨.app 32 7 1 (.t 29) (.t 31), none⟩,
⟨.mv 7 (.t 32), none⟩] [])))))
(.rg 12 false [] [⟨.bin 33 .add (.t 20) (.c (.d true (.int .i64 1))), none⟩,
⟨.mv 20 (.t 33), none⟩] []))))
def c_unroll_Of : C :=
(.seq (.rg 0 false [] [⟨.box 2 0 (.t 0) 6, none⟩,
⟨.alloc 4 1 [.k (.int .i64 0), .r 2 1, .r 3 1], none⟩,
⟨.mv 5 (.c (.d true (.int .i64 0))), none⟩] [])
(.seq (.seq (.rg 1 false [] [⟨.load 11 (.t 2) 6, none⟩,
⟨.call 12 k_gates_Check [(.t 11)] none, none⟩,
⟨.mv 6 (.t 12), none⟩] [])
(.seq (.rg 2 false [] [⟨.mv 13 (.t 6), none⟩,
⟨.bin 14 .neq (.t 13) (.c (.d true (.int .i64 0))), none⟩] [])
(.cond (.t 14) (.seq (.rg 3 false [] [⟨.bld 15 [.k (.int .i64 0), .n 1, .n 1] [], none⟩,
⟨.mv 16 (.t 6), none⟩,
⟨.store (.t 4) (.t 15) 4, none⟩,
⟨.mv 5 (.t 16), none⟩] [])
.ret) .skip)))
(.seq (.rg 4 false [] [⟨.nilr 7 4 1, none⟩] [])
(.seq (.seq (.rg 5 false [] [⟨.fad 17 (.t 2) 1 0, none⟩,
⟨.load 18 (.t 17) 0, none⟩,
⟨.len 19 (.t 18), none⟩,
⟨.mv 20 (.c (.d true (.int .i64 0))), none⟩] [])
(.block 0 (.loop c_unroll_Of_l1)))
(.seq (.rg 13 false [] [⟨.load 34 (.t 2) 6, none⟩,
⟨.mv 35 (.t 1), none⟩,
⟨.mv 36 (.t 7), none⟩,
⟨.call 37 k_unroll_made [(.t 34), (.t 35), (.t 36)] (some 30), none⟩,
⟨.xt 38 (.t 37) 0, none⟩,
⟨.xt 39 (.t 37) 1, none⟩,
⟨.store (.t 4) (.t 38) 4, none⟩,
⟨.mv 5 (.t 39), none⟩] [])
.ret)))))
def n_unroll_Of : Fn := ⟨c_unroll_Of, [.c 4 4, .s 5], (some [false, false])⟩

def c_solve_Run_l1 : C :=
(.seq (.seq (.rg 9 false [] [⟨.mv 46 (.t 11), none⟩,
⟨.mv 47 (.t 0), none⟩,
⟨.bin 48 .leq (.t 46) (.t 47), none⟩] [])
(.cond (.t 48) .skip (.exit 0)))
(.seq (.block 1 (.rg 11 false [.kill 6 7] [⟨.mv 51 (.t 10), none⟩,
⟨.mv 52 (.t 11), none⟩,
⟨.bsl 53 6 1 1 (.k (.int .i64 0)) [(0, (.t 52))], none⟩,
⟨.app 54 7 1 (.t 51) (.t 53), none⟩,
⟨.mv 10 (.t 54), none⟩] []))
(.rg 10 false [] [⟨.mv 49 (.t 11), none⟩,
⟨.bin 50 .add (.t 49) (.c (.d true (.int .i64 1))), none⟩,
⟨.mv 11 (.t 50), none⟩] [])))
def c_solve_Run_l2 : C :=
(.block 3 (.seq (.rg 12 true [.kill 8 9, .frz 50, .pur 50, .frz 51, .pur 51, .kill 50 52] [⟨.mv 56 (.t 9), none⟩,
⟨.chk 57 (.t 56), none⟩,
⟨.fad 58 (.t 57) 2 4, none⟩,
⟨.load 59 (.t 58) 4, none⟩,
⟨.mv 60 (.t 9), none⟩,
⟨.chk 61 (.t 60), none⟩,
⟨.fad 62 (.t 61) 1 0, none⟩,
⟨.load 63 (.t 62) 0, none⟩,
⟨.call 64 k_unit_Run [(.t 59), (.t 63)] (some 50), none⟩,
⟨.mv 55 (.t 64), none⟩,
⟨.xt 65 (.t 55) 0, none⟩,
⟨.xt 66 (.t 55) 1, none⟩,
⟨.xt 67 (.t 55) 2, none⟩,
⟨.alloc 12 8 [.k (.int .i64 0), .n 1, .n 1], none⟩,
⟨.store (.t 12) (.t 65) 4, none⟩,
⟨.mv 13 (.t 66), none⟩,
⟨.mv 14 (.t 67), none⟩] [[0, 1, 2, 3, 4, 5, 6, 7, 13, 8, 9, 10, 11, 12, 14, 15, 16]])
(.seq (.seq (.rg 13 false [] [⟨.mv 68 (.t 14), none⟩,
⟨.bin 69 .neq (.t 68) (.c (.d true (.int .i64 0))), none⟩] [])
(.cond (.t 69) (.seq (.rg 14 false [] [⟨.bld 70 [.k (.bool false), .n 1, .n 1, .n 1, .k (.int .i64 0)] [], none⟩,
⟨.mv 71 (.t 14), none⟩,
⟨.store (.t 6) (.t 70) 6, none⟩,
⟨.mv 7 (.t 71), none⟩] [])
.ret) .skip))
(.seq (.rg 15 false [] [⟨.mv 72 (.t 9), none⟩,
⟨.load 73 (.t 12) 4, none⟩,
⟨.chk 74 (.t 72), none⟩,
⟨.fad 75 (.t 74) 2 4, none⟩,
⟨.store (.t 75) (.t 73) 4, none⟩] [])
(.seq (.seq (.rg 16 false [] [⟨.mv 76 (.t 13), none⟩,
⟨.bin 77 .geq (.t 76) (.c (.d true (.int .i64 0))), none⟩] [])
(.cond (.t 77) (.seq (.rg 17 false [] [⟨.mv 79 (.t 9), none⟩,
⟨.call 80 k_solve_solver_fail [(.t 79)] none, none⟩,
⟨.mv 78 (.t 80), none⟩,
⟨.xt 81 (.t 78) 0, none⟩,
⟨.xt 82 (.t 78) 1, none⟩,
⟨.mv 15 (.t 81), none⟩,
⟨.mv 16 (.t 82), none⟩] [])
(.seq (.seq (.rg 18 false [] [⟨.mv 83 (.t 16), none⟩,
⟨.bin 84 .eql (.t 83) (.c (.d true (.int .i64 0))), none⟩,
⟨.mv 85 (.t 84), none⟩,
⟨.mv 86 (.t 9), some (85, true)⟩,
⟨.chk 87 (.t 86), some (85, true)⟩,
⟨.fad 88 (.t 87) 5 6, some (85, true)⟩,
⟨.fad 89 (.t 88) 4 0, some (85, true)⟩,
⟨.load 90 (.t 89) 0, some (85, true)⟩,
⟨.mv 91 (.t 2), some (85, true)⟩,
⟨.bin 92 .gtr (.t 90) (.t 91), some (85, true)⟩,
⟨.pick 93 (.t 85) (.t 92) (.c (.d true (.bool false))), none⟩] [])
(.cond (.t 93) (.rg 19 false [] [⟨.mv 16 (.c (.d true (.int .i64 55))), none⟩] []) .skip))
(.seq (.seq (.rg 20 false [] [⟨.mv 94 (.t 16), none⟩,
⟨.bin 95 .neq (.t 94) (.c (.d true (.int .i64 0))), none⟩] [])
(.cond (.t 95) (.seq (.rg 21 false [] [⟨.bld 96 [.k (.bool false), .n 1, .n 1, .n 1, .k (.int .i64 0)] [], none⟩,
⟨.mv 97 (.t 16), none⟩,
⟨.store (.t 6) (.t 96) 6, none⟩,
⟨.mv 7 (.t 97), none⟩] [])
.ret) .skip))
(.seq (.seq (.rg 22 false [] [⟨.mv 98 (.t 15), none⟩,
⟨.un 99 .not (.t 98), none⟩] [])
(.cond (.t 99) (.seq (.rg 23 false [] [⟨.mv 100 (.t 9), none⟩,
⟨.chk 101 (.t 100), none⟩,
⟨.fad 102 (.t 101) 5 6, none⟩,
⟨.load 103 (.t 102) 6, none⟩,
⟨.store (.t 6) (.t 103) 6, none⟩,
⟨.mv 7 (.c (.d true (.int .i64 0))), none⟩] [])
.ret) .skip))
(.exit 3))))) .skip))
(.seq (.rg 24 false [] [⟨.mv 104 (.t 9), none⟩,
⟨.mv 105 (.t 10), none⟩,
⟨.call 106 k_solve_solver_choose [(.t 104), (.t 105)] none, none⟩,
⟨.un 107 .not (.t 106), none⟩] [])
(.cond (.t 107) (.seq (.rg 25 false [] [⟨.mv 108 (.t 9), none⟩,
⟨.call 109 k_solve_solver_model [(.t 108)] none, none⟩] [])
(.seq (.rg 26 false [] [⟨.mv 110 (.t 9), none⟩,
⟨.chk 111 (.t 110), none⟩,
⟨.fad 112 (.t 111) 5 6, none⟩,
⟨.load 113 (.t 112) 6, none⟩,
⟨.store (.t 6) (.t 113) 6, none⟩,
⟨.mv 7 (.c (.d true (.int .i64 0))), none⟩] [])
.ret)) .skip)))))))
def c_solve_Run : C :=
(.seq (.rg 0 false [] [⟨.alloc 6 0 [.k (.bool false), .r 1 1, .r 2 1, .r 3 1, .k (.int .i64 0)], none⟩,
⟨.mv 7 (.c (.d true (.int .i64 0))), none⟩] [])
(.seq (.seq (.rg 1 false [] [⟨.mv 17 (.t 0), none⟩,
⟨.bin 18 .lss (.t 17) (.c (.d true (.int .i64 0))), none⟩,
⟨.mv 19 (.t 18), none⟩,
⟨.mv 20 (.t 0), some (19, false)⟩,
⟨.bin 21 .gtr (.t 20) (.c (.d true (.int .i64 4000))), some (19, false)⟩,
⟨.pick 22 (.t 19) (.c (.d true (.bool true))) (.t 21), none⟩,
⟨.mv 23 (.t 22), none⟩,
⟨.mv 24 (.t 2), some (23, false)⟩,
⟨.bin 25 .lss (.t 24) (.c (.d true (.int .i64 0))), some (23, false)⟩,
⟨.pick 26 (.t 23) (.c (.d true (.bool true))) (.t 25), none⟩,
⟨.mv 27 (.t 26), none⟩,
⟨.mv 28 (.t 2), some (27, false)⟩,
⟨.bin 29 .gtr (.t 28) (.c (.d true (.int .i64 100000))), some (27, false)⟩,
⟨.pick 30 (.t 27) (.c (.d true (.bool true))) (.t 29), none⟩] [])
(.cond (.t 30) (.seq (.rg 2 false [] [⟨.bld 31 [.k (.bool false), .n 1, .n 1, .n 1, .k (.int .i64 0)] [], none⟩,
⟨.store (.t 6) (.t 31) 6, none⟩,
⟨.mv 7 (.c (.d true (.int .i64 2))), none⟩] [])
.ret) .skip))
(.seq (.seq (.rg 3 false [] [⟨.mv 32 (.t 0), none⟩,
⟨.mv 33 (.t 1), none⟩,
⟨.call 34 k_solve_check [(.t 32), (.t 33)] none, none⟩,
⟨.mv 8 (.t 34), none⟩] [])
(.seq (.rg 4 false [] [⟨.mv 35 (.t 8), none⟩,
⟨.bin 36 .neq (.t 35) (.c (.d true (.int .i64 0))), none⟩] [])
(.cond (.t 36) (.seq (.rg 5 false [] [⟨.bld 37 [.k (.bool false), .n 1, .n 1, .n 1, .k (.int .i64 0)] [], none⟩,
⟨.mv 38 (.t 8), none⟩,
⟨.store (.t 6) (.t 37) 6, none⟩,
⟨.mv 7 (.t 38), none⟩] [])
.ret) .skip)))
(.seq (.rg 6 false [] [⟨.mv 39 (.t 0), none⟩,
⟨.mv 40 (.t 1), none⟩,
⟨.call 41 k_slices_Clone_of_Lint [(.t 40)] (some 40), none⟩,
⟨.mv 42 (.t 0), none⟩,
⟨.bld 43 [.k (.int .i64 0), .n 1, .n 1] [(0, 0, (.t 42))], none⟩,
⟨.bld 44 [.k (.int .i64 0), .n 1, .k (.int .i64 0), .n 1, .n 1, .k (.bool false), .n 1, .n 1, .n 1, .k (.int .i64 0)] [(0, 0, (.t 39)), (1, 0, (.t 41)), (2, 4, (.t 43))], none⟩,
⟨.box 45 4 (.t 44) 11, none⟩,
⟨.mv 9 (.t 45), none⟩] [])
(.seq (.rg 7 false [] [⟨.nilr 10 5 1, none⟩] [])
(.seq (.seq (.rg 8 false [] [⟨.mv 11 (.c (.d true (.int .i64 1))), none⟩] [])
(.block 0 (.loop c_solve_Run_l1)))
(.block 2 (.loop c_solve_Run_l2))))))))
def n_solve_Run : Fn := ⟨c_solve_Run, [.c 6 6, .s 7], (some [false, false, false])⟩

def c_unroll_Trace_l1 : C :=
(.seq (.seq (.rg 16 false [] [⟨.mv 58 (.t 14), none⟩,
⟨.mv 59 (.t 11), none⟩,
⟨.fad 60 (.t 3) 1 0, none⟩,
⟨.load 61 (.t 60) 0, none⟩,
⟨.len 62 (.t 61), none⟩,
⟨.bin 63 .add (.t 59) (.t 62), none⟩,
⟨.bin 64 .lss (.t 58) (.t 63), none⟩] [])
(.cond (.t 64) .skip (.exit 2)))
(.seq (.block 3 (.seq (.rg 18 false [] [⟨.mv 67 (.t 13), none⟩,
⟨.mv 68 (.t 14), none⟩,
⟨.ix 69 (.t 67) (.t 68) 1, none⟩,
⟨.load 70 (.t 69) 0, none⟩,
⟨.bin 71 .lss (.t 70) (.c (.d true (.int .i64 0))), none⟩,
⟨.mv 72 (.t 71), none⟩,
⟨.mv 73 (.t 14), some (72, true)⟩,
⟨.mv 74 (.t 11), some (72, true)⟩,
⟨.bin 75 .lss (.t 73) (.t 74), some (72, true)⟩,
⟨.mv 76 (.t 75), some (72, true)⟩,
⟨.mv 77 (.t 12), some (76, false)⟩,
⟨.bin 78 .eql (.t 77) (.c (.d true (.int .i64 0))), some (76, false)⟩,
⟨.pick 79 (.t 76) (.c (.d true (.bool true))) (.t 78), some (72, true)⟩,
⟨.pick 80 (.t 72) (.t 79) (.c (.d true (.bool false))), none⟩] [])
(.cond (.t 80) (.seq (.rg 19 false [] [⟨.bld 81 [.n 1, .n 1] [], none⟩,
⟨.store (.t 6) (.t 81) 3, none⟩,
⟨.mv 7 (.c (.d true (.int .i64 8))), none⟩] [])
.ret) .skip)))
(.rg 17 false [] [⟨.mv 65 (.t 14), none⟩,
⟨.bin 66 .add (.t 65) (.c (.d true (.int .i64 1))), none⟩,
⟨.mv 14 (.t 66), none⟩] [])))
def c_unroll_Trace_l2 : C :=
(.seq (.rg 11 false [] [⟨.bin 48 .lss (.t 47) (.t 46), none⟩] [])
(.seq (.cond (.t 48) .skip (.exit 0))
(.seq (.block 1 (.seq (.rg 12 false [] [⟨.mv 49 (.t 47), none⟩,
⟨.ix 50 (.t 45) (.t 47) 1, none⟩,
⟨.load 51 (.t 50) 0, none⟩,
⟨.mv 12 (.t 49), none⟩,
⟨.mv 13 (.t 51), none⟩] [])
(.seq (.seq (.rg 13 false [] [⟨.mv 52 (.t 13), none⟩,
⟨.len 53 (.t 52), none⟩,
⟨.mv 54 (.t 8), none⟩,
⟨.bin 55 .add (.t 54) (.c (.d true (.int .i64 1))), none⟩,
⟨.bin 56 .neq (.t 53) (.t 55), none⟩] [])
(.cond (.t 56) (.seq (.rg 14 false [] [⟨.bld 57 [.n 1, .n 1] [], none⟩,
⟨.store (.t 6) (.t 57) 3, none⟩,
⟨.mv 7 (.c (.d true (.int .i64 8))), none⟩] [])
.ret) .skip))
(.seq (.rg 15 false [] [⟨.mv 14 (.c (.d true (.int .i64 1))), none⟩] [])
(.block 2 (.loop c_unroll_Trace_l1))))))
(.rg 20 false [] [⟨.bin 82 .add (.t 47) (.c (.d true (.int .i64 1))), none⟩,
⟨.mv 47 (.t 82), none⟩] []))))
def c_unroll_Trace_l3 : C :=
(.seq (.rg 25 false [] [⟨.bin 93 .lss (.t 92) (.t 91), none⟩] [])
(.seq (.cond (.t 93) .skip (.exit 4))
(.seq (.block 5 (.seq (.rg 26 false [] [⟨.mv 94 (.t 92), none⟩,
⟨.mv 16 (.t 94), none⟩] [])
(.rg 27 true [.kill 8 9] [⟨.fad 95 (.t 15) 0 0, none⟩,
⟨.load 96 (.t 95) 0, none⟩,
⟨.fad 97 (.t 4) 1 0, none⟩,
⟨.load 98 (.t 97) 0, none⟩,
⟨.ix 99 (.t 98) (.c (.d true (.int .i64 0))) 1, none⟩,
⟨.load 100 (.t 99) 0, none⟩,
⟨.mv 101 (.t 11), none⟩,
⟨.mv 102 (.t 16), none⟩,
⟨.bin 103 .add (.t 101) (.t 102), none⟩,
⟨.ix 104 (.t 100) (.t 103) 1, none⟩,
⟨.load 105 (.t 104) 0, none⟩,
⟨.mv 106 (.t 2), none⟩,
⟨.call 107 k_unroll_value [(.t 105), (.t 106)] none, none⟩,
⟨.bsl 108 8 1 1 (.k (.bool false)) [(0, (.t 107))], none⟩,
⟨.app 109 9 1 (.t 96) (.t 108), none⟩,
⟨.fad 110 (.t 15) 0 0, none⟩,
⟨.store (.t 110) (.t 109) 0, none⟩] [])))
(.rg 28 false [] [⟨.bin 111 .add (.t 92) (.c (.d true (.int .i64 1))), none⟩,
⟨.mv 92 (.t 111), none⟩] []))))
def c_unroll_Trace_l4 : C :=
(.seq (.seq (.rg 34 false [] [⟨.mv 119 (.t 20), none⟩,
⟨.mv 120 (.t 11), none⟩,
⟨.bin 121 .lss (.t 119) (.t 120), none⟩] [])
(.cond (.t 121) .skip (.exit 8)))
(.seq (.block 9 (.rg 36 false [.kill 11 12] [⟨.mv 124 (.t 19), none⟩,
⟨.mv 125 (.t 18), none⟩,
⟨.mv 126 (.t 20), none⟩,
⟨.ix 127 (.t 125) (.t 126) 1, none⟩,
⟨.load 128 (.t 127) 0, none⟩,
⟨.mv 129 (.t 2), none⟩,
⟨.call 130 k_unroll_value [(.t 128), (.t 129)] none, none⟩,
⟨.bsl 131 11 1 1 (.k (.bool false)) [(0, (.t 130))], none⟩,
⟨.app 132 12 1 (.t 124) (.t 131), none⟩,
⟨.mv 19 (.t 132), none⟩] []))
(.rg 35 false [] [⟨.mv 122 (.t 20), none⟩,
⟨.bin 123 .add (.t 122) (.c (.d true (.int .i64 1))), none⟩,
⟨.mv 20 (.t 123), none⟩] [])))
def c_unroll_Trace_l5 : C :=
(.seq (.rg 30 false [] [⟨.bin 116 .lss (.t 115) (.t 114), none⟩] [])
(.seq (.cond (.t 116) .skip (.exit 6))
(.seq (.block 7 (.seq (.rg 31 false [] [⟨.ix 117 (.t 113) (.t 115) 1, none⟩,
⟨.load 118 (.t 117) 0, none⟩,
⟨.mv 18 (.t 118), none⟩] [])
(.seq (.rg 32 false [.kill 10 11] [⟨.nilr 19 10 1, none⟩] [])
(.seq (.seq (.rg 33 false [] [⟨.mv 20 (.c (.d true (.int .i64 1))), none⟩] [])
(.block 8 (.loop c_unroll_Trace_l4)))
(.rg 37 false [.kill 13 14] [⟨.fad 133 (.t 15) 1 0, none⟩,
⟨.load 134 (.t 133) 0, none⟩,
⟨.mv 135 (.t 19), none⟩,
⟨.bsl 136 13 1 1 (.k (.lst 1 [])) [(0, (.t 135))], none⟩,
⟨.app 137 14 1 (.t 134) (.t 136), none⟩,
⟨.fad 138 (.t 15) 1 0, none⟩,
⟨.store (.t 138) (.t 137) 0, none⟩] [])))))
(.rg 38 false [] [⟨.bin 139 .add (.t 115) (.c (.d true (.int .i64 1))), none⟩,
⟨.mv 115 (.t 139), none⟩] []))))
def c_unroll_Trace : C :=
(.seq (.rg 0 false [] [⟨.box 3 0 (.t 0) 6, none⟩,
⟨.box 4 1 (.t 1) 4, none⟩,
⟨.alloc 6 2 [.r 3 1, .r 4 1], none⟩,
⟨.mv 7 (.c (.d true (.int .i64 0))), none⟩] [])
(.seq (.rg 1 false [] [⟨.load 22 (.t 3) 6, none⟩,
⟨.call 23 k_gates_Vars [(.t 22)] none, none⟩,
⟨.mv 21 (.t 23), none⟩,
⟨.xt 24 (.t 21) 0, none⟩,
⟨.xt 25 (.t 21) 1, none⟩,
⟨.mv 8 (.t 24), none⟩,
⟨.mv 9 (.t 25), none⟩] [])
(.seq (.seq (.rg 2 false [] [⟨.mv 26 (.t 9), none⟩,
⟨.bin 27 .neq (.t 26) (.c (.d true (.int .i64 0))), none⟩] [])
(.cond (.t 27) (.seq (.rg 3 false [] [⟨.bld 28 [.n 1, .n 1] [], none⟩,
⟨.mv 29 (.t 9), none⟩,
⟨.store (.t 6) (.t 28) 3, none⟩,
⟨.mv 7 (.t 29), none⟩] [])
.ret) .skip))
(.seq (.seq (.rg 4 false [] [⟨.load 30 (.t 4) 4, none⟩,
⟨.call 31 k_tseitin_Check [(.t 30)] none, none⟩,
⟨.mv 10 (.t 31), none⟩] [])
(.seq (.rg 5 false [] [⟨.mv 32 (.t 10), none⟩,
⟨.bin 33 .neq (.t 32) (.c (.d true (.int .i64 0))), none⟩] [])
(.cond (.t 33) (.seq (.rg 6 false [] [⟨.bld 34 [.n 1, .n 1] [], none⟩,
⟨.mv 35 (.t 10), none⟩,
⟨.store (.t 6) (.t 34) 3, none⟩,
⟨.mv 7 (.t 35), none⟩] [])
.ret) .skip)))
(.seq (.seq (.rg 7 false [] [⟨.fad 36 (.t 4) 1 0, none⟩,
⟨.load 37 (.t 36) 0, none⟩,
⟨.len 38 (.t 37), none⟩,
⟨.bin 39 .eql (.t 38) (.c (.d true (.int .i64 0))), none⟩] [])
(.cond (.t 39) (.seq (.rg 8 false [] [⟨.bld 40 [.n 1, .n 1] [], none⟩,
⟨.store (.t 6) (.t 40) 3, none⟩,
⟨.mv 7 (.c (.d true (.int .i64 8))), none⟩] [])
.ret) .skip))
(.seq (.rg 9 false [] [⟨.fad 41 (.t 3) 0 0, none⟩,
⟨.load 42 (.t 41) 0, none⟩,
⟨.bin 43 .add (.c (.d true (.int .i64 1))) (.t 42), none⟩,
⟨.mv 11 (.t 43), none⟩] [])
(.seq (.seq (.rg 10 false [] [⟨.fad 44 (.t 4) 1 0, none⟩,
⟨.load 45 (.t 44) 0, none⟩,
⟨.len 46 (.t 45), none⟩,
⟨.mv 47 (.c (.d true (.int .i64 0))), none⟩] [])
(.block 0 (.loop c_unroll_Trace_l2)))
(.seq (.seq (.rg 21 false [] [⟨.mv 83 (.t 2), none⟩,
⟨.len 84 (.t 83), none⟩,
⟨.fad 85 (.t 4) 0 0, none⟩,
⟨.load 86 (.t 85) 0, none⟩,
⟨.bin 87 .neq (.t 84) (.t 86), none⟩] [])
(.cond (.t 87) (.seq (.rg 22 false [] [⟨.bld 88 [.n 1, .n 1] [], none⟩,
⟨.store (.t 6) (.t 88) 3, none⟩,
⟨.mv 7 (.c (.d true (.int .i64 2))), none⟩] [])
.ret) .skip))
(.seq (.rg 23 false [] [⟨.alloc 15 5 [.r 6 1, .r 7 1], none⟩] [])
(.seq (.seq (.rg 24 false [] [⟨.fad 89 (.t 3) 1 0, none⟩,
⟨.load 90 (.t 89) 0, none⟩,
⟨.len 91 (.t 90), none⟩,
⟨.mv 92 (.c (.d true (.int .i64 0))), none⟩] [])
(.block 4 (.loop c_unroll_Trace_l3)))
(.seq (.seq (.rg 29 false [] [⟨.fad 112 (.t 4) 1 0, none⟩,
⟨.load 113 (.t 112) 0, none⟩,
⟨.len 114 (.t 113), none⟩,
⟨.mv 115 (.c (.d true (.int .i64 0))), none⟩] [])
(.block 6 (.loop c_unroll_Trace_l5)))
(.seq (.rg 39 false [] [⟨.load 140 (.t 15) 3, none⟩,
⟨.store (.t 6) (.t 140) 3, none⟩,
⟨.mv 7 (.c (.d true (.int .i64 0))), none⟩] [])
.ret))))))))))))
def n_unroll_Trace : Fn := ⟨c_unroll_Trace, [.c 6 3, .s 7], (some [false, false, false])⟩

def c_frames_asked : C :=
(.seq (.rg 0 false [] [⟨.box 5 0 (.t 1) 2, none⟩,
⟨.mv 8 (.c (.d true (.int .i64 0))), none⟩] [])
(.seq (.seq (.rg 1 false [] [⟨.mv 10 (.t 0), none⟩,
⟨.load 11 (.t 5) 2, none⟩,
⟨.call 12 k_frames_Check [(.t 10), (.t 11)] none, none⟩,
⟨.mv 9 (.t 12), none⟩] [])
(.seq (.rg 2 false [] [⟨.mv 13 (.t 9), none⟩,
⟨.bin 14 .neq (.t 13) (.c (.d true (.int .i64 0))), none⟩] [])
(.cond (.t 14) (.seq (.rg 3 false [] [⟨.mv 15 (.t 9), none⟩,
⟨.mv 8 (.t 15), none⟩] [])
.ret) .skip)))
(.seq (.seq (.rg 4 false [] [⟨.mv 16 (.t 2), none⟩,
⟨.mv 17 (.t 3), none⟩,
⟨.bin 18 .lss (.t 16) (.t 17), none⟩,
⟨.mv 19 (.t 18), none⟩,
⟨.mv 20 (.t 2), some (19, false)⟩,
⟨.fad 21 (.t 5) 0 0, some (19, false)⟩,
⟨.load 22 (.t 21) 0, some (19, false)⟩,
⟨.len 23 (.t 22), some (19, false)⟩,
⟨.bin 24 .gtr (.t 20) (.t 23), some (19, false)⟩,
⟨.pick 25 (.t 19) (.c (.d true (.bool true))) (.t 24), none⟩] [])
(.cond (.t 25) (.seq (.rg 5 false [] [⟨.mv 8 (.c (.d true (.int .i64 2))), none⟩] [])
.ret) .skip))
(.seq (.rg 6 false [] [⟨.mv 8 (.c (.d true (.int .i64 0))), none⟩] [])
.ret))))
def n_frames_asked : Fn := ⟨c_frames_asked, [.s 8], (some [false, false, false, false])⟩

def c_frames_all_l1 : C :=
(.seq (.rg 6 false [] [⟨.bin 23 .lss (.t 22) (.t 21), none⟩] [])
(.seq (.cond (.t 23) .skip (.exit 2))
(.seq (.block 3 (.seq (.rg 7 false [] [⟨.ix 24 (.t 20) (.t 22) 1, none⟩,
⟨.load 25 (.t 24) 0, none⟩,
⟨.mv 9 (.t 25), none⟩] [])
(.rg 8 false [.kill 2 3] [⟨.mv 26 (.t 5), none⟩,
⟨.mv 27 (.t 9), none⟩,
⟨.call 28 k_slices_Clone_of_int [(.t 27)] none, none⟩,
⟨.bsl 29 2 1 1 (.k (.lst 1 [])) [(0, (.t 28))], none⟩,
⟨.app 30 3 1 (.t 26) (.t 29), none⟩,
⟨.mv 5 (.t 30), none⟩] [])))
(.rg 9 false [] [⟨.bin 31 .add (.t 22) (.c (.d true (.int .i64 1))), none⟩,
⟨.mv 22 (.t 31), none⟩] []))))
def c_frames_all_l2 : C :=
(.seq (.rg 3 false [] [⟨.bin 17 .lss (.t 16) (.t 15), none⟩] [])
(.seq (.cond (.t 17) .skip (.exit 0))
(.seq (.block 1 (.seq (.rg 4 false [] [⟨.ix 18 (.t 14) (.t 16) 1, none⟩,
⟨.load 19 (.t 18) 0, none⟩,
⟨.mv 7 (.t 19), none⟩] [])
(.seq (.rg 5 false [] [⟨.mv 20 (.t 7), none⟩,
⟨.len 21 (.t 20), none⟩,
⟨.mv 22 (.c (.d true (.int .i64 0))), none⟩] [])
(.block 2 (.loop c_frames_all_l1)))))
(.rg 10 false [] [⟨.bin 32 .add (.t 16) (.c (.d true (.int .i64 1))), none⟩,
⟨.mv 16 (.t 32), none⟩] []))))
def c_frames_all : C :=
(.seq (.rg 0 false [] [⟨.box 2 0 (.t 0) 2, none⟩,
⟨.mv 4 (.c (.nil 1)), none⟩] [])
(.seq (.rg 1 false [] [⟨.nilr 5 1 1, none⟩] [])
(.seq (.seq (.rg 2 false [] [⟨.fad 10 (.t 2) 0 0, none⟩,
⟨.load 11 (.t 10) 0, none⟩,
⟨.mv 12 (.t 1), none⟩,
⟨.bin 13 .sub (.t 12) (.c (.d true (.int .i64 1))), none⟩,
⟨.slc 14 1 (.t 11) (some (.t 13)) none none, none⟩,
⟨.len 15 (.t 14), none⟩,
⟨.mv 16 (.c (.d true (.int .i64 0))), none⟩] [])
(.block 0 (.loop c_frames_all_l2)))
(.seq (.rg 11 false [] [⟨.mv 33 (.t 5), none⟩,
⟨.mv 4 (.t 33), none⟩] [])
.ret))))
def n_frames_all : Fn := ⟨c_frames_all, [.s 4], (some [false, false])⟩

def c_clause_Check_l1 : C :=
(.seq (.rg 4 false [] [⟨.bin 16 .lss (.t 15) (.t 14), none⟩] [])
(.seq (.cond (.t 16) .skip (.exit 0))
(.seq (.block 1 (.seq (.rg 5 false [] [⟨.mv 17 (.t 15), none⟩,
⟨.ix 18 (.t 13) (.t 15) 1, none⟩,
⟨.load 19 (.t 18) 0, none⟩,
⟨.mv 5 (.t 17), none⟩,
⟨.mv 6 (.t 19), none⟩] [])
(.seq (.rg 6 false [] [⟨.mv 20 (.t 0), none⟩,
⟨.mv 21 (.t 6), none⟩,
⟨.call 22 k_clause_known [(.t 20), (.t 21)] none, none⟩,
⟨.un 23 .not (.t 22), none⟩,
⟨.mv 24 (.t 23), none⟩,
⟨.mv 25 (.t 5), some (24, false)⟩,
⟨.bin 26 .gtr (.t 25) (.c (.d true (.int .i64 0))), some (24, false)⟩,
⟨.mv 27 (.t 26), some (24, false)⟩,
⟨.mv 28 (.t 6), some (27, true)⟩,
⟨.mv 29 (.t 1), some (27, true)⟩,
⟨.mv 30 (.t 5), some (27, true)⟩,
⟨.bin 31 .sub (.t 30) (.c (.d true (.int .i64 1))), some (27, true)⟩,
⟨.ix 32 (.t 29) (.t 31) 1, some (27, true)⟩,
⟨.load 33 (.t 32) 0, some (27, true)⟩,
⟨.bin 34 .leq (.t 28) (.t 33), some (27, true)⟩,
⟨.mv 35 (.t 34), some (27, true)⟩,
⟨.mv 36 (.t 6), some (35, false)⟩,
⟨.bin 37 .quo (.t 36) (.c (.d true (.int .i64 2))), some (35, false)⟩,
⟨.mv 38 (.t 1), some (35, false)⟩,
⟨.mv 39 (.t 5), some (35, false)⟩,
⟨.bin 40 .sub (.t 39) (.c (.d true (.int .i64 1))), some (35, false)⟩,
⟨.ix 41 (.t 38) (.t 40) 1, some (35, false)⟩,
⟨.load 42 (.t 41) 0, some (35, false)⟩,
⟨.bin 43 .quo (.t 42) (.c (.d true (.int .i64 2))), some (35, false)⟩,
⟨.bin 44 .eql (.t 37) (.t 43), some (35, false)⟩,
⟨.pick 45 (.t 35) (.c (.d true (.bool true))) (.t 44), some (27, true)⟩,
⟨.pick 46 (.t 27) (.t 45) (.c (.d true (.bool false))), some (24, false)⟩,
⟨.pick 47 (.t 24) (.c (.d true (.bool true))) (.t 46), none⟩] [])
(.cond (.t 47) (.seq (.rg 7 false [] [⟨.mv 4 (.c (.d true (.int .i64 8))), none⟩] [])
.ret) .skip))))
(.rg 8 false [] [⟨.bin 48 .add (.t 15) (.c (.d true (.int .i64 1))), none⟩,
⟨.mv 15 (.t 48), none⟩] []))))
def c_clause_Check : C :=
(.seq (.rg 0 false [] [⟨.mv 4 (.c (.d true (.int .i64 0))), none⟩] [])
(.seq (.seq (.rg 1 false [] [⟨.mv 7 (.t 0), none⟩,
⟨.bin 8 .lss (.t 7) (.c (.d true (.int .i64 0))), none⟩,
⟨.mv 9 (.t 8), none⟩,
⟨.mv 10 (.t 0), some (9, false)⟩,
⟨.bin 11 .gtr (.t 10) (.c (.d true (.int .i64 4000))), some (9, false)⟩,
⟨.pick 12 (.t 9) (.c (.d true (.bool true))) (.t 11), none⟩] [])
(.cond (.t 12) (.seq (.rg 2 false [] [⟨.mv 4 (.c (.d true (.int .i64 2))), none⟩] [])
.ret) .skip))
(.seq (.seq (.rg 3 false [] [⟨.mv 13 (.t 1), none⟩,
⟨.len 14 (.t 13), none⟩,
⟨.mv 15 (.c (.d true (.int .i64 0))), none⟩] [])
(.block 0 (.loop c_clause_Check_l1)))
(.seq (.rg 9 false [] [⟨.mv 4 (.c (.d true (.int .i64 0))), none⟩] [])
.ret))))
def n_clause_Check : Fn := ⟨c_clause_Check, [.s 4], (some [false, false])⟩

def c_slices_ContainsFunc_of_Lint : C :=
(.seq (.rg 0 false [] [⟨.mv 4 (.c (.d true (.bool false))), none⟩] [])
(.seq (.rg 1 false [] [⟨.mv 5 (.t 0), none⟩,
⟨.mv 6 (.t 1), none⟩,
⟨.call 7 k_slices_IndexFunc_of_Lint [(.t 5), (.t 6)] none, none⟩,
⟨.bin 8 .geq (.t 7) (.c (.d true (.int .i64 0))), none⟩,
⟨.mv 4 (.t 8), none⟩] [])
.ret))
def n_slices_ContainsFunc_of_Lint : Fn := ⟨c_slices_ContainsFunc_of_Lint, [.s 4], none⟩

def c_frames_Put_1 : C :=
(.seq (.rg 0 false [] [⟨.mv 3 (.c (.d true (.bool false))), none⟩] [])
(.seq (.rg 1 false [] [⟨.mv 4 (.t 0), none⟩,
⟨.load 5 (.t 1) 0, none⟩,
⟨.call 6 k_frames_part [(.t 4), (.t 5)] none, none⟩,
⟨.mv 3 (.t 6), none⟩] [])
.ret))
def n_frames_Put_1 : Fn := ⟨c_frames_Put_1, [.s 3], none⟩

def c_frames_part_l1 : C :=
(.seq (.rg 2 false [] [⟨.bin 12 .lss (.t 11) (.t 10), none⟩] [])
(.seq (.cond (.t 12) .skip (.exit 0))
(.seq (.block 1 (.seq (.rg 3 false [] [⟨.ix 13 (.t 9) (.t 11) 1, none⟩,
⟨.load 14 (.t 13) 0, none⟩,
⟨.mv 6 (.t 14), none⟩] [])
(.seq (.rg 4 false [] [⟨.mv 16 (.t 1), none⟩,
⟨.mv 17 (.t 6), none⟩,
⟨.call 18 k_slices_BinarySearch_of_int [(.t 16), (.t 17)] none, none⟩,
⟨.mv 15 (.t 18), none⟩,
⟨.xt 19 (.t 15) 0, none⟩,
⟨.xt 20 (.t 15) 1, none⟩,
⟨.mv 7 (.t 19), none⟩,
⟨.mv 8 (.t 20), none⟩] [])
(.seq (.rg 5 false [] [⟨.mv 21 (.t 8), none⟩,
⟨.un 22 .not (.t 21), none⟩] [])
(.cond (.t 22) (.seq (.rg 6 false [] [⟨.mv 4 (.c (.d true (.bool false))), none⟩] [])
.ret) .skip)))))
(.rg 7 false [] [⟨.bin 23 .add (.t 11) (.c (.d true (.int .i64 1))), none⟩,
⟨.mv 11 (.t 23), none⟩] []))))
def c_frames_part : C :=
(.seq (.rg 0 false [] [⟨.mv 4 (.c (.d true (.bool false))), none⟩] [])
(.seq (.seq (.rg 1 false [] [⟨.mv 9 (.t 0), none⟩,
⟨.len 10 (.t 9), none⟩,
⟨.mv 11 (.c (.d true (.int .i64 0))), none⟩] [])
(.block 0 (.loop c_frames_part_l1)))
(.seq (.rg 8 false [] [⟨.mv 4 (.c (.d true (.bool true))), none⟩] [])
.ret)))
def n_frames_part : Fn := ⟨c_frames_part, [.s 4], (some [false, false])⟩

def c_frames_count_l1 : C :=
(.seq (.rg 3 false [] [⟨.bin 10 .lss (.t 9) (.t 8), none⟩] [])
(.seq (.cond (.t 10) .skip (.exit 0))
(.seq (.block 1 (.seq (.rg 4 false [] [⟨.ix 11 (.t 7) (.t 9) 1, none⟩,
⟨.load 12 (.t 11) 0, none⟩,
⟨.mv 5 (.t 12), none⟩] [])
(.rg 5 false [] [⟨.mv 13 (.t 3), none⟩,
⟨.mv 14 (.t 5), none⟩,
⟨.len 15 (.t 14), none⟩,
⟨.bin 16 .add (.t 13) (.t 15), none⟩,
⟨.mv 3 (.t 16), none⟩] [])))
(.rg 6 false [] [⟨.bin 17 .add (.t 9) (.c (.d true (.int .i64 1))), none⟩,
⟨.mv 9 (.t 17), none⟩] []))))
def c_frames_count : C :=
(.seq (.rg 0 false [] [⟨.box 1 0 (.t 0) 2, none⟩,
⟨.mv 2 (.c (.d true (.int .i64 0))), none⟩] [])
(.seq (.rg 1 false [] [⟨.mv 3 (.c (.d true (.int .i64 0))), none⟩] [])
(.seq (.seq (.rg 2 false [] [⟨.fad 6 (.t 1) 0 0, none⟩,
⟨.load 7 (.t 6) 0, none⟩,
⟨.len 8 (.t 7), none⟩,
⟨.mv 9 (.c (.d true (.int .i64 0))), none⟩] [])
(.block 0 (.loop c_frames_count_l1)))
(.seq (.rg 7 false [] [⟨.mv 18 (.t 3), none⟩,
⟨.mv 2 (.t 18), none⟩] [])
.ret))))
def n_frames_count : Fn := ⟨c_frames_count, [.s 2], (some [false])⟩

def c_slices_ContainsFunc_of_int : C :=
(.seq (.rg 0 false [] [⟨.mv 4 (.c (.d true (.bool false))), none⟩] [])
(.seq (.rg 1 false [] [⟨.mv 5 (.t 0), none⟩,
⟨.mv 6 (.t 1), none⟩,
⟨.call 7 k_slices_IndexFunc_of_int [(.t 5), (.t 6)] none, none⟩,
⟨.bin 8 .geq (.t 7) (.c (.d true (.int .i64 0))), none⟩,
⟨.mv 4 (.t 8), none⟩] [])
.ret))
def n_slices_ContainsFunc_of_int : Fn := ⟨c_slices_ContainsFunc_of_int, [.s 4], none⟩

def c_gates_Check_l1 : C :=
(.seq (.rg 11 false [] [⟨.bin 55 .lss (.t 54) (.t 53), none⟩] [])
(.seq (.cond (.t 55) .skip (.exit 0))
(.seq (.block 1 (.seq (.rg 12 false [.kill 3 4] [⟨.mv 56 (.t 54), none⟩,
⟨.ix 57 (.t 52) (.t 54) 2, none⟩,
⟨.load 58 (.t 57) 3, none⟩,
⟨.alloc 7 3 [.k (.int .i64 0), .k (.int .i64 0)], none⟩,
⟨.mv 6 (.t 56), none⟩,
⟨.store (.t 7) (.t 58) 3, none⟩] [])
(.seq (.rg 13 false [] [⟨.fad 59 (.t 7) 1 0, none⟩,
⟨.load 60 (.t 59) 0, none⟩,
⟨.bin 61 .lss (.t 60) (.c (.d true (.int .i64 0))), none⟩,
⟨.mv 62 (.t 61), none⟩,
⟨.fad 63 (.t 7) 0 0, some (62, false)⟩,
⟨.load 64 (.t 63) 0, some (62, false)⟩,
⟨.fad 65 (.t 7) 1 0, some (62, false)⟩,
⟨.load 66 (.t 65) 0, some (62, false)⟩,
⟨.bin 67 .lss (.t 64) (.t 66), some (62, false)⟩,
⟨.pick 68 (.t 62) (.c (.d true (.bool true))) (.t 67), none⟩,
⟨.mv 69 (.t 68), none⟩,
⟨.fad 70 (.t 7) 0 0, some (69, false)⟩,
⟨.load 71 (.t 70) 0, some (69, false)⟩,
⟨.ixb 72 (.t 3) (.c (.d true (.int .i64 2))) 4 1, some (69, false)⟩,
⟨.load 73 (.t 72) 0, some (69, false)⟩,
⟨.mv 74 (.t 6), some (69, false)⟩,
⟨.bin 75 .add (.t 73) (.t 74), some (69, false)⟩,
⟨.bin 76 .mul (.c (.d true (.int .i64 2))) (.t 75), some (69, false)⟩,
⟨.bin 77 .geq (.t 71) (.t 76), some (69, false)⟩,
⟨.pick 78 (.t 69) (.c (.d true (.bool true))) (.t 77), none⟩] [])
(.cond (.t 78) (.seq (.rg 14 false [] [⟨.mv 2 (.c (.d true (.int .i64 8))), none⟩] [])
.ret) .skip))))
(.rg 15 false [] [⟨.bin 79 .add (.t 54) (.c (.d true (.int .i64 1))), none⟩,
⟨.mv 54 (.t 79), none⟩] []))))
def c_gates_Check : C :=
(.seq (.rg 0 false [] [⟨.box 1 0 (.t 0) 6, none⟩,
⟨.mv 2 (.c (.d true (.int .i64 0))), none⟩] [])
(.seq (.seq (.rg 1 false [] [⟨.fad 8 (.t 1) 0 0, none⟩,
⟨.load 9 (.t 8) 0, none⟩,
⟨.bin 10 .lss (.t 9) (.c (.d true (.int .i64 0))), none⟩] [])
(.cond (.t 10) (.seq (.rg 2 false [] [⟨.mv 2 (.c (.d true (.int .i64 8))), none⟩] [])
.ret) .skip))
(.seq (.seq (.rg 3 false [] [⟨.fad 11 (.t 1) 0 0, none⟩,
⟨.load 12 (.t 11) 0, none⟩,
⟨.bin 13 .gtr (.t 12) (.c (.d true (.int .i64 1000))), none⟩,
⟨.mv 14 (.t 13), none⟩,
⟨.load 15 (.t 1) 6, some (14, false)⟩,
⟨.call 16 k_gates_starts [(.t 15)] none, some (14, false)⟩,
⟨.ixa 17 (.t 16) (.c (.d true (.int .i64 3))) 4 0, some (14, false)⟩,
⟨.bin 18 .sub (.t 17) (.c (.d true (.int .i64 1))), some (14, false)⟩,
⟨.bin 19 .gtr (.t 18) (.c (.d true (.int .i64 1000))), some (14, false)⟩,
⟨.pick 20 (.t 14) (.c (.d true (.bool true))) (.t 19), none⟩,
⟨.mv 21 (.t 20), none⟩,
⟨.fad 22 (.t 1) 3 0, some (21, false)⟩,
⟨.load 23 (.t 22) 0, some (21, false)⟩,
⟨.len 24 (.t 23), some (21, false)⟩,
⟨.fad 25 (.t 1) 4 0, some (21, false)⟩,
⟨.load 26 (.t 25) 0, some (21, false)⟩,
⟨.len 27 (.t 26), some (21, false)⟩,
⟨.mx 28 (.t 24) [(.t 27)], some (21, false)⟩,
⟨.bin 29 .gtr (.t 28) (.c (.d true (.int .i64 100))), some (21, false)⟩,
⟨.pick 30 (.t 21) (.c (.d true (.bool true))) (.t 29), none⟩] [])
(.cond (.t 30) (.seq (.rg 4 false [] [⟨.mv 2 (.c (.d true (.int .i64 4))), none⟩] [])
.ret) .skip))
(.seq (.rg 5 false [] [⟨.load 31 (.t 1) 6, none⟩,
⟨.call 32 k_gates_starts [(.t 31)] none, none⟩,
⟨.alloc 3 1 [.k (.int .i64 0), .k (.int .i64 0), .k (.int .i64 0), .k (.int .i64 0)], none⟩,
⟨.store (.t 3) (.t 32) 5, none⟩] [])
(.seq (.rg 6 false [] [⟨.fn 33 k_gates_Check_1 [(.t 3)], none⟩,
⟨.alloc 4 2 [.u], none⟩,
⟨.store (.t 4) (.t 33) 0, none⟩] [])
(.seq (.rg 7 false [] [⟨.fn 34 k_gates_Check_2 [(.t 4)], none⟩,
⟨.mv 5 (.t 34), none⟩] [])
(.seq (.seq (.rg 8 false [] [⟨.fad 35 (.t 1) 3 0, none⟩,
⟨.load 36 (.t 35) 0, none⟩,
⟨.load 37 (.t 4) 0, none⟩,
⟨.call 38 k_slices_ContainsFunc_of_int [(.t 36), (.t 37)] none, none⟩,
⟨.mv 39 (.t 38), none⟩,
⟨.fad 40 (.t 1) 4 0, some (39, false)⟩,
⟨.load 41 (.t 40) 0, some (39, false)⟩,
⟨.load 42 (.t 4) 0, some (39, false)⟩,
⟨.call 43 k_slices_ContainsFunc_of_int [(.t 41), (.t 42)] none, some (39, false)⟩,
⟨.pick 44 (.t 39) (.c (.d true (.bool true))) (.t 43), none⟩,
⟨.mv 45 (.t 44), none⟩,
⟨.fad 46 (.t 1) 1 0, some (45, false)⟩,
⟨.load 47 (.t 46) 0, some (45, false)⟩,
⟨.mv 48 (.t 5), some (45, false)⟩,
⟨.call 49 k_slices_ContainsFunc_of_api_Latch [(.t 47), (.t 48)] none, some (45, false)⟩,
⟨.pick 50 (.t 45) (.c (.d true (.bool true))) (.t 49), none⟩] [])
(.cond (.t 50) (.seq (.rg 9 false [] [⟨.mv 2 (.c (.d true (.int .i64 8))), none⟩] [])
.ret) .skip))
(.seq (.seq (.rg 10 false [] [⟨.fad 51 (.t 1) 2 0, none⟩,
⟨.load 52 (.t 51) 0, none⟩,
⟨.len 53 (.t 52), none⟩,
⟨.mv 54 (.c (.d true (.int .i64 0))), none⟩] [])
(.block 0 (.loop c_gates_Check_l1)))
(.seq (.rg 16 false [] [⟨.mv 2 (.c (.d true (.int .i64 0))), none⟩] [])
.ret)))))))))
def n_gates_Check : Fn := ⟨c_gates_Check, [.s 2], (some [false])⟩

def c_frames_begun_l1 : C :=
(.seq (.rg 12 false [] [⟨.bin 57 .lss (.t 56) (.t 55), none⟩] [])
(.seq (.cond (.t 57) .skip (.exit 0))
(.seq (.block 1 (.seq (.rg 13 false [.kill 4 5] [⟨.mv 58 (.t 56), none⟩,
⟨.ix 59 (.t 54) (.t 56) 2, none⟩,
⟨.load 60 (.t 59) 3, none⟩,
⟨.alloc 15 4 [.k (.int .i64 0), .k (.int .i64 0)], none⟩,
⟨.mv 14 (.t 58), none⟩,
⟨.store (.t 15) (.t 60) 3, none⟩] [])
(.seq (.rg 14 false [] [⟨.fad 61 (.t 15) 1 0, none⟩,
⟨.load 62 (.t 61) 0, none⟩,
⟨.bin 63 .neq (.t 62) (.c (.d true (.int .i64 2))), none⟩] [])
(.cond (.t 63) (.rg 15 false [.kill 5 6] [⟨.mv 64 (.t 13), none⟩,
⟨.mv 65 (.t 13), none⟩,
⟨.mv 66 (.t 14), none⟩,
⟨.bin 67 .mul (.c (.d true (.int .i64 2))) (.t 66), none⟩,
⟨.bin 68 .add (.t 67) (.c (.d true (.int .i64 3))), none⟩,
⟨.fad 69 (.t 15) 1 0, none⟩,
⟨.load 70 (.t 69) 0, none⟩,
⟨.bin 71 .sub (.t 68) (.t 70), none⟩,
⟨.call 72 k_frames_asks_latch [(.t 65), (.t 71)] none, none⟩,
⟨.bsl 73 5 1 1 (.k (.int .i64 0)) [(0, (.t 72))], none⟩,
⟨.call 74 k_frames_asks_put [(.t 64), (.t 73)] none, none⟩] []) .skip))))
(.rg 16 false [] [⟨.bin 75 .add (.t 56) (.c (.d true (.int .i64 1))), none⟩,
⟨.mv 56 (.t 75), none⟩] []))))
def c_frames_begun_l2 : C :=
(.seq (.rg 18 false [] [⟨.bin 81 .lss (.t 80) (.t 79), none⟩] [])
(.seq (.cond (.t 81) .skip (.exit 2))
(.seq (.block 3 (.seq (.rg 19 false [] [⟨.ix 82 (.t 78) (.t 80) 1, none⟩,
⟨.load 83 (.t 82) 0, none⟩,
⟨.mv 17 (.t 83), none⟩] [])
(.rg 20 false [] [⟨.mv 84 (.t 13), none⟩,
⟨.mv 85 (.t 17), none⟩,
⟨.mv 86 (.t 13), none⟩,
⟨.fn 87 (k_frames_asks_latch + bndF) [(.t 86)], none⟩,
⟨.call 88 k_frames_told [(.t 85), (.t 87)] none, none⟩,
⟨.call 89 k_frames_asks_put [(.t 84), (.t 88)] none, none⟩] [])))
(.rg 21 false [] [⟨.bin 90 .add (.t 80) (.c (.d true (.int .i64 1))), none⟩,
⟨.mv 80 (.t 90), none⟩] []))))
def c_frames_begun_l3 : C :=
(.seq (.rg 23 false [] [⟨.bin 95 .lss (.t 94) (.t 93), none⟩] [])
(.seq (.cond (.t 95) .skip (.exit 4))
(.seq (.block 5 (.seq (.rg 24 false [] [⟨.ix 96 (.t 92) (.t 94) 1, none⟩,
⟨.load 97 (.t 96) 0, none⟩,
⟨.mv 19 (.t 97), none⟩] [])
(.rg 25 false [.kill 6 7] [⟨.mv 98 (.t 13), none⟩,
⟨.mv 99 (.t 13), none⟩,
⟨.mv 100 (.t 19), none⟩,
⟨.call 101 k_frames_asks_lit [(.t 99), (.t 100)] none, none⟩,
⟨.bsl 102 6 1 1 (.k (.int .i64 0)) [(0, (.t 101))], none⟩,
⟨.call 103 k_frames_asks_put [(.t 98), (.t 102)] none, none⟩] [])))
(.rg 26 false [] [⟨.bin 104 .add (.t 94) (.c (.d true (.int .i64 1))), none⟩,
⟨.mv 94 (.t 104), none⟩] []))))
def c_frames_begun : C :=
(.seq (.rg 0 false [] [⟨.box 4 0 (.t 0) 6, none⟩,
⟨.box 5 1 (.t 1) 2, none⟩,
⟨.mv 8 (.c (.cl nilF [])), none⟩,
⟨.mv 9 (.c (.d true (.int .i64 0))), none⟩] [])
(.seq (.seq (.rg 1 false [] [⟨.fad 20 (.t 4) 1 0, none⟩,
⟨.load 21 (.t 20) 0, none⟩,
⟨.len 22 (.t 21), none⟩,
⟨.load 23 (.t 5) 2, none⟩,
⟨.mv 24 (.t 2), none⟩,
⟨.call 25 k_frames_asked [(.t 22), (.t 23), (.t 24), (.c (.d true (.int .i64 0)))] none, none⟩,
⟨.mv 10 (.t 25), none⟩] [])
(.seq (.rg 2 false [] [⟨.mv 26 (.t 10), none⟩,
⟨.bin 27 .neq (.t 26) (.c (.d true (.int .i64 0))), none⟩] [])
(.cond (.t 27) (.seq (.rg 3 false [] [⟨.mv 28 (.t 10), none⟩,
⟨.mv 8 (.c (.cl nilF [])), none⟩,
⟨.mv 9 (.t 28), none⟩] [])
.ret) .skip)))
(.seq (.seq (.rg 4 false [] [⟨.mv 29 (.t 3), none⟩,
⟨.bin 30 .lss (.t 29) (.c (.d true (.int .i64 0))), none⟩,
⟨.mv 31 (.t 30), none⟩,
⟨.mv 32 (.t 3), some (31, false)⟩,
⟨.bin 33 .gtr (.t 32) (.c (.d true (.int .i64 100000))), some (31, false)⟩,
⟨.pick 34 (.t 31) (.c (.d true (.bool true))) (.t 33), none⟩] [])
(.cond (.t 34) (.seq (.rg 5 false [] [⟨.mv 8 (.c (.cl nilF [])), none⟩,
⟨.mv 9 (.c (.d true (.int .i64 2))), none⟩] [])
.ret) .skip))
(.seq (.rg 6 false [] [⟨.load 36 (.t 4) 6, none⟩,
⟨.call 37 k_unroll_Free [(.t 36), (.c (.d true (.int .i64 1)))] (some 40), none⟩,
⟨.mv 35 (.t 37), none⟩,
⟨.xt 38 (.t 35) 0, none⟩,
⟨.xt 39 (.t 35) 1, none⟩,
⟨.alloc 11 2 [.k (.int .i64 0), .n 1, .n 1], none⟩,
⟨.store (.t 11) (.t 38) 4, none⟩,
⟨.mv 12 (.t 39), none⟩] [])
(.seq (.seq (.rg 7 false [] [⟨.mv 40 (.t 12), none⟩,
⟨.bin 41 .neq (.t 40) (.c (.d true (.int .i64 0))), none⟩] [])
(.cond (.t 41) (.seq (.rg 8 false [] [⟨.mv 42 (.t 12), none⟩,
⟨.mv 8 (.c (.cl nilF [])), none⟩,
⟨.mv 9 (.t 42), none⟩] [])
.ret) .skip))
(.seq (.rg 9 true [] [⟨.load 43 (.t 4) 6, none⟩,
⟨.load 44 (.t 11) 4, none⟩,
⟨.fad 45 (.t 11) 1 0, none⟩,
⟨.load 46 (.t 45) 0, none⟩,
⟨.ix 47 (.t 46) (.c (.d true (.int .i64 0))) 1, none⟩,
⟨.load 48 (.t 47) 0, none⟩,
⟨.bld 49 [.k (.int .i64 0), .n 2, .n 2, .n 1, .n 1, .k (.int .i64 0), .n 1, .n 1, .n 1] [(0, 6, (.t 43)), (5, 4, (.t 44)), (8, 0, (.t 48))], none⟩,
⟨.box 50 3 (.t 49) 10, none⟩,
⟨.mv 13 (.t 50), none⟩] [])
(.seq (.seq (.rg 10 false [] [⟨.mv 51 (.t 2), none⟩,
⟨.bin 52 .eql (.t 51) (.c (.d true (.int .i64 0))), none⟩] [])
(.cond (.t 52) (.seq (.rg 11 false [] [⟨.fad 53 (.t 4) 1 0, none⟩,
⟨.load 54 (.t 53) 0, none⟩,
⟨.len 55 (.t 54), none⟩,
⟨.mv 56 (.c (.d true (.int .i64 0))), none⟩] [])
(.block 0 (.loop c_frames_begun_l1))) (.seq (.rg 17 false [] [⟨.load 76 (.t 5) 2, none⟩,
⟨.mv 77 (.t 2), none⟩,
⟨.call 78 k_frames_all [(.t 76), (.t 77)] none, none⟩,
⟨.len 79 (.t 78), none⟩,
⟨.mv 80 (.c (.d true (.int .i64 0))), none⟩] [])
(.block 2 (.loop c_frames_begun_l2)))))
(.seq (.seq (.rg 22 false [] [⟨.fad 91 (.t 4) 4 0, none⟩,
⟨.load 92 (.t 91) 0, none⟩,
⟨.len 93 (.t 92), none⟩,
⟨.mv 94 (.c (.d true (.int .i64 0))), none⟩] [])
(.block 4 (.loop c_frames_begun_l3)))
(.seq (.rg 27 false [] [⟨.mv 105 (.t 13), none⟩,
⟨.mv 8 (.t 105), none⟩,
⟨.mv 9 (.c (.d true (.int .i64 0))), none⟩] [])
.ret)))))))))
def n_frames_begun : Fn := ⟨c_frames_begun, [.s 8, .s 9], none⟩

def c_frames_asks_put_l1 : C :=
(.seq (.rg 2 false [] [⟨.bin 11 .lss (.t 10) (.t 9), none⟩] [])
(.seq (.cond (.t 11) .skip (.exit 0))
(.seq (.block 1 (.seq (.rg 3 false [] [⟨.ix 12 (.t 8) (.t 10) 1, none⟩,
⟨.load 13 (.t 12) 0, none⟩,
⟨.mv 6 (.t 13), none⟩] [])
(.seq (.seq (.rg 4 false [] [⟨.mv 14 (.t 6), none⟩,
⟨.bin 15 .eql (.t 14) (.c (.d true (.int .i64 1))), none⟩] [])
(.cond (.t 15) .ret .skip))
(.seq (.rg 5 false [] [⟨.mv 16 (.t 6), none⟩,
⟨.bin 17 .gtr (.t 16) (.c (.d true (.int .i64 0))), none⟩] [])
(.cond (.t 17) (.rg 6 false [.kill 1 2] [⟨.mv 18 (.t 4), none⟩,
⟨.mv 19 (.t 6), none⟩,
⟨.bsl 20 1 1 1 (.k (.int .i64 0)) [(0, (.t 19))], none⟩,
⟨.app 21 2 1 (.t 18) (.t 20), none⟩,
⟨.mv 4 (.t 21), none⟩] []) .skip)))))
(.rg 7 false [] [⟨.bin 22 .add (.t 10) (.c (.d true (.int .i64 1))), none⟩,
⟨.mv 10 (.t 22), none⟩] []))))
def c_frames_asks_put_l2 : C :=
(.seq (.seq (.rg 11 false [] [⟨.mv 27 (.t 7), none⟩,
⟨.mv 28 (.t 4), none⟩,
⟨.len 29 (.t 28), none⟩,
⟨.bin 30 .lss (.t 27) (.t 29), none⟩] [])
(.cond (.t 30) .skip (.exit 2)))
(.seq (.block 3 (.seq (.rg 13 true [] [⟨.mv 33 (.t 4), none⟩,
⟨.mv 34 (.t 7), none⟩,
⟨.bin 35 .sub (.t 34) (.c (.d true (.int .i64 1))), none⟩,
⟨.ix 36 (.t 33) (.t 35) 1, none⟩,
⟨.load 37 (.t 36) 0, none⟩,
⟨.bin 38 .xor (.t 37) (.c (.d true (.int .i64 1))), none⟩,
⟨.mv 39 (.t 4), none⟩,
⟨.mv 40 (.t 7), none⟩,
⟨.ix 41 (.t 39) (.t 40) 1, none⟩,
⟨.load 42 (.t 41) 0, none⟩,
⟨.bin 43 .eql (.t 38) (.t 42), none⟩,
⟨.mv 44 (.t 43), none⟩,
⟨.mv 45 (.t 4), some (44, true)⟩,
⟨.mv 46 (.t 7), some (44, true)⟩,
⟨.bin 47 .sub (.t 46) (.c (.d true (.int .i64 1))), some (44, true)⟩,
⟨.ix 48 (.t 45) (.t 47) 1, some (44, true)⟩,
⟨.load 49 (.t 48) 0, some (44, true)⟩,
⟨.bin 50 .rem (.t 49) (.c (.d true (.int .i64 2))), some (44, true)⟩,
⟨.bin 51 .eql (.t 50) (.c (.d true (.int .i64 0))), some (44, true)⟩,
⟨.pick 52 (.t 44) (.t 51) (.c (.d true (.bool false))), none⟩] [])
(.cond (.t 52) .ret .skip)))
(.rg 12 false [] [⟨.mv 31 (.t 7), none⟩,
⟨.bin 32 .add (.t 31) (.c (.d true (.int .i64 1))), none⟩,
⟨.mv 7 (.t 32), none⟩] [])))
def c_frames_asks_put : C :=
(.seq (.rg 0 false [] [⟨.nilr 4 0 1, none⟩] [])
(.seq (.seq (.rg 1 false [] [⟨.mv 8 (.t 1), none⟩,
⟨.len 9 (.t 8), none⟩,
⟨.mv 10 (.c (.d true (.int .i64 0))), none⟩] [])
(.block 0 (.loop c_frames_asks_put_l1)))
(.seq (.rg 8 false [] [⟨.mv 23 (.t 4), none⟩,
⟨.call 24 k_slices_Sort_of_int [(.t 23)] none, none⟩] [])
(.seq (.rg 9 false [] [⟨.mv 25 (.t 4), none⟩,
⟨.call 26 k_slices_Compact_of_int [(.t 25)] none, none⟩,
⟨.mv 4 (.t 26), none⟩] [])
(.seq (.seq (.rg 10 false [] [⟨.mv 7 (.c (.d true (.int .i64 1))), none⟩] [])
(.block 2 (.loop c_frames_asks_put_l2)))
(.rg 14 false [] [⟨.mv 53 (.t 0), none⟩,
⟨.mv 54 (.t 0), none⟩,
⟨.chk 55 (.t 54), none⟩,
⟨.fad 56 (.t 55) 5 4, none⟩,
⟨.fad 57 (.t 56) 2 0, none⟩,
⟨.load 58 (.t 57) 0, none⟩,
⟨.mv 59 (.t 4), none⟩,
⟨.bsl 60 3 1 1 (.k (.lst 1 [])) [(0, (.t 59))], none⟩,
⟨.app 61 4 1 (.t 58) (.t 60), none⟩,
⟨.chk 62 (.t 53), none⟩,
⟨.fad 63 (.t 62) 5 4, none⟩,
⟨.fad 64 (.t 63) 2 0, none⟩,
⟨.store (.t 64) (.t 61) 0, none⟩] []))))))
def n_frames_asks_put : Fn := ⟨c_frames_asks_put, [], none⟩

def c_frames_told_l1 : C :=
(.seq (.rg 3 false [] [⟨.bin 14 .lss (.t 13) (.t 12), none⟩] [])
(.seq (.cond (.t 14) .skip (.exit 0))
(.seq (.block 1 (.seq (.rg 4 false [] [⟨.mv 15 (.t 13), none⟩,
⟨.ix 16 (.t 11) (.t 13) 1, none⟩,
⟨.load 17 (.t 16) 0, none⟩,
⟨.mv 6 (.t 15), none⟩,
⟨.mv 7 (.t 17), none⟩] [])
(.rg 5 false [] [⟨.mv 18 (.t 5), none⟩,
⟨.mv 19 (.t 6), none⟩,
⟨.mv 20 (.t 1), none⟩,
⟨.mv 21 (.t 7), none⟩,
⟨.callv 22 (.t 20) [(.t 21)] none, none⟩,
⟨.ix 23 (.t 18) (.t 19) 1, none⟩,
⟨.store (.t 23) (.t 22) 0, none⟩] [])))
(.rg 6 false [] [⟨.bin 24 .add (.t 13) (.c (.d true (.int .i64 1))), none⟩,
⟨.mv 13 (.t 24), none⟩] []))))
def c_frames_told : C :=
(.seq (.rg 0 false [] [⟨.mv 4 (.c (.nil 1)), none⟩] [])
(.seq (.rg 1 false [] [⟨.mv 8 (.t 0), none⟩,
⟨.len 9 (.t 8), none⟩,
⟨.mks 10 0 1 (.t 9) (.t 9) (.k (.int .i64 0)), none⟩,
⟨.mv 5 (.t 10), none⟩] [])
(.seq (.seq (.rg 2 false [] [⟨.mv 11 (.t 0), none⟩,
⟨.len 12 (.t 11), none⟩,
⟨.mv 13 (.c (.d true (.int .i64 0))), none⟩] [])
(.block 0 (.loop c_frames_told_l1)))
(.seq (.rg 7 false [] [⟨.mv 25 (.t 5), none⟩,
⟨.mv 4 (.t 25), none⟩] [])
.ret))))
def n_frames_told : Fn := ⟨c_frames_told, [.s 4], none⟩

def c_frames_Before_1 : C :=
(.seq (.rg 0 false [] [⟨.mv 3 (.c (.d true (.int .i64 0))), none⟩] [])
(.seq (.rg 1 false [] [⟨.load 4 (.t 1) 0, none⟩,
⟨.mv 5 (.t 0), none⟩,
⟨.bin 6 .xor (.t 5) (.c (.d true (.int .i64 1))), none⟩,
⟨.call 7 k_frames_asks_latch [(.t 4), (.t 6)] none, none⟩,
⟨.mv 3 (.t 7), none⟩] [])
.ret))
def n_frames_Before_1 : Fn := ⟨c_frames_Before_1, [.s 3], none⟩

def c_frames_asks_latch : C :=
(.seq (.rg 0 false [] [⟨.mv 4 (.c (.d true (.int .i64 0))), none⟩] [])
(.seq (.rg 1 false [] [⟨.mv 5 (.t 0), none⟩,
⟨.mv 6 (.t 1), none⟩,
⟨.mv 7 (.t 0), none⟩,
⟨.chk 8 (.t 7), none⟩,
⟨.fad 9 (.t 8) 0 6, none⟩,
⟨.fad 10 (.t 9) 0 0, none⟩,
⟨.load 11 (.t 10) 0, none⟩,
⟨.bin 12 .mul (.c (.d true (.int .i64 2))) (.t 11), none⟩,
⟨.bin 13 .add (.t 6) (.t 12), none⟩,
⟨.call 14 k_frames_asks_lit [(.t 5), (.t 13)] none, none⟩,
⟨.mv 4 (.t 14), none⟩] [])
.ret))
def n_frames_asks_latch : Fn := ⟨c_frames_asks_latch, [.s 4], none⟩

def c_frames_asks_lit : C :=
(.seq (.rg 0 false [] [⟨.mv 4 (.c (.d true (.int .i64 0))), none⟩] [])
(.seq (.rg 1 false [] [⟨.mv 5 (.t 0), none⟩,
⟨.chk 6 (.t 5), none⟩,
⟨.fad 7 (.t 6) 8 0, none⟩,
⟨.load 8 (.t 7) 0, none⟩,
⟨.mv 9 (.t 1), none⟩,
⟨.bin 10 .quo (.t 9) (.c (.d true (.int .i64 2))), none⟩,
⟨.ix 11 (.t 8) (.t 10) 1, none⟩,
⟨.load 12 (.t 11) 0, none⟩,
⟨.mv 13 (.t 1), none⟩,
⟨.bin 14 .rem (.t 13) (.c (.d true (.int .i64 2))), none⟩,
⟨.bin 15 .xor (.t 12) (.t 14), none⟩,
⟨.mv 4 (.t 15), none⟩] [])
.ret))
def n_frames_asks_lit : Fn := ⟨c_frames_asks_lit, [.s 4], none⟩

def c_frames_asks_step : C :=
(.seq (.rg 0 false [] [⟨.alloc 4 0 [.k (.bool false), .r 1 1, .r 2 1, .k (.int .i64 0)], none⟩,
⟨.mv 5 (.c (.d true (.int .i64 0))), none⟩] [])
(.seq (.seq (.rg 1 false [] [⟨.mv 9 (.t 0), none⟩,
⟨.chk 10 (.t 9), none⟩,
⟨.fad 11 (.t 10) 5 4, none⟩,
⟨.fad 12 (.t 11) 2 0, none⟩,
⟨.load 13 (.t 12) 0, none⟩,
⟨.len 14 (.t 13), none⟩,
⟨.bin 15 .gtr (.t 14) (.c (.d true (.int .i64 20000))), none⟩] [])
(.cond (.t 15) (.seq (.rg 2 false [] [⟨.bld 16 [.k (.bool false), .n 1, .n 1, .k (.int .i64 0)] [], none⟩,
⟨.store (.t 4) (.t 16) 5, none⟩,
⟨.mv 5 (.c (.d true (.int .i64 4))), none⟩] [])
.ret) .skip))
(.seq (.rg 3 true [] [⟨.mv 18 (.t 0), none⟩,
⟨.chk 19 (.t 18), none⟩,
⟨.fad 20 (.t 19) 5 4, none⟩,
⟨.fad 21 (.t 20) 0 0, none⟩,
⟨.load 22 (.t 21) 0, none⟩,
⟨.mv 23 (.t 0), none⟩,
⟨.chk 24 (.t 23), none⟩,
⟨.fad 25 (.t 24) 5 4, none⟩,
⟨.fad 26 (.t 25) 2 0, none⟩,
⟨.load 27 (.t 26) 0, none⟩,
⟨.mv 28 (.t 1), none⟩,
⟨.call 29 k_solve_Run [(.t 22), (.t 27), (.t 28)] none, none⟩,
⟨.mv 17 (.t 29), none⟩,
⟨.xt 30 (.t 17) 0, none⟩,
⟨.xt 31 (.t 17) 1, none⟩,
⟨.alloc 6 3 [.k (.bool false), .n 1, .n 1, .n 1, .k (.int .i64 0)], none⟩,
⟨.store (.t 6) (.t 30) 6, none⟩,
⟨.mv 7 (.t 31), none⟩] [])
(.seq (.seq (.rg 4 false [] [⟨.mv 32 (.t 7), none⟩,
⟨.bin 33 .neq (.t 32) (.c (.d true (.int .i64 0))), none⟩] [])
(.cond (.t 33) (.seq (.rg 5 false [] [⟨.bld 34 [.k (.bool false), .n 1, .n 1, .k (.int .i64 0)] [], none⟩,
⟨.mv 35 (.t 7), none⟩,
⟨.store (.t 4) (.t 34) 5, none⟩,
⟨.mv 5 (.t 35), none⟩] [])
.ret) .skip))
(.seq (.seq (.rg 6 false [] [⟨.fad 36 (.t 6) 0 0, none⟩,
⟨.load 37 (.t 36) 0, none⟩,
⟨.un 38 .not (.t 37), none⟩] [])
(.cond (.t 38) (.seq (.rg 7 false [] [⟨.fad 39 (.t 6) 4 0, none⟩,
⟨.load 40 (.t 39) 0, none⟩,
⟨.bld 41 [.k (.bool false), .n 1, .n 1, .k (.int .i64 0)] [(3, 0, (.t 40))], none⟩,
⟨.store (.t 4) (.t 41) 5, none⟩,
⟨.mv 5 (.c (.d true (.int .i64 0))), none⟩] [])
.ret) .skip))
(.seq (.rg 8 true [] [⟨.mv 43 (.t 0), none⟩,
⟨.chk 44 (.t 43), none⟩,
⟨.fad 45 (.t 44) 0 6, none⟩,
⟨.load 46 (.t 45) 6, none⟩,
⟨.mv 47 (.t 0), none⟩,
⟨.chk 48 (.t 47), none⟩,
⟨.fad 49 (.t 48) 5 4, none⟩,
⟨.load 50 (.t 49) 4, none⟩,
⟨.fad 51 (.t 6) 1 0, none⟩,
⟨.load 52 (.t 51) 0, none⟩,
⟨.call 53 k_unroll_Trace [(.t 46), (.t 50), (.t 52)] none, none⟩,
⟨.mv 42 (.t 53), none⟩,
⟨.xt 54 (.t 42) 0, none⟩,
⟨.xt 55 (.t 42) 1, none⟩,
⟨.alloc 8 4 [.n 1, .n 1], none⟩,
⟨.store (.t 8) (.t 54) 3, none⟩,
⟨.mv 7 (.t 55), none⟩] [])
(.seq (.seq (.rg 9 false [] [⟨.mv 56 (.t 7), none⟩,
⟨.bin 57 .neq (.t 56) (.c (.d true (.int .i64 0))), none⟩] [])
(.cond (.t 57) (.seq (.rg 10 false [] [⟨.bld 58 [.k (.bool false), .n 1, .n 1, .k (.int .i64 0)] [], none⟩,
⟨.mv 59 (.t 7), none⟩,
⟨.store (.t 4) (.t 58) 5, none⟩,
⟨.mv 5 (.t 59), none⟩] [])
.ret) .skip))
(.seq (.rg 11 true [] [⟨.fad 60 (.t 8) 0 0, none⟩,
⟨.load 61 (.t 60) 0, none⟩,
⟨.fad 62 (.t 8) 1 0, none⟩,
⟨.load 63 (.t 62) 0, none⟩,
⟨.ix 64 (.t 63) (.c (.d true (.int .i64 0))) 1, none⟩,
⟨.load 65 (.t 64) 0, none⟩,
⟨.fad 66 (.t 6) 4 0, none⟩,
⟨.load 67 (.t 66) 0, none⟩,
⟨.bld 68 [.k (.bool false), .n 1, .n 1, .k (.int .i64 0)] [(0, 0, (.c (.d true (.bool true)))), (1, 0, (.t 61)), (2, 0, (.t 65)), (3, 0, (.t 67))], none⟩,
⟨.store (.t 4) (.t 68) 5, none⟩,
⟨.mv 5 (.c (.d true (.int .i64 0))), none⟩] [])
.ret))))))))
def n_frames_asks_step : Fn := ⟨c_frames_asks_step, [.c 4 5, .s 5], none⟩

def c_ref13_SameAll_l1 : C :=
(.seq (.seq (.rg 4 false [] [⟨.mv 11 (.t 5), none⟩,
⟨.mv 12 (.t 0), none⟩,
⟨.len 13 (.t 12), none⟩,
⟨.bin 14 .lss (.t 11) (.t 13), none⟩] [])
(.cond (.t 14) .skip (.exit 0)))
(.seq (.block 1 (.seq (.rg 6 true [] [⟨.mv 17 (.t 0), none⟩,
⟨.mv 18 (.t 5), none⟩,
⟨.ix 19 (.t 17) (.t 18) 1, none⟩,
⟨.load 20 (.t 19) 0, none⟩,
⟨.mv 21 (.t 1), none⟩,
⟨.mv 22 (.t 5), none⟩,
⟨.ix 23 (.t 21) (.t 22) 1, none⟩,
⟨.load 24 (.t 23) 0, none⟩,
⟨.call 25 k_ref13_Same [(.t 20), (.t 24)] none, none⟩,
⟨.un 26 .not (.t 25), none⟩] [])
(.cond (.t 26) (.seq (.rg 7 false [] [⟨.mv 4 (.c (.d true (.bool false))), none⟩] [])
.ret) .skip)))
(.rg 5 false [] [⟨.mv 15 (.t 5), none⟩,
⟨.bin 16 .add (.t 15) (.c (.d true (.int .i64 1))), none⟩,
⟨.mv 5 (.t 16), none⟩] [])))
def c_ref13_SameAll : C :=
(.seq (.rg 0 false [] [⟨.mv 4 (.c (.d true (.bool false))), none⟩] [])
(.seq (.seq (.rg 1 false [] [⟨.mv 6 (.t 0), none⟩,
⟨.len 7 (.t 6), none⟩,
⟨.mv 8 (.t 1), none⟩,
⟨.len 9 (.t 8), none⟩,
⟨.bin 10 .neq (.t 7) (.t 9), none⟩] [])
(.cond (.t 10) (.seq (.rg 2 false [] [⟨.mv 4 (.c (.d true (.bool false))), none⟩] [])
.ret) .skip))
(.seq (.seq (.rg 3 false [] [⟨.mv 5 (.c (.d true (.int .i64 0))), none⟩] [])
(.block 0 (.loop c_ref13_SameAll_l1)))
(.seq (.rg 8 false [] [⟨.mv 4 (.c (.d true (.bool true))), none⟩] [])
.ret))))
def n_ref13_SameAll : Fn := ⟨c_ref13_SameAll, [.s 4], (some [false, false])⟩

def c_shrink_first : C :=
(.seq (.rg 0 false [] [⟨.box 2 0 (.t 0) 6, none⟩,
⟨.mv 4 (.c (.d true (.bool false))), none⟩] [])
(.seq (.rg 1 false [] [⟨.mv 5 (.t 1), none⟩,
⟨.fn 6 k_shrink_first_1 [(.t 2)], none⟩,
⟨.call 7 k_slices_ContainsFunc_of_int [(.t 5), (.t 6)] none, none⟩,
⟨.un 8 .not (.t 7), none⟩,
⟨.mv 4 (.t 8), none⟩] [])
.ret))
def n_shrink_first : Fn := ⟨c_shrink_first, [.s 4], (some [false, false])⟩

def c_push_asked : C :=
(.seq (.rg 0 false [] [⟨.box 3 0 (.t 0) 6, none⟩,
⟨.box 4 1 (.t 1) 2, none⟩,
⟨.mv 6 (.c (.d true (.int .i64 0))), none⟩] [])
(.seq (.seq (.rg 1 false [] [⟨.load 9 (.t 3) 6, none⟩,
⟨.call 10 k_gates_Check [(.t 9)] none, none⟩,
⟨.mv 7 (.t 10), none⟩] [])
(.seq (.rg 2 false [] [⟨.mv 11 (.t 7), none⟩,
⟨.bin 12 .neq (.t 11) (.c (.d true (.int .i64 0))), none⟩] [])
(.cond (.t 12) (.seq (.rg 3 false [] [⟨.mv 13 (.t 7), none⟩,
⟨.mv 6 (.t 13), none⟩] [])
.ret) .skip)))
(.seq (.seq (.rg 4 false [] [⟨.fad 14 (.t 3) 1 0, none⟩,
⟨.load 15 (.t 14) 0, none⟩,
⟨.len 16 (.t 15), none⟩,
⟨.load 17 (.t 4) 2, none⟩,
⟨.call 18 k_frames_Check [(.t 16), (.t 17)] none, none⟩,
⟨.mv 8 (.t 18), none⟩] [])
(.seq (.rg 5 false [] [⟨.mv 19 (.t 8), none⟩,
⟨.bin 20 .neq (.t 19) (.c (.d true (.int .i64 0))), none⟩] [])
(.cond (.t 20) (.seq (.rg 6 false [] [⟨.mv 21 (.t 8), none⟩,
⟨.mv 6 (.t 21), none⟩] [])
.ret) .skip)))
(.seq (.seq (.rg 7 false [] [⟨.mv 22 (.t 2), none⟩,
⟨.bin 23 .lss (.t 22) (.c (.d true (.int .i64 0))), none⟩,
⟨.mv 24 (.t 23), none⟩,
⟨.mv 25 (.t 2), some (24, false)⟩,
⟨.bin 26 .gtr (.t 25) (.c (.d true (.int .i64 100000))), some (24, false)⟩,
⟨.pick 27 (.t 24) (.c (.d true (.bool true))) (.t 26), none⟩] [])
(.cond (.t 27) (.seq (.rg 8 false [] [⟨.mv 6 (.c (.d true (.int .i64 2))), none⟩] [])
.ret) .skip))
(.seq (.rg 9 false [] [⟨.mv 6 (.c (.d true (.int .i64 0))), none⟩] [])
.ret)))))
def n_push_asked : Fn := ⟨c_push_asked, [.s 6], (some [false, false, false])⟩

def c_push_turned_l1 : C :=
(.seq (.rg 3 false [] [⟨.bin 12 .lss (.t 11) (.t 10), none⟩] [])
(.seq (.cond (.t 12) .skip (.exit 0))
(.seq (.block 1 (.seq (.rg 4 false [] [⟨.mv 13 (.t 11), none⟩,
⟨.ix 14 (.t 9) (.t 11) 1, none⟩,
⟨.load 15 (.t 14) 0, none⟩,
⟨.mv 4 (.t 13), none⟩,
⟨.mv 5 (.t 15), none⟩] [])
(.rg 5 false [] [⟨.mv 16 (.t 3), none⟩,
⟨.mv 17 (.t 4), none⟩,
⟨.mv 18 (.t 5), none⟩,
⟨.bin 19 .xor (.t 18) (.c (.d true (.int .i64 1))), none⟩,
⟨.ix 20 (.t 16) (.t 17) 1, none⟩,
⟨.store (.t 20) (.t 19) 0, none⟩] [])))
(.rg 6 false [] [⟨.bin 21 .add (.t 11) (.c (.d true (.int .i64 1))), none⟩,
⟨.mv 11 (.t 21), none⟩] []))))
def c_push_turned : C :=
(.seq (.rg 0 false [] [⟨.mv 2 (.c (.nil 1)), none⟩] [])
(.seq (.rg 1 false [] [⟨.mv 6 (.t 0), none⟩,
⟨.len 7 (.t 6), none⟩,
⟨.mks 8 0 1 (.t 7) (.t 7) (.k (.int .i64 0)), none⟩,
⟨.mv 3 (.t 8), none⟩] [])
(.seq (.seq (.rg 2 false [] [⟨.mv 9 (.t 0), none⟩,
⟨.len 10 (.t 9), none⟩,
⟨.mv 11 (.c (.d true (.int .i64 0))), none⟩] [])
(.block 0 (.loop c_push_turned_l1)))
(.seq (.rg 7 false [] [⟨.mv 22 (.t 3), none⟩,
⟨.mv 2 (.t 22), none⟩] [])
.ret))))
def n_push_turned : Fn := ⟨c_push_turned, [.s 2], (some [false])⟩

def c_push_Push_1 : C :=
(.seq (.rg 0 false [] [⟨.mv 3 (.c (.d true (.bool false))), none⟩] [])
(.seq (.rg 1 false [] [⟨.load 4 (.t 1) 0, none⟩,
⟨.mv 5 (.t 0), none⟩,
⟨.call 6 k_slices_Equal_of_int [(.t 4), (.t 5)] none, none⟩,
⟨.mv 3 (.t 6), none⟩] [])
.ret))
def n_push_Push_1 : Fn := ⟨c_push_Push_1, [.s 3], none⟩

def c_slices_Equal_of_int_l1 : C :=
(.seq (.rg 4 false [] [⟨.bin 14 .lss (.t 13) (.t 12), none⟩] [])
(.seq (.cond (.t 14) .skip (.exit 0))
(.seq (.block 1 (.seq (.rg 5 false [] [⟨.mv 15 (.t 13), none⟩,
⟨.mv 5 (.t 15), none⟩] [])
(.seq (.rg 6 true [] [⟨.mv 16 (.t 0), none⟩,
⟨.mv 17 (.t 5), none⟩,
⟨.ix 18 (.t 16) (.t 17) 1, none⟩,
⟨.load 19 (.t 18) 0, none⟩,
⟨.mv 20 (.t 1), none⟩,
⟨.mv 21 (.t 5), none⟩,
⟨.ix 22 (.t 20) (.t 21) 1, none⟩,
⟨.load 23 (.t 22) 0, none⟩,
⟨.bin 24 .neq (.t 19) (.t 23), none⟩] [])
(.cond (.t 24) (.seq (.rg 7 false [] [⟨.mv 4 (.c (.d true (.bool false))), none⟩] [])
.ret) .skip))))
(.rg 8 false [] [⟨.bin 25 .add (.t 13) (.c (.d true (.int .i64 1))), none⟩,
⟨.mv 13 (.t 25), none⟩] []))))
def c_slices_Equal_of_int : C :=
(.seq (.rg 0 false [] [⟨.mv 4 (.c (.d true (.bool false))), none⟩] [])
(.seq (.seq (.rg 1 false [] [⟨.mv 6 (.t 0), none⟩,
⟨.len 7 (.t 6), none⟩,
⟨.mv 8 (.t 1), none⟩,
⟨.len 9 (.t 8), none⟩,
⟨.bin 10 .neq (.t 7) (.t 9), none⟩] [])
(.cond (.t 10) (.seq (.rg 2 false [] [⟨.mv 4 (.c (.d true (.bool false))), none⟩] [])
.ret) .skip))
(.seq (.seq (.rg 3 false [] [⟨.mv 11 (.t 0), none⟩,
⟨.len 12 (.t 11), none⟩,
⟨.mv 13 (.c (.d true (.int .i64 0))), none⟩] [])
(.block 0 (.loop c_slices_Equal_of_int_l1)))
(.seq (.rg 9 false [] [⟨.mv 4 (.c (.d true (.bool true))), none⟩] [])
.ret))))
def n_slices_Equal_of_int : Fn := ⟨c_slices_Equal_of_int, [.s 4], (some [false, false])⟩

def c_slices_IndexFunc_of_LLint_l1 : C :=
(.seq (.rg 2 false [] [⟨.bin 9 .lss (.t 8) (.t 7), none⟩] [])
(.seq (.cond (.t 9) .skip (.exit 0))
(.seq (.block 1 (.seq (.rg 3 false [] [⟨.mv 10 (.t 8), none⟩,
⟨.mv 5 (.t 10), none⟩] [])
(.seq (.rg 4 false [] [⟨.mv 11 (.t 1), none⟩,
⟨.mv 12 (.t 0), none⟩,
⟨.mv 13 (.t 5), none⟩,
⟨.ix 14 (.t 12) (.t 13) 1, none⟩,
⟨.load 15 (.t 14) 0, none⟩,
⟨.callv 16 (.t 11) [(.t 15)] none, none⟩] [])
(.cond (.t 16) (.seq (.rg 5 false [] [⟨.mv 17 (.t 5), none⟩,
⟨.mv 4 (.t 17), none⟩] [])
.ret) .skip))))
(.rg 6 false [] [⟨.bin 18 .add (.t 8) (.c (.d true (.int .i64 1))), none⟩,
⟨.mv 8 (.t 18), none⟩] []))))
def c_slices_IndexFunc_of_LLint : C :=
(.seq (.rg 0 false [] [⟨.mv 4 (.c (.d true (.int .i64 0))), none⟩] [])
(.seq (.seq (.rg 1 false [] [⟨.mv 6 (.t 0), none⟩,
⟨.len 7 (.t 6), none⟩,
⟨.mv 8 (.c (.d true (.int .i64 0))), none⟩] [])
(.block 0 (.loop c_slices_IndexFunc_of_LLint_l1)))
(.seq (.rg 7 false [] [⟨.mv 4 (.c (.d true (.int .i64 (-1)))), none⟩] [])
.ret)))
def n_slices_IndexFunc_of_LLint : Fn := ⟨c_slices_IndexFunc_of_LLint, [.s 4], none⟩

def c_push_Fixed_1 : C :=
(.seq (.rg 0 false [] [⟨.mv 2 (.c (.d true (.bool false))), none⟩] [])
(.seq (.rg 1 false [] [⟨.mv 3 (.t 0), none⟩,
⟨.len 4 (.t 3), none⟩,
⟨.bin 5 .eql (.t 4) (.c (.d true (.int .i64 0))), none⟩,
⟨.mv 2 (.t 5), none⟩] [])
.ret))
def n_push_Fixed_1 : Fn := ⟨c_push_Fixed_1, [.s 2], none⟩

def c_preds_Check_l1 : C :=
(.seq (.rg 6 false [] [⟨.bin 23 .lss (.t 22) (.t 21), none⟩] [])
(.seq (.cond (.t 23) .skip (.exit 0))
(.seq (.block 1 (.seq (.rg 7 false [.kill 1 2] [⟨.mv 24 (.t 22), none⟩,
⟨.ix 25 (.t 20) (.t 22) 2, none⟩,
⟨.load 26 (.t 25) 3, none⟩,
⟨.alloc 6 1 [.k (.int .i64 0), .k (.int .i64 0)], none⟩,
⟨.mv 5 (.t 24), none⟩,
⟨.store (.t 6) (.t 26) 3, none⟩] [])
(.seq (.rg 8 false [] [⟨.fad 27 (.t 6) 1 0, none⟩,
⟨.load 28 (.t 27) 0, none⟩,
⟨.bin 29 .lss (.t 28) (.c (.d true (.int .i64 0))), none⟩,
⟨.mv 30 (.t 29), none⟩,
⟨.fad 31 (.t 6) 0 0, some (30, false)⟩,
⟨.load 32 (.t 31) 0, some (30, false)⟩,
⟨.fad 33 (.t 6) 1 0, some (30, false)⟩,
⟨.load 34 (.t 33) 0, some (30, false)⟩,
⟨.bin 35 .lss (.t 32) (.t 34), some (30, false)⟩,
⟨.pick 36 (.t 30) (.c (.d true (.bool true))) (.t 35), none⟩,
⟨.mv 37 (.t 36), none⟩,
⟨.fad 38 (.t 6) 0 0, some (37, false)⟩,
⟨.load 39 (.t 38) 0, some (37, false)⟩,
⟨.mv 40 (.t 0), some (37, false)⟩,
⟨.bin 41 .add (.t 40) (.c (.d true (.int .i64 1))), some (37, false)⟩,
⟨.mv 42 (.t 5), some (37, false)⟩,
⟨.bin 43 .add (.t 41) (.t 42), some (37, false)⟩,
⟨.bin 44 .mul (.c (.d true (.int .i64 2))) (.t 43), some (37, false)⟩,
⟨.bin 45 .geq (.t 39) (.t 44), some (37, false)⟩,
⟨.pick 46 (.t 37) (.c (.d true (.bool true))) (.t 45), none⟩] [])
(.cond (.t 46) (.seq (.rg 9 false [] [⟨.mv 4 (.c (.d true (.int .i64 8))), none⟩] [])
.ret) .skip))))
(.rg 10 false [] [⟨.bin 47 .add (.t 22) (.c (.d true (.int .i64 1))), none⟩,
⟨.mv 22 (.t 47), none⟩] []))))
def c_preds_Check : C :=
(.seq (.rg 0 false [] [⟨.box 3 0 (.t 1) 3, none⟩,
⟨.mv 4 (.c (.d true (.int .i64 0))), none⟩] [])
(.seq (.seq (.rg 1 false [] [⟨.mv 7 (.t 0), none⟩,
⟨.bin 8 .lss (.t 7) (.c (.d true (.int .i64 0))), none⟩,
⟨.mv 9 (.t 8), none⟩,
⟨.mv 10 (.t 0), some (9, false)⟩,
⟨.bin 11 .gtr (.t 10) (.c (.d true (.int .i64 1000))), some (9, false)⟩,
⟨.pick 12 (.t 9) (.c (.d true (.bool true))) (.t 11), none⟩] [])
(.cond (.t 12) (.seq (.rg 2 false [] [⟨.mv 4 (.c (.d true (.int .i64 2))), none⟩] [])
.ret) .skip))
(.seq (.seq (.rg 3 false [] [⟨.mv 13 (.t 0), none⟩,
⟨.fad 14 (.t 3) 0 0, none⟩,
⟨.load 15 (.t 14) 0, none⟩,
⟨.len 16 (.t 15), none⟩,
⟨.bin 17 .add (.t 13) (.t 16), none⟩,
⟨.bin 18 .gtr (.t 17) (.c (.d true (.int .i64 1000))), none⟩] [])
(.cond (.t 18) (.seq (.rg 4 false [] [⟨.mv 4 (.c (.d true (.int .i64 4))), none⟩] [])
.ret) .skip))
(.seq (.seq (.rg 5 false [] [⟨.fad 19 (.t 3) 0 0, none⟩,
⟨.load 20 (.t 19) 0, none⟩,
⟨.len 21 (.t 20), none⟩,
⟨.mv 22 (.c (.d true (.int .i64 0))), none⟩] [])
(.block 0 (.loop c_preds_Check_l1)))
(.seq (.seq (.rg 11 false [] [⟨.fad 48 (.t 3) 1 0, none⟩,
⟨.load 49 (.t 48) 0, none⟩,
⟨.bin 50 .lss (.t 49) (.c (.d true (.int .i64 0))), none⟩,
⟨.mv 51 (.t 50), none⟩,
⟨.fad 52 (.t 3) 1 0, some (51, false)⟩,
⟨.load 53 (.t 52) 0, some (51, false)⟩,
⟨.bin 54 .quo (.t 53) (.c (.d true (.int .i64 2))), some (51, false)⟩,
⟨.mv 55 (.t 0), some (51, false)⟩,
⟨.fad 56 (.t 3) 0 0, some (51, false)⟩,
⟨.load 57 (.t 56) 0, some (51, false)⟩,
⟨.len 58 (.t 57), some (51, false)⟩,
⟨.bin 59 .add (.t 55) (.t 58), some (51, false)⟩,
⟨.bin 60 .gtr (.t 54) (.t 59), some (51, false)⟩,
⟨.pick 61 (.t 51) (.c (.d true (.bool true))) (.t 60), none⟩] [])
(.cond (.t 61) (.seq (.rg 12 false [] [⟨.mv 4 (.c (.d true (.int .i64 8))), none⟩] [])
.ret) .skip))
(.seq (.rg 13 false [] [⟨.mv 4 (.c (.d true (.int .i64 0))), none⟩] [])
.ret))))))
def n_preds_Check : Fn := ⟨c_preds_Check, [.s 4], (some [false, false])⟩

def c_preds_Put_l1 : C :=
(.seq (.rg 5 false [] [⟨.bin 29 .lss (.t 28) (.t 27), none⟩] [])
(.seq (.cond (.t 29) .skip (.exit 0))
(.seq (.block 1 (.seq (.rg 6 false [] [⟨.ix 30 (.t 26) (.t 28) 1, none⟩,
⟨.load 31 (.t 30) 0, none⟩,
⟨.mv 12 (.t 31), none⟩] [])
(.seq (.rg 7 false [] [⟨.mv 32 (.t 12), none⟩,
⟨.bin 33 .lss (.t 32) (.c (.d true (.int .i64 0))), none⟩,
⟨.mv 34 (.t 33), none⟩,
⟨.mv 35 (.t 12), some (34, false)⟩,
⟨.bin 36 .quo (.t 35) (.c (.d true (.int .i64 2))), some (34, false)⟩,
⟨.mv 37 (.t 9), some (34, false)⟩,
⟨.bin 38 .gtr (.t 36) (.t 37), some (34, false)⟩,
⟨.pick 39 (.t 34) (.c (.d true (.bool true))) (.t 38), none⟩] [])
(.cond (.t 39) (.seq (.rg 8 false [] [⟨.bld 40 [.k (.int .i64 0), .n 2, .n 2, .n 1, .n 1] [], none⟩,
⟨.store (.t 6) (.t 40) 6, none⟩,
⟨.mv 7 (.c (.d true (.int .i64 0))), none⟩,
⟨.mv 8 (.c (.d true (.int .i64 2))), none⟩] [])
.ret) .skip))))
(.rg 9 false [] [⟨.bin 41 .add (.t 28) (.c (.d true (.int .i64 1))), none⟩,
⟨.mv 28 (.t 41), none⟩] []))))
def c_preds_Put : C :=
(.seq (.rg 0 false [] [⟨.box 3 0 (.t 0) 6, none⟩,
⟨.box 4 1 (.t 1) 3, none⟩,
⟨.box 5 2 (.t 2) 0, none⟩,
⟨.alloc 6 3 [.k (.int .i64 0), .r 4 2, .r 5 2, .r 6 1, .r 7 1], none⟩,
⟨.mv 7 (.c (.d true (.int .i64 0))), none⟩,
⟨.mv 8 (.c (.d true (.int .i64 0))), none⟩] [])
(.seq (.rg 1 false [] [⟨.load 18 (.t 3) 6, none⟩,
⟨.call 19 k_gates_Vars [(.t 18)] none, none⟩,
⟨.mv 17 (.t 19), none⟩,
⟨.xt 20 (.t 17) 0, none⟩,
⟨.xt 21 (.t 17) 1, none⟩,
⟨.mv 9 (.t 20), none⟩,
⟨.mv 10 (.t 21), none⟩] [])
(.seq (.seq (.rg 2 false [] [⟨.mv 22 (.t 10), none⟩,
⟨.bin 23 .neq (.t 22) (.c (.d true (.int .i64 0))), none⟩] [])
(.cond (.t 23) (.seq (.rg 3 false [] [⟨.bld 24 [.k (.int .i64 0), .n 2, .n 2, .n 1, .n 1] [], none⟩,
⟨.mv 25 (.t 10), none⟩,
⟨.store (.t 6) (.t 24) 6, none⟩,
⟨.mv 7 (.c (.d true (.int .i64 0))), none⟩,
⟨.mv 8 (.t 25), none⟩] [])
.ret) .skip))
(.seq (.seq (.rg 4 false [] [⟨.load 26 (.t 5) 0, none⟩,
⟨.len 27 (.t 26), none⟩,
⟨.mv 28 (.c (.d true (.int .i64 0))), none⟩] [])
(.block 0 (.loop c_preds_Put_l1)))
(.seq (.seq (.rg 10 false [] [⟨.load 42 (.t 5) 0, none⟩,
⟨.len 43 (.t 42), none⟩,
⟨.load 44 (.t 4) 3, none⟩,
⟨.call 45 k_preds_Check [(.t 43), (.t 44)] none, none⟩,
⟨.mv 13 (.t 45), none⟩] [])
(.seq (.rg 11 false [] [⟨.mv 46 (.t 13), none⟩,
⟨.bin 47 .neq (.t 46) (.c (.d true (.int .i64 0))), none⟩] [])
(.cond (.t 47) (.seq (.rg 12 false [] [⟨.bld 48 [.k (.int .i64 0), .n 2, .n 2, .n 1, .n 1] [], none⟩,
⟨.mv 49 (.t 13), none⟩,
⟨.store (.t 6) (.t 48) 6, none⟩,
⟨.mv 7 (.c (.d true (.int .i64 0))), none⟩,
⟨.mv 8 (.t 49), none⟩] [])
.ret) .skip)))
(.seq (.rg 13 true [] [⟨.fad 50 (.t 3) 2 0, none⟩,
⟨.load 51 (.t 50) 0, none⟩,
⟨.call 52 k_slices_Clone_of_api_And [(.t 51)] (some 30), none⟩,
⟨.fad 53 (.t 3) 0 0, none⟩,
⟨.load 54 (.t 53) 0, none⟩,
⟨.bin 55 .add (.c (.d true (.int .i64 1))) (.t 54), none⟩,
⟨.fad 56 (.t 3) 1 0, none⟩,
⟨.load 57 (.t 56) 0, none⟩,
⟨.len 58 (.t 57), none⟩,
⟨.bin 59 .add (.t 55) (.t 58), none⟩,
⟨.fn 60 k_preds_Put_1 [(.t 5)], none⟩,
⟨.bld 61 [.n 2, .k (.int .i64 0), .u, .k (.bool false)] [(0, 0, (.t 52)), (1, 0, (.t 59)), (2, 0, (.t 60))], none⟩,
⟨.box 62 8 (.t 61) 5, none⟩,
⟨.mv 14 (.t 62), none⟩] [[0, 1, 3, 4, 5, 6, 7, 2, 8, 9, 10, 11, 12, 13], [0, 1, 3, 6, 7, 2, 4, 5, 8, 9, 10, 11, 12, 13], [0, 1, 3, 4, 2, 5, 6, 7, 8, 9, 10, 11, 12, 13]])
(.seq (.rg 14 false [] [⟨.mv 63 (.t 14), none⟩,
⟨.load 64 (.t 5) 0, none⟩,
⟨.len 65 (.t 64), none⟩,
⟨.load 66 (.t 4) 3, none⟩,
⟨.call 67 k_preds_builder_put [(.t 63), (.t 65), (.t 66)] none, none⟩,
⟨.mv 15 (.t 67), none⟩] [])
(.seq (.seq (.rg 15 false [] [⟨.mv 68 (.t 14), none⟩,
⟨.chk 69 (.t 68), none⟩,
⟨.fad 70 (.t 69) 3 0, none⟩,
⟨.load 71 (.t 70) 0, none⟩] [])
(.cond (.t 71) (.seq (.rg 16 false [] [⟨.bld 72 [.k (.int .i64 0), .n 2, .n 2, .n 1, .n 1] [], none⟩,
⟨.store (.t 6) (.t 72) 6, none⟩,
⟨.mv 7 (.c (.d true (.int .i64 0))), none⟩,
⟨.mv 8 (.c (.d true (.int .i64 4))), none⟩] [])
.ret) .skip))
(.seq (.rg 17 true [] [⟨.fad 73 (.t 3) 0 0, none⟩,
⟨.load 74 (.t 73) 0, none⟩,
⟨.fad 75 (.t 3) 1 0, none⟩,
⟨.load 76 (.t 75) 0, none⟩,
⟨.call 77 k_slices_Clone_of_api_Latch [(.t 76)] none, none⟩,
⟨.mv 78 (.t 14), none⟩,
⟨.chk 79 (.t 78), none⟩,
⟨.fad 80 (.t 79) 0 0, none⟩,
⟨.load 81 (.t 80) 0, none⟩,
⟨.fad 82 (.t 3) 3 0, none⟩,
⟨.load 83 (.t 82) 0, none⟩,
⟨.call 84 k_slices_Clone_of_int [(.t 83)] none, none⟩,
⟨.fad 85 (.t 3) 4 0, none⟩,
⟨.load 86 (.t 85) 0, none⟩,
⟨.call 87 k_slices_Clone_of_int [(.t 86)] none, none⟩,
⟨.bld 88 [.k (.int .i64 0), .n 2, .n 2, .n 1, .n 1] [(0, 0, (.t 74)), (1, 0, (.t 77)), (2, 0, (.t 81)), (3, 0, (.t 84)), (4, 0, (.t 87))], none⟩,
⟨.alloc 16 9 [.k (.int .i64 0), .n 2, .n 2, .n 1, .n 1], none⟩,
⟨.store (.t 16) (.t 88) 6, none⟩] [])
(.seq (.rg 18 false [] [⟨.load 89 (.t 16) 6, none⟩,
⟨.mv 90 (.t 15), none⟩,
⟨.store (.t 6) (.t 89) 6, none⟩,
⟨.mv 7 (.t 90), none⟩,
⟨.mv 8 (.c (.d true (.int .i64 0))), none⟩] [])
.ret))))))))))
def n_preds_Put : Fn := ⟨c_preds_Put, [.c 6 6, .s 7, .s 8], (some [false, false, false])⟩

def c_push_ask_l1 : C :=
(.seq (.rg 13 false [] [⟨.bin 45 .lss (.t 44) (.t 43), none⟩] [])
(.seq (.cond (.t 45) .skip (.exit 1))
(.seq (.block 2 (.seq (.rg 14 false [] [⟨.ix 46 (.t 42) (.t 44) 1, none⟩,
⟨.load 47 (.t 46) 0, none⟩,
⟨.mv 14 (.t 47), none⟩] [])
(.rg 15 true [.kill 4 5] [⟨.fad 48 (.t 11) 2 0, none⟩,
⟨.load 49 (.t 48) 0, none⟩,
⟨.fad 50 (.t 11) 1 0, none⟩,
⟨.load 51 (.t 50) 0, none⟩,
⟨.ix 52 (.t 51) (.c (.d true (.int .i64 0))) 1, none⟩,
⟨.load 53 (.t 52) 0, none⟩,
⟨.mv 54 (.t 14), none⟩,
⟨.bsl 55 4 1 1 (.k (.int .i64 0)) [(0, (.t 54))], none⟩,
⟨.call 56 k_push_put [(.t 49), (.t 53), (.t 55)] none, none⟩,
⟨.fad 57 (.t 11) 2 0, none⟩,
⟨.store (.t 57) (.t 56) 0, none⟩] [])))
(.rg 16 false [] [⟨.bin 58 .add (.t 44) (.c (.d true (.int .i64 1))), none⟩,
⟨.mv 44 (.t 58), none⟩] []))))
def c_push_ask : C :=
(.seq (.rg 0 false [] [⟨.box 4 0 (.t 0) 6, none⟩,
⟨.mv 8 (.c (.d true (.bool false))), none⟩,
⟨.mv 9 (.c (.d true (.int .i64 0))), none⟩,
⟨.mv 10 (.c (.d true (.int .i64 0))), none⟩] [])
(.seq (.rg 1 false [] [⟨.alloc 11 1 [.k (.int .i64 0), .r 2 1, .r 3 1], none⟩] [])
(.seq (.rg 2 false [] [⟨.mv 12 (.c (.d true (.int .i64 0))), none⟩] [])
(.seq (.seq (.rg 3 false [] [⟨.mv 16 (.t 2), none⟩] [])
(.block 0 (.seq (.rg 5 false [] [⟨.bin 23 .eql (.t 16) (.c (.d true (.int .i64 0))), none⟩,
⟨.mv 22 (.t 23), none⟩] [])
(.cond (.t 22) (.rg 6 false [] [⟨.load 25 (.t 4) 6, none⟩,
⟨.call 26 k_unroll_Of [(.t 25), (.c (.d true (.int .i64 1)))] (some 40), none⟩,
⟨.mv 24 (.t 26), none⟩,
⟨.xt 27 (.t 24) 0, none⟩,
⟨.xt 28 (.t 24) 1, none⟩,
⟨.store (.t 11) (.t 27) 4, none⟩,
⟨.mv 12 (.t 28), none⟩] []) (.seq (.rg 7 false [] [⟨.bin 30 .eql (.t 16) (.c (.d true (.int .i64 1))), none⟩,
⟨.mv 29 (.t 30), none⟩] [])
(.cond (.t 29) (.rg 8 false [] [⟨.load 32 (.t 4) 6, none⟩,
⟨.call 33 k_unroll_Free [(.t 32), (.c (.d true (.int .i64 2)))] (some 60), none⟩,
⟨.mv 31 (.t 33), none⟩,
⟨.xt 34 (.t 31) 0, none⟩,
⟨.xt 35 (.t 31) 1, none⟩,
⟨.store (.t 11) (.t 34) 4, none⟩,
⟨.mv 12 (.t 35), none⟩] []) (.rg 4 false [] [⟨.load 18 (.t 4) 6, none⟩,
⟨.call 19 k_unroll_Free [(.t 18), (.c (.d true (.int .i64 1)))] (some 68), none⟩,
⟨.mv 17 (.t 19), none⟩,
⟨.xt 20 (.t 17) 0, none⟩,
⟨.xt 21 (.t 17) 1, none⟩,
⟨.store (.t 11) (.t 20) 4, none⟩,
⟨.mv 12 (.t 21), none⟩] [])))))))
(.seq (.seq (.rg 9 false [] [⟨.mv 36 (.t 12), none⟩,
⟨.bin 37 .neq (.t 36) (.c (.d true (.int .i64 0))), none⟩] [])
(.cond (.t 37) (.seq (.rg 10 false [] [⟨.mv 38 (.t 12), none⟩,
⟨.mv 8 (.c (.d true (.bool false))), none⟩,
⟨.mv 9 (.c (.d true (.int .i64 0))), none⟩,
⟨.mv 10 (.t 38), none⟩] [])
.ret) .skip))
(.seq (.seq (.rg 11 false [] [⟨.mv 39 (.t 2), none⟩,
⟨.bin 40 .gtr (.t 39) (.c (.d true (.int .i64 0))), none⟩] [])
(.cond (.t 40) (.seq (.seq (.rg 12 false [] [⟨.fad 41 (.t 4) 4 0, none⟩,
⟨.load 42 (.t 41) 0, none⟩,
⟨.len 43 (.t 42), none⟩,
⟨.mv 44 (.c (.d true (.int .i64 0))), none⟩] [])
(.block 1 (.loop c_push_ask_l1)))
(.rg 17 true [] [⟨.fad 59 (.t 11) 2 0, none⟩,
⟨.load 60 (.t 59) 0, none⟩,
⟨.fad 61 (.t 11) 1 0, none⟩,
⟨.load 62 (.t 61) 0, none⟩,
⟨.ix 63 (.t 62) (.c (.d true (.int .i64 0))) 1, none⟩,
⟨.load 64 (.t 63) 0, none⟩,
⟨.mv 65 (.t 1), none⟩,
⟨.bsl 66 5 1 1 (.k (.int .i64 0)) [(0, (.t 65))], none⟩,
⟨.call 67 k_push_put [(.t 60), (.t 64), (.t 66)] none, none⟩,
⟨.fad 68 (.t 11) 2 0, none⟩,
⟨.store (.t 68) (.t 67) 0, none⟩] [])) .skip))
(.seq (.seq (.rg 18 false [] [⟨.mv 69 (.t 2), none⟩,
⟨.bin 70 .lss (.t 69) (.c (.d true (.int .i64 2))), none⟩] [])
(.cond (.t 70) (.rg 19 true [] [⟨.fad 71 (.t 11) 2 0, none⟩,
⟨.load 72 (.t 71) 0, none⟩,
⟨.fad 73 (.t 11) 1 0, none⟩,
⟨.load 74 (.t 73) 0, none⟩,
⟨.mv 75 (.t 2), none⟩,
⟨.ix 76 (.t 74) (.t 75) 1, none⟩,
⟨.load 77 (.t 76) 0, none⟩,
⟨.mv 78 (.t 1), none⟩,
⟨.bin 79 .xor (.t 78) (.c (.d true (.int .i64 1))), none⟩,
⟨.bsl 80 6 1 1 (.k (.int .i64 0)) [(0, (.t 79))], none⟩,
⟨.call 81 k_push_put [(.t 72), (.t 77), (.t 80)] none, none⟩,
⟨.fad 82 (.t 11) 2 0, none⟩,
⟨.store (.t 82) (.t 81) 0, none⟩] []) (.rg 20 true [] [⟨.fad 83 (.t 11) 2 0, none⟩,
⟨.load 84 (.t 83) 0, none⟩,
⟨.fad 85 (.t 11) 1 0, none⟩,
⟨.load 86 (.t 85) 0, none⟩,
⟨.ix 87 (.t 86) (.c (.d true (.int .i64 0))) 1, none⟩,
⟨.load 88 (.t 87) 0, none⟩,
⟨.fad 89 (.t 4) 3 0, none⟩,
⟨.load 90 (.t 89) 0, none⟩,
⟨.call 91 k_push_put [(.t 84), (.t 88), (.t 90)] none, none⟩,
⟨.fad 92 (.t 11) 2 0, none⟩,
⟨.store (.t 92) (.t 91) 0, none⟩] [])))
(.seq (.seq (.rg 21 false [] [⟨.fad 93 (.t 11) 2 0, none⟩,
⟨.load 94 (.t 93) 0, none⟩,
⟨.len 95 (.t 94), none⟩,
⟨.bin 96 .gtr (.t 95) (.c (.d true (.int .i64 20000))), none⟩] [])
(.cond (.t 96) (.seq (.rg 22 false [] [⟨.mv 8 (.c (.d true (.bool false))), none⟩,
⟨.mv 9 (.c (.d true (.int .i64 0))), none⟩,
⟨.mv 10 (.c (.d true (.int .i64 4))), none⟩] [])
.ret) .skip))
(.seq (.rg 23 false [] [⟨.fad 98 (.t 11) 0 0, none⟩,
⟨.load 99 (.t 98) 0, none⟩,
⟨.fad 100 (.t 11) 2 0, none⟩,
⟨.load 101 (.t 100) 0, none⟩,
⟨.mv 102 (.t 3), none⟩,
⟨.call 103 k_solve_Run [(.t 99), (.t 101), (.t 102)] none, none⟩,
⟨.mv 97 (.t 103), none⟩,
⟨.xt 104 (.t 97) 0, none⟩,
⟨.xt 105 (.t 97) 1, none⟩,
⟨.alloc 15 7 [.k (.bool false), .n 1, .n 1, .n 1, .k (.int .i64 0)], none⟩,
⟨.store (.t 15) (.t 104) 6, none⟩,
⟨.mv 12 (.t 105), none⟩] [])
(.seq (.rg 24 true [] [⟨.fad 106 (.t 15) 0 0, none⟩,
⟨.load 107 (.t 106) 0, none⟩,
⟨.un 108 .not (.t 107), none⟩,
⟨.fad 109 (.t 15) 4 0, none⟩,
⟨.load 110 (.t 109) 0, none⟩,
⟨.mv 111 (.t 12), none⟩,
⟨.mv 8 (.t 108), none⟩,
⟨.mv 9 (.t 110), none⟩,
⟨.mv 10 (.t 111), none⟩] [])
.ret))))))))))
def n_push_ask : Fn := ⟨c_push_ask, [.s 8, .s 9, .s 10], (some [false, false, false, false])⟩

def c_preds_Clauses_l1 : C :=
(.seq (.rg 6 false [] [⟨.bin 29 .lss (.t 28) (.t 27), none⟩] [])
(.seq (.cond (.t 29) .skip (.exit 0))
(.seq (.block 1 (.seq (.rg 7 false [] [⟨.ix 30 (.t 26) (.t 28) 1, none⟩,
⟨.load 31 (.t 30) 0, none⟩,
⟨.mv 7 (.t 31), none⟩] [])
(.seq (.rg 8 false [] [⟨.mv 32 (.t 0), none⟩,
⟨.mv 33 (.t 7), none⟩,
⟨.call 34 k_clause_Check [(.t 32), (.t 33)] none, none⟩,
⟨.bin 35 .neq (.t 34) (.c (.d true (.int .i64 0))), none⟩] [])
(.cond (.t 35) (.seq (.rg 9 false [] [⟨.bld 36 [.n 2, .k (.int .i64 0)] [], none⟩,
⟨.store (.t 4) (.t 36) 3, none⟩,
⟨.mv 5 (.c (.d true (.int .i64 8))), none⟩] [])
.ret) .skip))))
(.rg 10 false [] [⟨.bin 37 .add (.t 28) (.c (.d true (.int .i64 1))), none⟩,
⟨.mv 28 (.t 37), none⟩] []))))
def c_preds_Clauses_l2 : C :=
(.seq (.rg 18 false [] [⟨.bin 49 .lss (.t 48) (.t 47), none⟩] [])
(.seq (.cond (.t 49) .skip (.exit 4))
(.seq (.block 5 (.seq (.rg 19 false [] [⟨.ix 50 (.t 46) (.t 48) 1, none⟩,
⟨.load 51 (.t 50) 0, none⟩,
⟨.mv 14 (.t 51), none⟩] [])
(.rg 20 false [] [⟨.mv 52 (.t 8), none⟩,
⟨.mv 53 (.t 12), none⟩,
⟨.mv 54 (.t 14), none⟩,
⟨.bin 55 .xor (.t 54) (.c (.d true (.int .i64 1))), none⟩,
⟨.call 56 k_preds_builder_and [(.t 52), (.t 53), (.t 55)] none, none⟩,
⟨.mv 12 (.t 56), none⟩] [])))
(.rg 21 false [] [⟨.bin 57 .add (.t 48) (.c (.d true (.int .i64 1))), none⟩,
⟨.mv 48 (.t 57), none⟩] []))))
def c_preds_Clauses_l3 : C :=
(.seq (.rg 14 false [] [⟨.bin 43 .lss (.t 42) (.t 41), none⟩] [])
(.seq (.cond (.t 43) .skip (.exit 2))
(.seq (.block 3 (.seq (.rg 15 false [] [⟨.ix 44 (.t 40) (.t 42) 1, none⟩,
⟨.load 45 (.t 44) 0, none⟩,
⟨.mv 11 (.t 45), none⟩] [])
(.seq (.rg 16 false [] [⟨.mv 12 (.c (.d true (.int .i64 1))), none⟩] [])
(.seq (.seq (.rg 17 false [] [⟨.mv 46 (.t 11), none⟩,
⟨.len 47 (.t 46), none⟩,
⟨.mv 48 (.c (.d true (.int .i64 0))), none⟩] [])
(.block 4 (.loop c_preds_Clauses_l2)))
(.rg 22 false [] [⟨.mv 58 (.t 8), none⟩,
⟨.mv 59 (.t 9), none⟩,
⟨.mv 60 (.t 12), none⟩,
⟨.bin 61 .xor (.t 60) (.c (.d true (.int .i64 1))), none⟩,
⟨.call 62 k_preds_builder_and [(.t 58), (.t 59), (.t 61)] none, none⟩,
⟨.mv 9 (.t 62), none⟩] [])))))
(.rg 23 false [] [⟨.bin 63 .add (.t 42) (.c (.d true (.int .i64 1))), none⟩,
⟨.mv 42 (.t 63), none⟩] []))))
def c_preds_Clauses : C :=
(.seq (.rg 0 false [] [⟨.alloc 4 0 [.r 1 2, .k (.int .i64 0)], none⟩,
⟨.mv 5 (.c (.d true (.int .i64 0))), none⟩] [])
(.seq (.seq (.rg 1 false [] [⟨.mv 15 (.t 0), none⟩,
⟨.bin 16 .lss (.t 15) (.c (.d true (.int .i64 0))), none⟩,
⟨.mv 17 (.t 16), none⟩,
⟨.mv 18 (.t 0), some (17, false)⟩,
⟨.bin 19 .gtr (.t 18) (.c (.d true (.int .i64 1000))), some (17, false)⟩,
⟨.pick 20 (.t 17) (.c (.d true (.bool true))) (.t 19), none⟩] [])
(.cond (.t 20) (.seq (.rg 2 false [] [⟨.bld 21 [.n 2, .k (.int .i64 0)] [], none⟩,
⟨.store (.t 4) (.t 21) 3, none⟩,
⟨.mv 5 (.c (.d true (.int .i64 2))), none⟩] [])
.ret) .skip))
(.seq (.seq (.rg 3 false [] [⟨.mv 22 (.t 1), none⟩,
⟨.len 23 (.t 22), none⟩,
⟨.bin 24 .gtr (.t 23) (.c (.d true (.int .i64 1000))), none⟩] [])
(.cond (.t 24) (.seq (.rg 4 false [] [⟨.bld 25 [.n 2, .k (.int .i64 0)] [], none⟩,
⟨.store (.t 4) (.t 25) 3, none⟩,
⟨.mv 5 (.c (.d true (.int .i64 4))), none⟩] [])
.ret) .skip))
(.seq (.seq (.rg 5 false [] [⟨.mv 26 (.t 1), none⟩,
⟨.len 27 (.t 26), none⟩,
⟨.mv 28 (.c (.d true (.int .i64 0))), none⟩] [])
(.block 0 (.loop c_preds_Clauses_l1)))
(.seq (.rg 11 false [] [⟨.mv 38 (.t 0), none⟩,
⟨.call 39 k_preds_over [(.t 38), (.c (.nil 2))] (some 11), none⟩,
⟨.mv 8 (.t 39), none⟩] [])
(.seq (.rg 12 false [] [⟨.mv 9 (.c (.d true (.int .i64 1))), none⟩] [])
(.seq (.seq (.rg 13 false [] [⟨.mv 40 (.t 1), none⟩,
⟨.len 41 (.t 40), none⟩,
⟨.mv 42 (.c (.d true (.int .i64 0))), none⟩] [])
(.block 2 (.loop c_preds_Clauses_l3)))
(.seq (.rg 24 false [] [⟨.mv 64 (.t 8), none⟩,
⟨.mv 65 (.t 9), none⟩,
⟨.call 66 k_preds_builder_pred [(.t 64), (.t 65)] none, none⟩,
⟨.xt 67 (.t 66) 0, none⟩,
⟨.xt 68 (.t 66) 1, none⟩,
⟨.store (.t 4) (.t 67) 3, none⟩,
⟨.mv 5 (.t 68), none⟩] [])
.ret))))))))
def n_preds_Clauses : Fn := ⟨c_preds_Clauses, [.c 4 3, .s 5], (some [false, false])⟩

def c_unroll_made_l1 : C :=
(.seq (.rg 11 false [] [⟨.bin 41 .lss (.t 40) (.t 39), none⟩] [])
(.seq (.cond (.t 41) .skip (.exit 2))
(.seq (.block 3 (.seq (.rg 12 false [.kill 8 9] [⟨.ix 42 (.t 38) (.t 40) 2, none⟩,
⟨.load 43 (.t 42) 3, none⟩,
⟨.alloc 11 8 [.k (.int .i64 0), .k (.int .i64 0)], none⟩,
⟨.store (.t 11) (.t 43) 3, none⟩] [])
(.rg 13 false [.kill 9 10] [⟨.mv 44 (.t 2), none⟩,
⟨.mv 45 (.t 9), none⟩,
⟨.fad 46 (.t 11) 0 0, none⟩,
⟨.load 47 (.t 46) 0, none⟩,
⟨.call 48 k_unroll_lit [(.t 45), (.t 47)] none, none⟩,
⟨.bsl 49 9 1 1 (.k (.int .i64 0)) [(0, (.t 48))], none⟩,
⟨.app 50 10 1 (.t 44) (.t 49), none⟩,
⟨.mv 2 (.t 50), none⟩] [])))
(.rg 14 false [] [⟨.bin 51 .add (.t 40) (.c (.d true (.int .i64 1))), none⟩,
⟨.mv 40 (.t 51), none⟩] []))))
def c_unroll_made_l2 : C :=
(.seq (.rg 5 false [] [⟨.bin 21 .lss (.t 20) (.t 19), none⟩] [])
(.seq (.cond (.t 21) .skip (.exit 0))
(.seq (.block 1 (.seq (.seq (.rg 6 false [] [⟨.load 22 (.t 3) 6, none⟩,
⟨.mv 23 (.t 2), none⟩,
⟨.call 24 k_unroll_frames_frame [(.t 8), (.t 22), (.t 23)] none, none⟩,
⟨.un 25 .not (.t 24), none⟩] [])
(.cond (.t 25) (.seq (.rg 7 false [] [⟨.bld 26 [.k (.int .i64 0), .n 1, .n 1] [], none⟩,
⟨.store (.t 6) (.t 26) 4, none⟩,
⟨.mv 7 (.c (.d true (.int .i64 4))), none⟩] [])
.ret) .skip))
(.seq (.rg 8 false [] [⟨.fad 27 (.t 8) 0 4, none⟩,
⟨.fad 28 (.t 27) 1 0, none⟩,
⟨.load 29 (.t 28) 0, none⟩,
⟨.fad 30 (.t 8) 0 4, none⟩,
⟨.fad 31 (.t 30) 1 0, none⟩,
⟨.load 32 (.t 31) 0, none⟩,
⟨.len 33 (.t 32), none⟩,
⟨.bin 34 .sub (.t 33) (.c (.d true (.int .i64 1))), none⟩,
⟨.ix 35 (.t 29) (.t 34) 1, none⟩,
⟨.load 36 (.t 35) 0, none⟩,
⟨.mv 9 (.t 36), none⟩] [])
(.seq (.rg 9 false [.kill 7 8] [⟨.nilr 2 7 1, none⟩] [])
(.seq (.rg 10 false [] [⟨.fad 37 (.t 3) 1 0, none⟩,
⟨.load 38 (.t 37) 0, none⟩,
⟨.len 39 (.t 38), none⟩,
⟨.mv 40 (.c (.d true (.int .i64 0))), none⟩] [])
(.block 2 (.loop c_unroll_made_l1)))))))
(.rg 15 false [] [⟨.bin 52 .add (.t 20) (.c (.d true (.int .i64 1))), none⟩,
⟨.mv 20 (.t 52), none⟩] []))))
def c_unroll_made : C :=
(.seq (.rg 0 false [] [⟨.box 3 0 (.t 0) 6, none⟩,
⟨.alloc 6 1 [.k (.int .i64 0), .r 2 1, .r 3 1], none⟩,
⟨.mv 7 (.c (.d true (.int .i64 0))), none⟩] [])
(.seq (.seq (.rg 1 false [] [⟨.mv 12 (.t 1), none⟩,
⟨.bin 13 .lss (.t 12) (.c (.d true (.int .i64 1))), none⟩,
⟨.mv 14 (.t 13), none⟩,
⟨.mv 15 (.t 1), some (14, false)⟩,
⟨.bin 16 .gtr (.t 15) (.c (.d true (.int .i64 100))), some (14, false)⟩,
⟨.pick 17 (.t 14) (.c (.d true (.bool true))) (.t 16), none⟩] [])
(.cond (.t 17) (.seq (.rg 2 false [] [⟨.bld 18 [.k (.int .i64 0), .n 1, .n 1] [], none⟩,
⟨.store (.t 6) (.t 18) 4, none⟩,
⟨.mv 7 (.c (.d true (.int .i64 2))), none⟩] [])
.ret) .skip))
(.seq (.rg 3 false [] [⟨.alloc 8 4 [.k (.int .i64 0), .r 5 1, .r 6 1], none⟩] [])
(.seq (.seq (.rg 4 false [] [⟨.mv 19 (.t 1), none⟩,
⟨.mv 20 (.c (.d true (.int .i64 0))), none⟩] [])
(.block 0 (.loop c_unroll_made_l2)))
(.seq (.rg 16 false [] [⟨.fad 53 (.t 8) 0 4, none⟩,
⟨.load 54 (.t 53) 4, none⟩,
⟨.store (.t 6) (.t 54) 4, none⟩,
⟨.mv 7 (.c (.d true (.int .i64 0))), none⟩] [])
.ret)))))
def n_unroll_made : Fn := ⟨c_unroll_made, [.c 6 4, .s 7], (some [false, false, false])⟩

def c_slices_Sort_of_int : C :=
(.seq (.rg 0 false [] [⟨.mv 3 (.t 0), none⟩,
⟨.len 4 (.t 3), none⟩,
⟨.mv 2 (.t 4), none⟩] [])
(.rg 1 false [] [⟨.mv 5 (.t 0), none⟩,
⟨.mv 6 (.t 2), none⟩,
⟨.mv 7 (.t 2), none⟩,
⟨.cvt 8 .u64 (.t 7), none⟩,
⟨.call 9 k_bits_Len [(.t 8)] none, none⟩,
⟨.call 10 k_slices_pdqsortOrdered_of_int [(.t 5), (.c (.d true (.int .i64 0))), (.t 6), (.t 9)] none, none⟩] []))
def n_slices_Sort_of_int : Fn := ⟨c_slices_Sort_of_int, [], none⟩

def c_slices_Compact_of_int_l1 : C :=
(.seq (.seq (.rg 9 false [] [⟨.mv 29 (.t 5), none⟩,
⟨.mv 30 (.t 4), none⟩,
⟨.len 31 (.t 30), none⟩,
⟨.bin 32 .lss (.t 29) (.t 31), none⟩] [])
(.cond (.t 32) .skip (.exit 2)))
(.seq (.block 3 (.seq (.rg 11 true [] [⟨.mv 35 (.t 4), none⟩,
⟨.mv 36 (.t 5), none⟩,
⟨.ix 37 (.t 35) (.t 36) 1, none⟩,
⟨.load 38 (.t 37) 0, none⟩,
⟨.mv 39 (.t 4), none⟩,
⟨.mv 40 (.t 5), none⟩,
⟨.bin 41 .sub (.t 40) (.c (.d true (.int .i64 1))), none⟩,
⟨.ix 42 (.t 39) (.t 41) 1, none⟩,
⟨.load 43 (.t 42) 0, none⟩,
⟨.bin 44 .neq (.t 38) (.t 43), none⟩] [])
(.cond (.t 44) (.seq (.rg 12 false [] [⟨.mv 45 (.t 0), none⟩,
⟨.mv 46 (.t 3), none⟩,
⟨.mv 47 (.t 4), none⟩,
⟨.mv 48 (.t 5), none⟩,
⟨.ix 49 (.t 47) (.t 48) 1, none⟩,
⟨.load 50 (.t 49) 0, none⟩,
⟨.ix 51 (.t 45) (.t 46) 1, none⟩,
⟨.store (.t 51) (.t 50) 0, none⟩] [])
(.rg 13 false [] [⟨.mv 52 (.t 3), none⟩,
⟨.bin 53 .add (.t 52) (.c (.d true (.int .i64 1))), none⟩,
⟨.mv 3 (.t 53), none⟩] [])) .skip)))
(.rg 10 false [] [⟨.mv 33 (.t 5), none⟩,
⟨.bin 34 .add (.t 33) (.c (.d true (.int .i64 1))), none⟩,
⟨.mv 5 (.t 34), none⟩] [])))
def c_slices_Compact_of_int_l2 : C :=
(.seq (.seq (.rg 4 false [] [⟨.mv 10 (.t 3), none⟩,
⟨.mv 11 (.t 0), none⟩,
⟨.len 12 (.t 11), none⟩,
⟨.bin 13 .lss (.t 10) (.t 12), none⟩] [])
(.cond (.t 13) .skip (.exit 0)))
(.seq (.block 1 (.seq (.rg 6 true [] [⟨.mv 16 (.t 0), none⟩,
⟨.mv 17 (.t 3), none⟩,
⟨.ix 18 (.t 16) (.t 17) 1, none⟩,
⟨.load 19 (.t 18) 0, none⟩,
⟨.mv 20 (.t 0), none⟩,
⟨.mv 21 (.t 3), none⟩,
⟨.bin 22 .sub (.t 21) (.c (.d true (.int .i64 1))), none⟩,
⟨.ix 23 (.t 20) (.t 22) 1, none⟩,
⟨.load 24 (.t 23) 0, none⟩,
⟨.bin 25 .eql (.t 19) (.t 24), none⟩] [])
(.cond (.t 25) (.seq (.rg 7 false [] [⟨.mv 26 (.t 0), none⟩,
⟨.mv 27 (.t 3), none⟩,
⟨.slc 28 1 (.t 26) (some (.t 27)) none none, none⟩,
⟨.mv 4 (.t 28), none⟩] [])
(.seq (.seq (.rg 8 false [] [⟨.mv 5 (.c (.d true (.int .i64 1))), none⟩] [])
(.block 2 (.loop c_slices_Compact_of_int_l1)))
(.seq (.rg 14 false [] [⟨.mv 54 (.t 0), none⟩,
⟨.mv 55 (.t 3), none⟩,
⟨.slc 56 1 (.t 54) (some (.t 55)) none none, none⟩,
⟨.clr 1 (.t 56) (.k (.int .i64 0)), none⟩] [])
(.seq (.rg 15 false [] [⟨.mv 57 (.t 0), none⟩,
⟨.mv 58 (.t 3), none⟩,
⟨.slc 59 1 (.t 57) none (some (.t 58)) none, none⟩,
⟨.mv 2 (.t 59), none⟩] [])
.ret)))) .skip)))
(.rg 5 false [] [⟨.mv 14 (.t 3), none⟩,
⟨.bin 15 .add (.t 14) (.c (.d true (.int .i64 1))), none⟩,
⟨.mv 3 (.t 15), none⟩] [])))
def c_slices_Compact_of_int : C :=
(.seq (.rg 0 false [] [⟨.mv 2 (.c (.nil 1)), none⟩] [])
(.seq (.seq (.rg 1 false [] [⟨.mv 6 (.t 0), none⟩,
⟨.len 7 (.t 6), none⟩,
⟨.bin 8 .lss (.t 7) (.c (.d true (.int .i64 2))), none⟩] [])
(.cond (.t 8) (.seq (.rg 2 false [] [⟨.mv 9 (.t 0), none⟩,
⟨.mv 2 (.t 9), none⟩] [])
.ret) .skip))
(.seq (.seq (.rg 3 false [] [⟨.mv 3 (.c (.d true (.int .i64 1))), none⟩] [])
(.block 0 (.loop c_slices_Compact_of_int_l2)))
(.seq (.rg 16 false [] [⟨.mv 60 (.t 0), none⟩,
⟨.mv 2 (.t 60), none⟩] [])
.ret))))
def n_slices_Compact_of_int : Fn := ⟨c_slices_Compact_of_int, [.s 2], none⟩

def c_solve_check_l1 : C :=
(.seq (.rg 4 false [] [⟨.bin 13 .lss (.t 12) (.t 11), none⟩] [])
(.seq (.cond (.t 13) .skip (.exit 0))
(.seq (.block 1 (.seq (.rg 5 false [] [⟨.ix 14 (.t 10) (.t 12) 1, none⟩,
⟨.load 15 (.t 14) 0, none⟩,
⟨.mv 6 (.t 15), none⟩] [])
(.seq (.rg 6 false [] [⟨.mv 16 (.t 0), none⟩,
⟨.mv 17 (.t 6), none⟩,
⟨.call 18 k_clause_Check [(.t 16), (.t 17)] none, none⟩,
⟨.bin 19 .neq (.t 18) (.c (.d true (.int .i64 0))), none⟩] [])
(.cond (.t 19) (.seq (.rg 7 false [] [⟨.mv 4 (.c (.d true (.int .i64 8))), none⟩] [])
.ret) .skip))))
(.rg 8 false [] [⟨.bin 20 .add (.t 12) (.c (.d true (.int .i64 1))), none⟩,
⟨.mv 12 (.t 20), none⟩] []))))
def c_solve_check : C :=
(.seq (.rg 0 false [] [⟨.mv 4 (.c (.d true (.int .i64 0))), none⟩] [])
(.seq (.seq (.rg 1 false [] [⟨.mv 7 (.t 1), none⟩,
⟨.len 8 (.t 7), none⟩,
⟨.bin 9 .gtr (.t 8) (.c (.d true (.int .i64 20000))), none⟩] [])
(.cond (.t 9) (.seq (.rg 2 false [] [⟨.mv 4 (.c (.d true (.int .i64 4))), none⟩] [])
.ret) .skip))
(.seq (.seq (.rg 3 false [] [⟨.mv 10 (.t 1), none⟩,
⟨.len 11 (.t 10), none⟩,
⟨.mv 12 (.c (.d true (.int .i64 0))), none⟩] [])
(.block 0 (.loop c_solve_check_l1)))
(.seq (.rg 9 false [] [⟨.mv 4 (.c (.d true (.int .i64 0))), none⟩] [])
.ret))))
def n_solve_check : Fn := ⟨c_solve_check, [.s 4], (some [false, false])⟩

def c_unit_Run_l1 : C :=
(.seq (.rg 7 false [] [⟨.bin 28 .lss (.t 27) (.t 26), none⟩] [])
(.seq (.cond (.t 28) .skip (.exit 0))
(.seq (.block 1 (.seq (.rg 8 false [] [⟨.ix 29 (.t 25) (.t 27) 1, none⟩,
⟨.load 30 (.t 29) 0, none⟩,
⟨.mv 9 (.t 30), none⟩] [])
(.seq (.rg 9 false [] [⟨.fad 31 (.t 2) 0 0, none⟩,
⟨.load 32 (.t 31) 0, none⟩,
⟨.mv 33 (.t 9), none⟩,
⟨.call 34 k_clause_Check [(.t 32), (.t 33)] none, none⟩,
⟨.mv 10 (.t 34), none⟩] [])
(.seq (.rg 10 false [] [⟨.mv 35 (.t 10), none⟩,
⟨.bin 36 .neq (.t 35) (.c (.d true (.int .i64 0))), none⟩] [])
(.cond (.t 36) (.seq (.rg 11 false [] [⟨.bld 37 [.k (.int .i64 0), .n 1, .n 1] [], none⟩,
⟨.mv 38 (.t 10), none⟩,
⟨.store (.t 4) (.t 37) 4, none⟩,
⟨.mv 5 (.c (.d true (.int .i64 0))), none⟩,
⟨.mv 6 (.t 38), none⟩] [])
.ret) .skip)))))
(.rg 12 false [] [⟨.bin 39 .add (.t 27) (.c (.d true (.int .i64 1))), none⟩,
⟨.mv 27 (.t 39), none⟩] []))))
def c_unit_Run_l2 : C :=
(.block 3 (.seq (.rg 15 false [] [⟨.mv 52 (.t 12), none⟩,
⟨.mv 53 (.t 1), none⟩,
⟨.call 54 k_unit_next [(.t 52), (.t 53)] none, none⟩,
⟨.mv 51 (.t 54), none⟩,
⟨.xt 55 (.t 51) 0, none⟩,
⟨.xt 56 (.t 51) 1, none⟩,
⟨.mv 13 (.t 55), none⟩,
⟨.mv 14 (.t 56), none⟩] [])
(.seq (.seq (.rg 16 false [] [⟨.mv 57 (.t 13), none⟩,
⟨.bin 58 .geq (.t 57) (.c (.d true (.int .i64 0))), none⟩,
⟨.mv 59 (.t 58), none⟩,
⟨.mv 60 (.t 14), some (59, false)⟩,
⟨.bin 61 .eql (.t 60) (.c (.d true (.int .i64 0))), some (59, false)⟩,
⟨.pick 62 (.t 59) (.c (.d true (.bool true))) (.t 61), none⟩] [])
(.cond (.t 62) (.seq (.rg 17 false [] [⟨.load 63 (.t 11) 4, none⟩,
⟨.mv 64 (.t 13), none⟩,
⟨.store (.t 4) (.t 63) 4, none⟩,
⟨.mv 5 (.t 64), none⟩,
⟨.mv 6 (.c (.d true (.int .i64 0))), none⟩] [])
.ret) .skip))
(.seq (.rg 18 false [] [⟨.mv 65 (.t 12), none⟩,
⟨.mv 66 (.t 14), none⟩,
⟨.mv 67 (.t 12), none⟩,
⟨.mv 68 (.t 14), none⟩,
⟨.bin 69 .xor (.t 68) (.c (.d true (.int .i64 1))), none⟩,
⟨.ix 70 (.t 65) (.t 66) 1, none⟩,
⟨.store (.t 70) (.c (.d true (.int .u8 1))) 0, none⟩,
⟨.ix 71 (.t 67) (.t 69) 1, none⟩,
⟨.store (.t 71) (.c (.d true (.int .u8 0))) 0, none⟩] [])
(.rg 19 false [.kill 5 6] [⟨.fad 72 (.t 11) 1 0, none⟩,
⟨.load 73 (.t 72) 0, none⟩,
⟨.mv 74 (.t 14), none⟩,
⟨.bsl 75 5 1 1 (.k (.int .i64 0)) [(0, (.t 74))], none⟩,
⟨.app 76 6 1 (.t 73) (.t 75), none⟩,
⟨.fad 77 (.t 11) 1 0, none⟩,
⟨.store (.t 77) (.t 76) 0, none⟩] [])))))
def c_unit_Run : C :=
(.seq (.rg 0 false [] [⟨.box 2 0 (.t 0) 4, none⟩,
⟨.alloc 4 1 [.k (.int .i64 0), .r 2 1, .r 3 1], none⟩,
⟨.mv 5 (.c (.d true (.int .i64 0))), none⟩,
⟨.mv 6 (.c (.d true (.int .i64 0))), none⟩] [])
(.seq (.seq (.rg 1 false [] [⟨.load 15 (.t 2) 4, none⟩,
⟨.call 16 k_assign_Check [(.t 15)] none, none⟩,
⟨.mv 7 (.t 16), none⟩] [])
(.seq (.rg 2 false [] [⟨.mv 17 (.t 7), none⟩,
⟨.bin 18 .neq (.t 17) (.c (.d true (.int .i64 0))), none⟩] [])
(.cond (.t 18) (.seq (.rg 3 false [] [⟨.bld 19 [.k (.int .i64 0), .n 1, .n 1] [], none⟩,
⟨.mv 20 (.t 7), none⟩,
⟨.store (.t 4) (.t 19) 4, none⟩,
⟨.mv 5 (.c (.d true (.int .i64 0))), none⟩,
⟨.mv 6 (.t 20), none⟩] [])
.ret) .skip)))
(.seq (.seq (.rg 4 false [] [⟨.mv 21 (.t 1), none⟩,
⟨.len 22 (.t 21), none⟩,
⟨.bin 23 .gtr (.t 22) (.c (.d true (.int .i64 20000))), none⟩] [])
(.cond (.t 23) (.seq (.rg 5 false [] [⟨.bld 24 [.k (.int .i64 0), .n 1, .n 1] [], none⟩,
⟨.store (.t 4) (.t 24) 4, none⟩,
⟨.mv 5 (.c (.d true (.int .i64 0))), none⟩,
⟨.mv 6 (.c (.d true (.int .i64 4))), none⟩] [])
.ret) .skip))
(.seq (.seq (.rg 6 false [] [⟨.mv 25 (.t 1), none⟩,
⟨.len 26 (.t 25), none⟩,
⟨.mv 27 (.c (.d true (.int .i64 0))), none⟩] [])
(.block 0 (.loop c_unit_Run_l1)))
(.seq (.rg 13 true [] [⟨.fad 40 (.t 2) 0 0, none⟩,
⟨.load 41 (.t 40) 0, none⟩,
⟨.fad 42 (.t 2) 1 0, none⟩,
⟨.load 43 (.t 42) 0, none⟩,
⟨.call 44 k_slices_Clone_of_int [(.t 43)] (some 44), none⟩,
⟨.fad 45 (.t 2) 2 0, none⟩,
⟨.load 46 (.t 45) 0, none⟩,
⟨.call 47 k_slices_Clone_of_int [(.t 46)] (some 45), none⟩,
⟨.bld 48 [.k (.int .i64 0), .n 1, .n 1] [(0, 0, (.t 41)), (1, 0, (.t 44)), (2, 0, (.t 47))], none⟩,
⟨.alloc 11 4 [.k (.int .i64 0), .n 1, .n 1], none⟩,
⟨.store (.t 11) (.t 48) 4, none⟩] [[0, 2, 3, 5, 6, 9, 4, 7, 1, 8, 10], [0, 2, 3, 5, 9, 4, 6, 7, 1, 8, 10], [0, 2, 3, 5, 6, 9, 4, 1, 7, 8, 10], [0, 1, 2, 3, 5, 6, 9, 4, 7, 8, 10], [0, 2, 3, 5, 9, 4, 1, 6, 7, 8, 10], [0, 1, 2, 3, 5, 9, 4, 6, 7, 8, 10], [0, 2, 3, 5, 6, 4, 9, 7, 1, 8, 10], [0, 2, 3, 4, 5, 6, 9, 7, 1, 8, 10], [0, 2, 3, 5, 6, 4, 1, 9, 7, 8, 10], [0, 1, 2, 3, 5, 6, 4, 9, 7, 8, 10], [0, 2, 3, 4, 1, 5, 6, 9, 7, 8, 10], [0, 1, 2, 3, 4, 5, 6, 9, 7, 8, 10], [0, 2, 3, 5, 6, 4, 7, 1, 8, 9, 10], [0, 2, 3, 4, 5, 6, 7, 1, 8, 9, 10], [0, 2, 3, 5, 6, 4, 1, 7, 8, 9, 10], [0, 1, 2, 3, 5, 6, 4, 7, 8, 9, 10], [0, 2, 3, 4, 1, 5, 6, 7, 8, 9, 10]])
(.seq (.rg 14 false [] [⟨.load 49 (.t 2) 4, none⟩,
⟨.call 50 k_unit_values [(.t 49)] (some 40), none⟩,
⟨.mv 12 (.t 50), none⟩] [])
(.block 2 (.loop c_unit_Run_l2))))))))
def n_unit_Run : Fn := ⟨c_unit_Run, [.c 4 4, .s 5, .s 6], (some [false, false])⟩

def c_solve_solver_fail_l1 : C :=
(.seq (.rg 3 false [] [⟨.bin 18 .lss (.t 17) (.t 16), none⟩] [])
(.seq (.cond (.t 18) .skip (.exit 0))
(.seq (.block 1 (.seq (.rg 4 false [] [⟨.ix 19 (.t 15) (.t 17) 1, none⟩,
⟨.load 20 (.t 19) 0, none⟩,
⟨.mv 6 (.t 20), none⟩] [])
(.rg 5 false [.kill 1 2] [⟨.mv 21 (.t 4), none⟩,
⟨.mv 22 (.t 0), none⟩,
⟨.chk 23 (.t 22), none⟩,
⟨.fad 24 (.t 23) 2 4, none⟩,
⟨.fad 25 (.t 24) 1 0, none⟩,
⟨.load 26 (.t 25) 0, none⟩,
⟨.mv 27 (.t 6), none⟩,
⟨.ix 28 (.t 26) (.t 27) 1, none⟩,
⟨.load 29 (.t 28) 0, none⟩,
⟨.bsl 30 1 1 1 (.k (.int .i64 0)) [(0, (.t 29))], none⟩,
⟨.app 31 2 1 (.t 21) (.t 30), none⟩,
⟨.mv 4 (.t 31), none⟩] [])))
(.rg 6 false [] [⟨.bin 32 .add (.t 17) (.c (.d true (.int .i64 1))), none⟩,
⟨.mv 17 (.t 32), none⟩] []))))
def c_solve_solver_fail : C :=
(.seq (.rg 0 false [] [⟨.mv 2 (.c (.d true (.bool false))), none⟩,
⟨.mv 3 (.c (.d true (.int .i64 0))), none⟩] [])
(.seq (.rg 1 false [] [⟨.nilr 4 0 1, none⟩] [])
(.seq (.seq (.rg 2 false [] [⟨.mv 11 (.t 0), none⟩,
⟨.chk 12 (.t 11), none⟩,
⟨.fad 13 (.t 12) 2 4, none⟩,
⟨.fad 14 (.t 13) 2 0, none⟩,
⟨.load 15 (.t 14) 0, none⟩,
⟨.len 16 (.t 15), none⟩,
⟨.mv 17 (.c (.d true (.int .i64 0))), none⟩] [])
(.block 0 (.loop c_solve_solver_fail_l1)))
(.seq (.rg 7 false [] [⟨.mv 7 (.c (.nil 1)), none⟩] [])
(.seq (.seq (.rg 8 false [] [⟨.mv 33 (.t 4), none⟩,
⟨.len 34 (.t 33), none⟩,
⟨.bin 35 .gtr (.t 34) (.c (.d true (.int .i64 0))), none⟩] [])
(.cond (.t 35) (.seq (.rg 9 false [] [⟨.mv 8 (.c (.d true (.int .i64 0))), none⟩] [])
(.seq (.rg 10 true [] [⟨.mv 37 (.t 0), none⟩,
⟨.chk 38 (.t 37), none⟩,
⟨.fad 39 (.t 38) 0 0, none⟩,
⟨.load 40 (.t 39) 0, none⟩,
⟨.mv 41 (.t 0), none⟩,
⟨.chk 42 (.t 41), none⟩,
⟨.fad 43 (.t 42) 1 0, none⟩,
⟨.load 44 (.t 43) 0, none⟩,
⟨.mv 45 (.t 4), none⟩,
⟨.call 46 k_learn_Clause [(.t 40), (.t 44), (.t 45)] none, none⟩,
⟨.mv 36 (.t 46), none⟩,
⟨.xt 47 (.t 36) 0, none⟩,
⟨.xt 48 (.t 36) 1, none⟩,
⟨.mv 7 (.t 47), none⟩,
⟨.mv 8 (.t 48), none⟩] [])
(.seq (.rg 11 false [] [⟨.mv 49 (.t 8), none⟩,
⟨.bin 50 .neq (.t 49) (.c (.d true (.int .i64 0))), none⟩] [])
(.cond (.t 50) (.seq (.rg 12 false [] [⟨.mv 51 (.t 8), none⟩,
⟨.mv 2 (.c (.d true (.bool false))), none⟩,
⟨.mv 3 (.t 51), none⟩] [])
.ret) .skip)))) .skip))
(.seq (.seq (.rg 13 false [] [⟨.mv 52 (.t 0), none⟩,
⟨.chk 53 (.t 52), none⟩,
⟨.fad 54 (.t 53) 1 0, none⟩,
⟨.load 55 (.t 54) 0, none⟩,
⟨.len 56 (.t 55), none⟩,
⟨.bin 57 .eql (.t 56) (.c (.d true (.int .i64 20000))), none⟩] [])
(.cond (.t 57) (.seq (.rg 14 false [] [⟨.mv 2 (.c (.d true (.bool false))), none⟩,
⟨.mv 3 (.c (.d true (.int .i64 55))), none⟩] [])
.ret) .skip))
(.seq (.seq (.rg 15 false [] [⟨.mv 58 (.t 7), none⟩,
⟨.len 59 (.t 58), none⟩,
⟨.bin 60 .eql (.t 59) (.c (.d true (.int .i64 0))), none⟩] [])
(.cond (.t 60) (.seq (.rg 16 false [] [⟨.mv 61 (.t 0), none⟩,
⟨.mv 62 (.c (.nil 1)), none⟩,
⟨.call 63 k_solve_solver_learn [(.t 61), (.t 62)] none, none⟩] [])
(.seq (.rg 17 false [] [⟨.mv 2 (.c (.d true (.bool false))), none⟩,
⟨.mv 3 (.c (.d true (.int .i64 0))), none⟩] [])
.ret)) .skip))
(.seq (.rg 18 false [] [⟨.mv 64 (.t 0), none⟩,
⟨.chk 65 (.t 64), none⟩,
⟨.fad 66 (.t 65) 5 6, none⟩,
⟨.fad 67 (.t 66) 4 0, none⟩,
⟨.load 68 (.t 67) 0, none⟩,
⟨.bin 69 .add (.t 68) (.c (.d true (.int .i64 1))), none⟩,
⟨.chk 70 (.t 64), none⟩,
⟨.fad 71 (.t 70) 5 6, none⟩,
⟨.fad 72 (.t 71) 4 0, none⟩,
⟨.store (.t 72) (.t 69) 0, none⟩] [])
(.seq (.rg 19 false [] [⟨.mv 74 (.t 0), none⟩,
⟨.chk 75 (.t 74), none⟩,
⟨.fad 76 (.t 75) 2 4, none⟩,
⟨.load 77 (.t 76) 4, none⟩,
⟨.mv 78 (.t 7), none⟩,
⟨.call 79 k_jump_Back [(.t 77), (.t 78)] none, none⟩,
⟨.mv 73 (.t 79), none⟩,
⟨.xt 80 (.t 73) 0, none⟩,
⟨.xt 81 (.t 73) 1, none⟩,
⟨.alloc 9 3 [.k (.int .i64 0), .n 1, .n 1], none⟩,
⟨.store (.t 9) (.t 80) 4, none⟩,
⟨.mv 10 (.t 81), none⟩] [])
(.seq (.seq (.rg 20 false [] [⟨.mv 82 (.t 10), none⟩,
⟨.bin 83 .neq (.t 82) (.c (.d true (.int .i64 0))), none⟩] [])
(.cond (.t 83) (.seq (.rg 21 false [] [⟨.mv 84 (.t 10), none⟩,
⟨.mv 2 (.c (.d true (.bool false))), none⟩,
⟨.mv 3 (.t 84), none⟩] [])
.ret) .skip))
(.seq (.rg 22 false [] [⟨.mv 85 (.t 0), none⟩,
⟨.mv 86 (.t 7), none⟩,
⟨.call 87 k_solve_solver_learn [(.t 85), (.t 86)] none, none⟩] [])
(.seq (.rg 23 false [] [⟨.mv 88 (.t 0), none⟩,
⟨.load 89 (.t 9) 4, none⟩,
⟨.chk 90 (.t 88), none⟩,
⟨.fad 91 (.t 90) 2 4, none⟩,
⟨.store (.t 91) (.t 89) 4, none⟩] [])
(.seq (.rg 24 false [] [⟨.mv 2 (.c (.d true (.bool true))), none⟩,
⟨.mv 3 (.c (.d true (.int .i64 0))), none⟩] [])
.ret)))))))))))))
def n_solve_solver_fail : Fn := ⟨c_solve_solver_fail, [.s 2, .s 3], none⟩

def c_solve_solver_choose : C :=
(.seq (.rg 0 false [] [⟨.mv 4 (.c (.d true (.bool false))), none⟩] [])
(.seq (.rg 1 false [] [⟨.mv 9 (.t 1), none⟩,
⟨.mv 10 (.t 0), none⟩,
⟨.chk 11 (.t 10), none⟩,
⟨.fad 12 (.t 11) 2 4, none⟩,
⟨.load 13 (.t 12) 4, none⟩,
⟨.call 14 k_decide_Next [(.t 9), (.t 13)] none, none⟩,
⟨.mv 8 (.t 14), none⟩,
⟨.xt 15 (.t 8) 0, none⟩,
⟨.xt 16 (.t 8) 1, none⟩,
⟨.xt 17 (.t 8) 2, none⟩,
⟨.mv 5 (.t 15), none⟩,
⟨.mv 6 (.t 16), none⟩,
⟨.mv 7 (.t 17), none⟩] [])
(.seq (.seq (.rg 2 false [] [⟨.mv 18 (.t 7), none⟩,
⟨.bin 19 .neq (.t 18) (.c (.d true (.int .i64 0))), none⟩] [])
(.cond (.t 19) (.seq (.rg 3 false [] [⟨.mv 4 (.c (.d true (.bool false))), none⟩] [])
.ret) .skip))
(.seq (.rg 4 true [] [⟨.mv 20 (.t 0), none⟩,
⟨.mv 21 (.t 0), none⟩,
⟨.chk 22 (.t 21), none⟩,
⟨.fad 23 (.t 22) 2 4, none⟩,
⟨.fad 24 (.t 23) 2 0, none⟩,
⟨.load 25 (.t 24) 0, none⟩,
⟨.mv 26 (.t 0), none⟩,
⟨.chk 27 (.t 26), none⟩,
⟨.fad 28 (.t 27) 2 4, none⟩,
⟨.fad 29 (.t 28) 1 0, none⟩,
⟨.load 30 (.t 29) 0, none⟩,
⟨.len 31 (.t 30), none⟩,
⟨.bsl 32 0 1 1 (.k (.int .i64 0)) [(0, (.t 31))], none⟩,
⟨.app 33 1 1 (.t 25) (.t 32), none⟩,
⟨.chk 34 (.t 20), none⟩,
⟨.fad 35 (.t 34) 2 4, none⟩,
⟨.fad 36 (.t 35) 2 0, none⟩,
⟨.store (.t 36) (.t 33) 0, none⟩] [])
(.seq (.rg 5 false [] [⟨.mv 37 (.t 0), none⟩,
⟨.mv 38 (.t 0), none⟩,
⟨.chk 39 (.t 38), none⟩,
⟨.fad 40 (.t 39) 2 4, none⟩,
⟨.fad 41 (.t 40) 1 0, none⟩,
⟨.load 42 (.t 41) 0, none⟩,
⟨.mv 43 (.t 5), none⟩,
⟨.bin 44 .mul (.c (.d true (.int .i64 2))) (.t 43), none⟩,
⟨.bin 45 .add (.t 44) (.c (.d true (.int .i64 1))), none⟩,
⟨.bsl 46 2 1 1 (.k (.int .i64 0)) [(0, (.t 45))], none⟩,
⟨.app 47 3 1 (.t 42) (.t 46), none⟩,
⟨.chk 48 (.t 37), none⟩,
⟨.fad 49 (.t 48) 2 4, none⟩,
⟨.fad 50 (.t 49) 1 0, none⟩,
⟨.store (.t 50) (.t 47) 0, none⟩] [])
(.seq (.rg 6 false [] [⟨.mv 4 (.c (.d true (.bool true))), none⟩] [])
.ret))))))
def n_solve_solver_choose : Fn := ⟨c_solve_solver_choose, [.s 4], none⟩

def c_solve_solver_model_l1 : C :=
(.seq (.rg 2 false [] [⟨.bin 24 .lss (.t 23) (.t 22), none⟩] [])
(.seq (.cond (.t 24) .skip (.exit 0))
(.seq (.block 1 (.seq (.rg 3 false [] [⟨.ix 25 (.t 21) (.t 23) 1, none⟩,
⟨.load 26 (.t 25) 0, none⟩,
⟨.mv 3 (.t 26), none⟩] [])
(.rg 4 false [] [⟨.mv 27 (.t 0), none⟩,
⟨.chk 28 (.t 27), none⟩,
⟨.fad 29 (.t 28) 5 6, none⟩,
⟨.fad 30 (.t 29) 1 0, none⟩,
⟨.load 31 (.t 30) 0, none⟩,
⟨.mv 32 (.t 3), none⟩,
⟨.bin 33 .quo (.t 32) (.c (.d true (.int .i64 2))), none⟩,
⟨.bin 34 .sub (.t 33) (.c (.d true (.int .i64 1))), none⟩,
⟨.mv 35 (.t 3), none⟩,
⟨.bin 36 .rem (.t 35) (.c (.d true (.int .i64 2))), none⟩,
⟨.bin 37 .eql (.t 36) (.c (.d true (.int .i64 0))), none⟩,
⟨.ix 38 (.t 31) (.t 34) 1, none⟩,
⟨.store (.t 38) (.t 37) 0, none⟩] [])))
(.rg 5 false [] [⟨.bin 39 .add (.t 23) (.c (.d true (.int .i64 1))), none⟩,
⟨.mv 23 (.t 39), none⟩] []))))
def c_solve_solver_model : C :=
(.seq (.rg 0 true [] [⟨.mv 4 (.t 0), none⟩,
⟨.mv 5 (.t 0), none⟩,
⟨.mv 6 (.t 0), none⟩,
⟨.chk 7 (.t 6), none⟩,
⟨.fad 8 (.t 7) 0 0, none⟩,
⟨.load 9 (.t 8) 0, none⟩,
⟨.mkl 10 1 61 1 (.t 9) (.t 9) (.k (.bool false)), none⟩,
⟨.chk 11 (.t 4), none⟩,
⟨.fad 12 (.t 11) 5 6, none⟩,
⟨.fad 13 (.t 12) 0 0, none⟩,
⟨.store (.t 13) (.c (.d true (.bool true))) 0, none⟩,
⟨.chk 14 (.t 5), none⟩,
⟨.fad 15 (.t 14) 5 6, none⟩,
⟨.fad 16 (.t 15) 1 0, none⟩,
⟨.store (.t 16) (.t 10) 0, none⟩] [[0, 1, 2, 3, 4, 5, 7, 8, 9, 10, 6, 11, 12, 13, 14]])
(.seq (.rg 1 false [] [⟨.mv 17 (.t 0), none⟩,
⟨.chk 18 (.t 17), none⟩,
⟨.fad 19 (.t 18) 2 4, none⟩,
⟨.fad 20 (.t 19) 1 0, none⟩,
⟨.load 21 (.t 20) 0, none⟩,
⟨.len 22 (.t 21), none⟩,
⟨.mv 23 (.c (.d true (.int .i64 0))), none⟩] [])
(.block 0 (.loop c_solve_solver_model_l1))))
def n_solve_solver_model : Fn := ⟨c_solve_solver_model, [], none⟩

def c_gates_Vars : C :=
(.seq (.rg 0 false [] [⟨.box 1 0 (.t 0) 6, none⟩,
⟨.mv 2 (.c (.d true (.int .i64 0))), none⟩,
⟨.mv 3 (.c (.d true (.int .i64 0))), none⟩] [])
(.seq (.seq (.rg 1 false [] [⟨.load 5 (.t 1) 6, none⟩,
⟨.call 6 k_gates_Check [(.t 5)] none, none⟩,
⟨.mv 4 (.t 6), none⟩] [])
(.seq (.rg 2 false [] [⟨.mv 7 (.t 4), none⟩,
⟨.bin 8 .neq (.t 7) (.c (.d true (.int .i64 0))), none⟩] [])
(.cond (.t 8) (.seq (.rg 3 false [] [⟨.mv 9 (.t 4), none⟩,
⟨.mv 2 (.c (.d true (.int .i64 0))), none⟩,
⟨.mv 3 (.t 9), none⟩] [])
.ret) .skip)))
(.seq (.rg 4 false [] [⟨.load 10 (.t 1) 6, none⟩,
⟨.call 11 k_gates_starts [(.t 10)] none, none⟩,
⟨.ixa 12 (.t 11) (.c (.d true (.int .i64 3))) 4 0, none⟩,
⟨.bin 13 .sub (.t 12) (.c (.d true (.int .i64 1))), none⟩,
⟨.mv 2 (.t 13), none⟩,
⟨.mv 3 (.c (.d true (.int .i64 0))), none⟩] [])
.ret)))
def n_gates_Vars : Fn := ⟨c_gates_Vars, [.s 2, .s 3], (some [false])⟩

def c_tseitin_Check_l1 : C :=
(.seq (.rg 11 false [] [⟨.bin 50 .lss (.t 49) (.t 48), none⟩] [])
(.seq (.cond (.t 50) .skip (.exit 2))
(.seq (.block 3 (.seq (.rg 12 false [] [⟨.ix 51 (.t 47) (.t 49) 1, none⟩,
⟨.load 52 (.t 51) 0, none⟩,
⟨.mv 6 (.t 52), none⟩] [])
(.seq (.rg 13 false [] [⟨.mv 53 (.t 6), none⟩,
⟨.bin 54 .lss (.t 53) (.c (.d true (.int .i64 (-1)))), none⟩,
⟨.mv 55 (.t 54), none⟩,
⟨.mv 56 (.t 6), some (55, false)⟩,
⟨.fad 57 (.t 1) 0 0, some (55, false)⟩,
⟨.load 58 (.t 57) 0, some (55, false)⟩,
⟨.bin 59 .mul (.c (.d true (.int .i64 2))) (.t 58), some (55, false)⟩,
⟨.bin 60 .add (.t 59) (.c (.d true (.int .i64 1))), some (55, false)⟩,
⟨.bin 61 .gtr (.t 56) (.t 60), some (55, false)⟩,
⟨.pick 62 (.t 55) (.c (.d true (.bool true))) (.t 61), none⟩] [])
(.cond (.t 62) (.seq (.rg 14 false [] [⟨.mv 2 (.c (.d true (.int .i64 8))), none⟩] [])
.ret) .skip))))
(.rg 15 false [] [⟨.bin 63 .add (.t 49) (.c (.d true (.int .i64 1))), none⟩,
⟨.mv 49 (.t 63), none⟩] []))))
def c_tseitin_Check_l2 : C :=
(.seq (.rg 6 false [] [⟨.bin 25 .lss (.t 24) (.t 23), none⟩] [])
(.seq (.cond (.t 25) .skip (.exit 0))
(.seq (.block 1 (.seq (.rg 7 false [] [⟨.ix 26 (.t 22) (.t 24) 1, none⟩,
⟨.load 27 (.t 26) 0, none⟩,
⟨.mv 4 (.t 27), none⟩] [])
(.seq (.seq (.rg 8 false [] [⟨.mv 28 (.t 4), none⟩,
⟨.len 29 (.t 28), none⟩,
⟨.bin 30 .eql (.t 29) (.c (.d true (.int .i64 0))), none⟩,
⟨.mv 31 (.t 30), none⟩,
⟨.mv 32 (.t 4), some (31, false)⟩,
⟨.len 33 (.t 32), some (31, false)⟩,
⟨.fad 34 (.t 1) 1 0, some (31, false)⟩,
⟨.load 35 (.t 34) 0, some (31, false)⟩,
⟨.ix 36 (.t 35) (.c (.d true (.int .i64 0))) 1, some (31, false)⟩,
⟨.load 37 (.t 36) 0, some (31, false)⟩,
⟨.len 38 (.t 37), some (31, false)⟩,
⟨.bin 39 .neq (.t 33) (.t 38), some (31, false)⟩,
⟨.pick 40 (.t 31) (.c (.d true (.bool true))) (.t 39), none⟩,
⟨.mv 41 (.t 40), none⟩,
⟨.mv 42 (.t 4), some (41, false)⟩,
⟨.ix 43 (.t 42) (.c (.d true (.int .i64 0))) 1, some (41, false)⟩,
⟨.load 44 (.t 43) 0, some (41, false)⟩,
⟨.bin 45 .neq (.t 44) (.c (.d true (.int .i64 0))), some (41, false)⟩,
⟨.pick 46 (.t 41) (.c (.d true (.bool true))) (.t 45), none⟩] [])
(.cond (.t 46) (.seq (.rg 9 false [] [⟨.mv 2 (.c (.d true (.int .i64 8))), none⟩] [])
.ret) .skip))
(.seq (.rg 10 false [] [⟨.mv 47 (.t 4), none⟩,
⟨.len 48 (.t 47), none⟩,
⟨.mv 49 (.c (.d true (.int .i64 0))), none⟩] [])
(.block 2 (.loop c_tseitin_Check_l1))))))
(.rg 16 false [] [⟨.bin 64 .add (.t 24) (.c (.d true (.int .i64 1))), none⟩,
⟨.mv 24 (.t 64), none⟩] []))))
def c_tseitin_Check_l3 : C :=
(.seq (.rg 18 false [] [⟨.bin 69 .lss (.t 68) (.t 67), none⟩] [])
(.seq (.cond (.t 69) .skip (.exit 4))
(.seq (.block 5 (.seq (.rg 19 false [] [⟨.ix 70 (.t 66) (.t 68) 1, none⟩,
⟨.load 71 (.t 70) 0, none⟩,
⟨.mv 8 (.t 71), none⟩] [])
(.seq (.rg 20 false [] [⟨.fad 72 (.t 1) 0 0, none⟩,
⟨.load 73 (.t 72) 0, none⟩,
⟨.mv 74 (.t 8), none⟩,
⟨.call 75 k_clause_Check [(.t 73), (.t 74)] none, none⟩,
⟨.bin 76 .neq (.t 75) (.c (.d true (.int .i64 0))), none⟩] [])
(.cond (.t 76) (.seq (.rg 21 false [] [⟨.mv 2 (.c (.d true (.int .i64 8))), none⟩] [])
.ret) .skip))))
(.rg 22 false [] [⟨.bin 77 .add (.t 68) (.c (.d true (.int .i64 1))), none⟩,
⟨.mv 68 (.t 77), none⟩] []))))
def c_tseitin_Check : C :=
(.seq (.rg 0 false [] [⟨.box 1 0 (.t 0) 4, none⟩,
⟨.mv 2 (.c (.d true (.int .i64 0))), none⟩] [])
(.seq (.seq (.rg 1 false [] [⟨.fad 9 (.t 1) 2 0, none⟩,
⟨.load 10 (.t 9) 0, none⟩,
⟨.len 11 (.t 10), none⟩,
⟨.bin 12 .gtr (.t 11) (.c (.d true (.int .i64 20000))), none⟩] [])
(.cond (.t 12) (.seq (.rg 2 false [] [⟨.mv 2 (.c (.d true (.int .i64 4))), none⟩] [])
.ret) .skip))
(.seq (.seq (.rg 3 false [] [⟨.fad 13 (.t 1) 0 0, none⟩,
⟨.load 14 (.t 13) 0, none⟩,
⟨.bin 15 .lss (.t 14) (.c (.d true (.int .i64 0))), none⟩,
⟨.mv 16 (.t 15), none⟩,
⟨.fad 17 (.t 1) 0 0, some (16, false)⟩,
⟨.load 18 (.t 17) 0, some (16, false)⟩,
⟨.bin 19 .gtr (.t 18) (.c (.d true (.int .i64 4000))), some (16, false)⟩,
⟨.pick 20 (.t 16) (.c (.d true (.bool true))) (.t 19), none⟩] [])
(.cond (.t 20) (.seq (.rg 4 false [] [⟨.mv 2 (.c (.d true (.int .i64 8))), none⟩] [])
.ret) .skip))
(.seq (.seq (.rg 5 false [] [⟨.fad 21 (.t 1) 1 0, none⟩,
⟨.load 22 (.t 21) 0, none⟩,
⟨.len 23 (.t 22), none⟩,
⟨.mv 24 (.c (.d true (.int .i64 0))), none⟩] [])
(.block 0 (.loop c_tseitin_Check_l2)))
(.seq (.seq (.rg 17 false [] [⟨.fad 65 (.t 1) 2 0, none⟩,
⟨.load 66 (.t 65) 0, none⟩,
⟨.len 67 (.t 66), none⟩,
⟨.mv 68 (.c (.d true (.int .i64 0))), none⟩] [])
(.block 4 (.loop c_tseitin_Check_l3)))
(.seq (.rg 23 false [] [⟨.mv 2 (.c (.d true (.int .i64 0))), none⟩] [])
.ret))))))
def n_tseitin_Check : Fn := ⟨c_tseitin_Check, [.s 2], (some [false])⟩

def c_unroll_value : C :=
(.seq (.rg 0 false [] [⟨.mv 4 (.c (.d true (.bool false))), none⟩] [])
(.seq (.seq (.rg 1 false [] [⟨.mv 5 (.t 0), none⟩,
⟨.bin 6 .lss (.t 5) (.c (.d true (.int .i64 2))), none⟩] [])
(.cond (.t 6) (.seq (.rg 2 false [] [⟨.mv 7 (.t 0), none⟩,
⟨.bin 8 .eql (.t 7) (.c (.d true (.int .i64 1))), none⟩,
⟨.mv 4 (.t 8), none⟩] [])
.ret) .skip))
(.seq (.rg 3 false [] [⟨.mv 9 (.t 1), none⟩,
⟨.mv 10 (.t 0), none⟩,
⟨.bin 11 .quo (.t 10) (.c (.d true (.int .i64 2))), none⟩,
⟨.bin 12 .sub (.t 11) (.c (.d true (.int .i64 1))), none⟩,
⟨.ix 13 (.t 9) (.t 12) 1, none⟩,
⟨.load 14 (.t 13) 0, none⟩,
⟨.mv 15 (.t 0), none⟩,
⟨.bin 16 .rem (.t 15) (.c (.d true (.int .i64 2))), none⟩,
⟨.bin 17 .eql (.t 16) (.c (.d true (.int .i64 0))), none⟩,
⟨.beq 18 false (.t 14) (.t 17), none⟩,
⟨.mv 4 (.t 18), none⟩] [])
.ret)))
def n_unroll_value : Fn := ⟨c_unroll_value, [.s 4], (some [false, false])⟩

def c_clause_known : C :=
(.seq (.rg 0 false [] [⟨.mv 4 (.c (.d true (.bool false))), none⟩] [])
(.seq (.rg 1 false [] [⟨.mv 5 (.t 1), none⟩,
⟨.bin 6 .geq (.t 5) (.c (.d true (.int .i64 2))), none⟩,
⟨.mv 7 (.t 6), none⟩,
⟨.mv 8 (.t 1), some (7, true)⟩,
⟨.bin 9 .quo (.t 8) (.c (.d true (.int .i64 2))), some (7, true)⟩,
⟨.mv 10 (.t 0), some (7, true)⟩,
⟨.bin 11 .leq (.t 9) (.t 10), some (7, true)⟩,
⟨.pick 12 (.t 7) (.t 11) (.c (.d true (.bool false))), none⟩,
⟨.mv 4 (.t 12), none⟩] [])
.ret))
def n_clause_known : Fn := ⟨c_clause_known, [.s 4], (some [false, false])⟩

def c_slices_IndexFunc_of_Lint_l1 : C :=
(.seq (.rg 2 false [] [⟨.bin 9 .lss (.t 8) (.t 7), none⟩] [])
(.seq (.cond (.t 9) .skip (.exit 0))
(.seq (.block 1 (.seq (.rg 3 false [] [⟨.mv 10 (.t 8), none⟩,
⟨.mv 5 (.t 10), none⟩] [])
(.seq (.rg 4 false [] [⟨.mv 11 (.t 1), none⟩,
⟨.mv 12 (.t 0), none⟩,
⟨.mv 13 (.t 5), none⟩,
⟨.ix 14 (.t 12) (.t 13) 1, none⟩,
⟨.load 15 (.t 14) 0, none⟩,
⟨.callv 16 (.t 11) [(.t 15)] none, none⟩] [])
(.cond (.t 16) (.seq (.rg 5 false [] [⟨.mv 17 (.t 5), none⟩,
⟨.mv 4 (.t 17), none⟩] [])
.ret) .skip))))
(.rg 6 false [] [⟨.bin 18 .add (.t 8) (.c (.d true (.int .i64 1))), none⟩,
⟨.mv 8 (.t 18), none⟩] []))))
def c_slices_IndexFunc_of_Lint : C :=
(.seq (.rg 0 false [] [⟨.mv 4 (.c (.d true (.int .i64 0))), none⟩] [])
(.seq (.seq (.rg 1 false [] [⟨.mv 6 (.t 0), none⟩,
⟨.len 7 (.t 6), none⟩,
⟨.mv 8 (.c (.d true (.int .i64 0))), none⟩] [])
(.block 0 (.loop c_slices_IndexFunc_of_Lint_l1)))
(.seq (.rg 7 false [] [⟨.mv 4 (.c (.d true (.int .i64 (-1)))), none⟩] [])
.ret)))
def n_slices_IndexFunc_of_Lint : Fn := ⟨c_slices_IndexFunc_of_Lint, [.s 4], none⟩

def c_slices_BinarySearch_of_int_l1 : C :=
(.seq (.seq (.rg 3 false [] [⟨.mv 13 (.t 7), none⟩,
⟨.mv 14 (.t 8), none⟩,
⟨.bin 15 .lss (.t 13) (.t 14), none⟩] [])
(.cond (.t 15) .skip (.exit 0)))
(.block 1 (.seq (.rg 4 false [] [⟨.mv 16 (.t 7), none⟩,
⟨.mv 17 (.t 8), none⟩,
⟨.bin 18 .add (.t 16) (.t 17), none⟩,
⟨.cvt 19 .u64 (.t 18), none⟩,
⟨.bin 20 .shr (.t 19) (.c (.d true (.int .u64 1))), none⟩,
⟨.cvt 21 .i64 (.t 20), none⟩,
⟨.mv 9 (.t 21), none⟩] [])
(.seq (.rg 5 false [] [⟨.mv 22 (.t 0), none⟩,
⟨.mv 23 (.t 9), none⟩,
⟨.ix 24 (.t 22) (.t 23) 1, none⟩,
⟨.load 25 (.t 24) 0, none⟩,
⟨.mv 26 (.t 1), none⟩,
⟨.call 27 k_cmp_Less_of_int [(.t 25), (.t 26)] none, none⟩] [])
(.cond (.t 27) (.rg 6 false [] [⟨.mv 28 (.t 9), none⟩,
⟨.bin 29 .add (.t 28) (.c (.d true (.int .i64 1))), none⟩,
⟨.mv 7 (.t 29), none⟩] []) (.rg 7 false [] [⟨.mv 30 (.t 9), none⟩,
⟨.mv 8 (.t 30), none⟩] []))))))
def c_slices_BinarySearch_of_int : C :=
(.seq (.rg 0 false [] [⟨.mv 4 (.c (.d true (.int .i64 0))), none⟩,
⟨.mv 5 (.c (.d true (.bool false))), none⟩] [])
(.seq (.rg 1 false [] [⟨.mv 10 (.t 0), none⟩,
⟨.len 11 (.t 10), none⟩,
⟨.mv 6 (.t 11), none⟩] [])
(.seq (.rg 2 false [] [⟨.mv 12 (.t 6), none⟩,
⟨.mv 7 (.c (.d true (.int .i64 0))), none⟩,
⟨.mv 8 (.t 12), none⟩] [])
(.seq (.block 0 (.loop c_slices_BinarySearch_of_int_l1))
(.seq (.rg 8 false [] [⟨.mv 31 (.t 7), none⟩,
⟨.mv 32 (.t 7), none⟩,
⟨.mv 33 (.t 6), none⟩,
⟨.bin 34 .lss (.t 32) (.t 33), none⟩,
⟨.mv 35 (.t 34), none⟩,
⟨.mv 36 (.t 0), some (35, true)⟩,
⟨.mv 37 (.t 7), some (35, true)⟩,
⟨.ix 38 (.t 36) (.t 37) 1, some (35, true)⟩,
⟨.load 39 (.t 38) 0, some (35, true)⟩,
⟨.mv 40 (.t 1), some (35, true)⟩,
⟨.bin 41 .eql (.t 39) (.t 40), some (35, true)⟩,
⟨.mv 42 (.t 41), some (35, true)⟩,
⟨.mv 43 (.t 0), some (42, false)⟩,
⟨.mv 44 (.t 7), some (42, false)⟩,
⟨.ix 45 (.t 43) (.t 44) 1, some (42, false)⟩,
⟨.load 46 (.t 45) 0, some (42, false)⟩,
⟨.call 47 k_slices_isNaN_of_int [(.t 46)] none, some (42, false)⟩,
⟨.mv 48 (.t 47), some (42, false)⟩,
⟨.mv 49 (.t 1), some (48, true)⟩,
⟨.call 50 k_slices_isNaN_of_int [(.t 49)] none, some (48, true)⟩,
⟨.pick 51 (.t 48) (.t 50) (.c (.d true (.bool false))), some (42, false)⟩,
⟨.pick 52 (.t 42) (.c (.d true (.bool true))) (.t 51), some (35, true)⟩,
⟨.pick 53 (.t 35) (.t 52) (.c (.d true (.bool false))), none⟩,
⟨.mv 4 (.t 31), none⟩,
⟨.mv 5 (.t 53), none⟩] [])
.ret)))))
def n_slices_BinarySearch_of_int : Fn := ⟨c_slices_BinarySearch_of_int, [.s 4, .s 5], (some [false, false])⟩

def c_slices_IndexFunc_of_int_l1 : C :=
(.seq (.rg 2 false [] [⟨.bin 9 .lss (.t 8) (.t 7), none⟩] [])
(.seq (.cond (.t 9) .skip (.exit 0))
(.seq (.block 1 (.seq (.rg 3 false [] [⟨.mv 10 (.t 8), none⟩,
⟨.mv 5 (.t 10), none⟩] [])
(.seq (.rg 4 false [] [⟨.mv 11 (.t 1), none⟩,
⟨.mv 12 (.t 0), none⟩,
⟨.mv 13 (.t 5), none⟩,
⟨.ix 14 (.t 12) (.t 13) 1, none⟩,
⟨.load 15 (.t 14) 0, none⟩,
⟨.callv 16 (.t 11) [(.t 15)] none, none⟩] [])
(.cond (.t 16) (.seq (.rg 5 false [] [⟨.mv 17 (.t 5), none⟩,
⟨.mv 4 (.t 17), none⟩] [])
.ret) .skip))))
(.rg 6 false [] [⟨.bin 18 .add (.t 8) (.c (.d true (.int .i64 1))), none⟩,
⟨.mv 8 (.t 18), none⟩] []))))
def c_slices_IndexFunc_of_int : C :=
(.seq (.rg 0 false [] [⟨.mv 4 (.c (.d true (.int .i64 0))), none⟩] [])
(.seq (.seq (.rg 1 false [] [⟨.mv 6 (.t 0), none⟩,
⟨.len 7 (.t 6), none⟩,
⟨.mv 8 (.c (.d true (.int .i64 0))), none⟩] [])
(.block 0 (.loop c_slices_IndexFunc_of_int_l1)))
(.seq (.rg 7 false [] [⟨.mv 4 (.c (.d true (.int .i64 (-1)))), none⟩] [])
.ret)))
def n_slices_IndexFunc_of_int : Fn := ⟨c_slices_IndexFunc_of_int, [.s 4], none⟩

def c_gates_starts : C :=
(.seq (.rg 0 false [] [⟨.box 1 0 (.t 0) 6, none⟩,
⟨.alloc 2 1 [.k (.int .i64 0), .k (.int .i64 0), .k (.int .i64 0), .k (.int .i64 0)], none⟩] [])
(.seq (.rg 1 false [] [⟨.fad 5 (.t 1) 0 0, none⟩,
⟨.load 6 (.t 5) 0, none⟩,
⟨.bin 7 .add (.c (.d true (.int .i64 1))) (.t 6), none⟩,
⟨.mv 3 (.t 7), none⟩] [])
(.seq (.rg 2 false [] [⟨.mv 8 (.t 3), none⟩,
⟨.fad 9 (.t 1) 1 0, none⟩,
⟨.load 10 (.t 9) 0, none⟩,
⟨.len 11 (.t 10), none⟩,
⟨.bin 12 .add (.t 8) (.t 11), none⟩,
⟨.mv 4 (.t 12), none⟩] [])
(.seq (.rg 3 false [] [⟨.mv 13 (.t 3), none⟩,
⟨.mv 14 (.t 4), none⟩,
⟨.mv 15 (.t 4), none⟩,
⟨.fad 16 (.t 1) 2 0, none⟩,
⟨.load 17 (.t 16) 0, none⟩,
⟨.len 18 (.t 17), none⟩,
⟨.bin 19 .add (.t 15) (.t 18), none⟩,
⟨.bld 20 [.k (.int .i64 0), .k (.int .i64 0), .k (.int .i64 0), .k (.int .i64 0)] [(0, 0, (.c (.d true (.int .i64 1)))), (1, 0, (.t 13)), (2, 0, (.t 14)), (3, 0, (.t 19))], none⟩,
⟨.store (.t 2) (.t 20) 5, none⟩] [])
.ret))))
def n_gates_starts : Fn := ⟨c_gates_starts, [.c 2 5], (some [false])⟩

def c_gates_Check_1 : C :=
(.seq (.rg 0 false [] [⟨.mv 3 (.c (.d true (.bool false))), none⟩] [])
(.seq (.rg 1 false [] [⟨.mv 4 (.t 0), none⟩,
⟨.bin 5 .lss (.t 4) (.c (.d true (.int .i64 0))), none⟩,
⟨.mv 6 (.t 5), none⟩,
⟨.mv 7 (.t 0), some (6, false)⟩,
⟨.bin 8 .shr (.t 7) (.c (.d true (.int .u64 1))), some (6, false)⟩,
⟨.ixb 9 (.t 1) (.c (.d true (.int .i64 3))) 4 1, some (6, false)⟩,
⟨.load 10 (.t 9) 0, some (6, false)⟩,
⟨.bin 11 .geq (.t 8) (.t 10), some (6, false)⟩,
⟨.pick 12 (.t 6) (.c (.d true (.bool true))) (.t 11), none⟩,
⟨.mv 3 (.t 12), none⟩] [])
.ret))
def n_gates_Check_1 : Fn := ⟨c_gates_Check_1, [.s 3], none⟩

def c_gates_Check_2 : C :=
(.seq (.rg 0 false [] [⟨.box 2 0 (.t 0) 3, none⟩,
⟨.mv 3 (.c (.d true (.bool false))), none⟩] [])
(.seq (.rg 1 false [] [⟨.load 4 (.t 1) 0, none⟩,
⟨.fad 5 (.t 2) 0 0, none⟩,
⟨.load 6 (.t 5) 0, none⟩,
⟨.callv 7 (.t 4) [(.t 6)] none, none⟩,
⟨.mv 8 (.t 7), none⟩,
⟨.fad 9 (.t 2) 1 0, some (8, false)⟩,
⟨.load 10 (.t 9) 0, some (8, false)⟩,
⟨.bin 11 .lss (.t 10) (.c (.d true (.int .i64 0))), some (8, false)⟩,
⟨.pick 12 (.t 8) (.c (.d true (.bool true))) (.t 11), none⟩,
⟨.mv 13 (.t 12), none⟩,
⟨.fad 14 (.t 2) 1 0, some (13, false)⟩,
⟨.load 15 (.t 14) 0, some (13, false)⟩,
⟨.bin 16 .gtr (.t 15) (.c (.d true (.int .i64 2))), some (13, false)⟩,
⟨.pick 17 (.t 13) (.c (.d true (.bool true))) (.t 16), none⟩,
⟨.mv 3 (.t 17), none⟩] [])
.ret))
def n_gates_Check_2 : Fn := ⟨c_gates_Check_2, [.s 3], none⟩

def c_slices_ContainsFunc_of_api_Latch : C :=
(.seq (.rg 0 false [] [⟨.mv 4 (.c (.d true (.bool false))), none⟩] [])
(.seq (.rg 1 false [] [⟨.mv 5 (.t 0), none⟩,
⟨.mv 6 (.t 1), none⟩,
⟨.call 7 k_slices_IndexFunc_of_api_Latch [(.t 5), (.t 6)] none, none⟩,
⟨.bin 8 .geq (.t 7) (.c (.d true (.int .i64 0))), none⟩,
⟨.mv 4 (.t 8), none⟩] [])
.ret))
def n_slices_ContainsFunc_of_api_Latch : Fn := ⟨c_slices_ContainsFunc_of_api_Latch, [.s 4], none⟩

def c_unroll_Free_l1 : C :=
(.seq (.rg 6 false [] [⟨.bin 18 .lss (.t 17) (.t 16), none⟩] [])
(.seq (.cond (.t 18) .skip (.exit 0))
(.seq (.block 1 (.rg 7 false [.kill 5 6] [⟨.mv 19 (.t 7), none⟩,
⟨.bsl 20 5 1 1 (.k (.int .i64 0)) [(0, (.c (.d true (.int .i64 (-1)))))], none⟩,
⟨.app 21 6 1 (.t 19) (.t 20), none⟩,
⟨.mv 7 (.t 21), none⟩] []))
(.rg 8 false [] [⟨.bin 22 .add (.t 17) (.c (.d true (.int .i64 1))), none⟩,
⟨.mv 17 (.t 22), none⟩] []))))
def c_unroll_Free : C :=
(.seq (.rg 0 false [] [⟨.box 2 0 (.t 0) 6, none⟩,
⟨.alloc 4 1 [.k (.int .i64 0), .r 2 1, .r 3 1], none⟩,
⟨.mv 5 (.c (.d true (.int .i64 0))), none⟩] [])
(.seq (.seq (.rg 1 false [] [⟨.load 8 (.t 2) 6, none⟩,
⟨.call 9 k_gates_Check [(.t 8)] none, none⟩,
⟨.mv 6 (.t 9), none⟩] [])
(.seq (.rg 2 false [] [⟨.mv 10 (.t 6), none⟩,
⟨.bin 11 .neq (.t 10) (.c (.d true (.int .i64 0))), none⟩] [])
(.cond (.t 11) (.seq (.rg 3 false [] [⟨.bld 12 [.k (.int .i64 0), .n 1, .n 1] [], none⟩,
⟨.mv 13 (.t 6), none⟩,
⟨.store (.t 4) (.t 12) 4, none⟩,
⟨.mv 5 (.t 13), none⟩] [])
.ret) .skip)))
(.seq (.rg 4 false [] [⟨.nilr 7 4 1, none⟩] [])
(.seq (.seq (.rg 5 false [] [⟨.fad 14 (.t 2) 1 0, none⟩,
⟨.load 15 (.t 14) 0, none⟩,
⟨.len 16 (.t 15), none⟩,
⟨.mv 17 (.c (.d true (.int .i64 0))), none⟩] [])
(.block 0 (.loop c_unroll_Free_l1)))
(.seq (.rg 9 false [] [⟨.load 23 (.t 2) 6, none⟩,
⟨.mv 24 (.t 1), none⟩,
⟨.mv 25 (.t 7), none⟩,
⟨.call 26 k_unroll_made [(.t 23), (.t 24), (.t 25)] (some 30), none⟩,
⟨.xt 27 (.t 26) 0, none⟩,
⟨.xt 28 (.t 26) 1, none⟩,
⟨.store (.t 4) (.t 27) 4, none⟩,
⟨.mv 5 (.t 28), none⟩] [])
.ret)))))
def n_unroll_Free : Fn := ⟨c_unroll_Free, [.c 4 4, .s 5], (some [false, false])⟩

def c_shrink_first_1 : C :=
(.seq (.rg 0 false [] [⟨.mv 3 (.c (.d true (.bool false))), none⟩] [])
(.seq (.rg 1 false [] [⟨.fad 5 (.t 1) 1 0, none⟩,
⟨.load 6 (.t 5) 0, none⟩,
⟨.mv 7 (.t 0), none⟩,
⟨.bin 8 .quo (.t 7) (.c (.d true (.int .i64 2))), none⟩,
⟨.bin 9 .sub (.t 8) (.c (.d true (.int .i64 1))), none⟩,
⟨.ix 10 (.t 6) (.t 9) 2, none⟩,
⟨.fad 11 (.t 10) 1 0, none⟩,
⟨.load 12 (.t 11) 0, none⟩,
⟨.mv 4 (.t 12), none⟩] [])
(.seq (.rg 2 false [] [⟨.mv 13 (.t 4), none⟩,
⟨.bin 14 .neq (.t 13) (.c (.d true (.int .i64 2))), none⟩,
⟨.mv 15 (.t 14), none⟩,
⟨.mv 16 (.t 4), some (15, true)⟩,
⟨.mv 17 (.t 0), some (15, true)⟩,
⟨.bin 18 .rem (.t 17) (.c (.d true (.int .i64 2))), some (15, true)⟩,
⟨.bin 19 .eql (.t 16) (.t 18), some (15, true)⟩,
⟨.pick 20 (.t 15) (.t 19) (.c (.d true (.bool false))), none⟩,
⟨.mv 3 (.t 20), none⟩] [])
.ret)))
def n_shrink_first_1 : Fn := ⟨c_shrink_first_1, [.s 3], none⟩

def c_preds_Put_1 : C :=
(.seq (.rg 0 false [] [⟨.mv 3 (.c (.d true (.int .i64 0))), none⟩] [])
(.seq (.rg 1 false [] [⟨.load 4 (.t 1) 0, none⟩,
⟨.mv 5 (.t 0), none⟩,
⟨.bin 6 .sub (.t 5) (.c (.d true (.int .i64 1))), none⟩,
⟨.ix 7 (.t 4) (.t 6) 1, none⟩,
⟨.load 8 (.t 7) 0, none⟩,
⟨.mv 3 (.t 8), none⟩] [])
.ret))
def n_preds_Put_1 : Fn := ⟨c_preds_Put_1, [.s 3], none⟩

def c_preds_builder_put_l1 : C :=
(.seq (.seq (.rg 3 false [] [⟨.mv 13 (.t 8), none⟩,
⟨.mv 14 (.t 1), none⟩,
⟨.bin 15 .leq (.t 13) (.t 14), none⟩] [])
(.cond (.t 15) .skip (.exit 0)))
(.seq (.block 1 (.rg 5 true [.kill 3 4] [⟨.load 18 (.t 7) 0, none⟩,
⟨.mv 19 (.t 0), none⟩,
⟨.chk 20 (.t 19), none⟩,
⟨.fad 21 (.t 20) 2 0, none⟩,
⟨.load 22 (.t 21) 0, none⟩,
⟨.mv 23 (.t 8), none⟩,
⟨.callv 24 (.t 22) [(.t 23)] none, none⟩,
⟨.bsl 25 3 1 1 (.k (.int .i64 0)) [(0, (.t 24))], none⟩,
⟨.app 26 4 1 (.t 18) (.t 25), none⟩,
⟨.store (.t 7) (.t 26) 0, none⟩] [[1, 2, 3, 4, 5, 6, 0, 7, 8, 9]]))
(.rg 4 false [] [⟨.mv 16 (.t 8), none⟩,
⟨.bin 17 .add (.t 16) (.c (.d true (.int .i64 1))), none⟩,
⟨.mv 8 (.t 17), none⟩] [])))
def c_preds_builder_put_l2 : C :=
(.seq (.rg 8 false [] [⟨.bin 32 .lss (.t 31) (.t 30), none⟩] [])
(.seq (.cond (.t 32) .skip (.exit 2))
(.seq (.block 3 (.seq (.rg 9 false [.kill 5 6] [⟨.ix 33 (.t 29) (.t 31) 2, none⟩,
⟨.load 34 (.t 33) 3, none⟩,
⟨.alloc 11 5 [.k (.int .i64 0), .k (.int .i64 0)], none⟩,
⟨.store (.t 11) (.t 34) 3, none⟩] [])
(.rg 10 true [.kill 6 7] [⟨.load 35 (.t 7) 0, none⟩,
⟨.mv 36 (.t 0), none⟩,
⟨.mv 37 (.t 9), none⟩,
⟨.fad 38 (.t 11) 0 0, none⟩,
⟨.load 39 (.t 38) 0, none⟩,
⟨.callv 40 (.t 37) [(.t 39)] none, none⟩,
⟨.mv 41 (.t 9), none⟩,
⟨.fad 42 (.t 11) 1 0, none⟩,
⟨.load 43 (.t 42) 0, none⟩,
⟨.callv 44 (.t 41) [(.t 43)] none, none⟩,
⟨.call 45 k_preds_builder_and [(.t 36), (.t 40), (.t 44)] none, none⟩,
⟨.bsl 46 6 1 1 (.k (.int .i64 0)) [(0, (.t 45))], none⟩,
⟨.app 47 7 1 (.t 35) (.t 46), none⟩,
⟨.store (.t 7) (.t 47) 0, none⟩] [[1, 2, 3, 4, 6, 7, 8, 5, 9, 10, 0, 11, 12, 13], [1, 2, 3, 4, 5, 6, 7, 8, 9, 10, 0, 11, 12, 13], [1, 2, 3, 4, 6, 7, 8, 5, 9, 0, 10, 11, 12, 13], [1, 2, 3, 4, 5, 6, 7, 8, 9, 0, 10, 11, 12, 13], [1, 2, 3, 4, 6, 7, 8, 5, 0, 9, 10, 11, 12, 13], [0, 1, 2, 3, 4, 6, 7, 8, 5, 9, 10, 11, 12, 13], [1, 2, 3, 4, 5, 0, 6, 7, 8, 9, 10, 11, 12, 13]])))
(.rg 11 false [] [⟨.bin 48 .add (.t 31) (.c (.d true (.int .i64 1))), none⟩,
⟨.mv 31 (.t 48), none⟩] []))))
def c_preds_builder_put : C :=
(.seq (.rg 0 false [] [⟨.box 5 0 (.t 2) 3, none⟩,
⟨.mv 6 (.c (.d true (.int .i64 0))), none⟩] [])
(.seq (.rg 1 false [] [⟨.bsl 12 1 1 1 (.k (.int .i64 0)) [(0, (.c (.d true (.int .i64 0))))], none⟩,
⟨.alloc 7 2 [.n 1], none⟩,
⟨.store (.t 7) (.t 12) 0, none⟩] [])
(.seq (.seq (.rg 2 false [] [⟨.mv 8 (.c (.d true (.int .i64 1))), none⟩] [])
(.block 0 (.loop c_preds_builder_put_l1)))
(.seq (.rg 6 false [] [⟨.fn 27 k_preds_builder_put_1 [(.t 7)], none⟩,
⟨.mv 9 (.t 27), none⟩] [])
(.seq (.seq (.rg 7 false [] [⟨.fad 28 (.t 5) 0 0, none⟩,
⟨.load 29 (.t 28) 0, none⟩,
⟨.len 30 (.t 29), none⟩,
⟨.mv 31 (.c (.d true (.int .i64 0))), none⟩] [])
(.block 2 (.loop c_preds_builder_put_l2)))
(.seq (.rg 12 false [] [⟨.mv 49 (.t 9), none⟩,
⟨.fad 50 (.t 5) 1 0, none⟩,
⟨.load 51 (.t 50) 0, none⟩,
⟨.callv 52 (.t 49) [(.t 51)] none, none⟩,
⟨.mv 6 (.t 52), none⟩] [])
.ret))))))
def n_preds_builder_put : Fn := ⟨c_preds_builder_put, [.s 6], none⟩

def c_push_put_l1 : C :=
(.seq (.rg 3 false [] [⟨.bin 15 .lss (.t 14) (.t 13), none⟩] [])
(.seq (.cond (.t 15) .skip (.exit 0))
(.seq (.block 1 (.seq (.rg 4 false [] [⟨.ix 16 (.t 12) (.t 14) 1, none⟩,
⟨.load 17 (.t 16) 0, none⟩,
⟨.mv 9 (.t 17), none⟩] [])
(.seq (.rg 5 false [] [⟨.mv 18 (.t 1), none⟩,
⟨.mv 19 (.t 9), none⟩,
⟨.bin 20 .quo (.t 19) (.c (.d true (.int .i64 2))), none⟩,
⟨.ix 21 (.t 18) (.t 20) 1, none⟩,
⟨.load 22 (.t 21) 0, none⟩,
⟨.mv 23 (.t 9), none⟩,
⟨.bin 24 .rem (.t 23) (.c (.d true (.int .i64 2))), none⟩,
⟨.bin 25 .xor (.t 22) (.t 24), none⟩,
⟨.mv 10 (.t 25), none⟩] [])
(.seq (.seq (.rg 6 false [] [⟨.mv 26 (.t 10), none⟩,
⟨.bin 27 .eql (.t 26) (.c (.d true (.int .i64 1))), none⟩] [])
(.cond (.t 27) (.seq (.rg 7 false [] [⟨.mv 28 (.t 0), none⟩,
⟨.mv 6 (.t 28), none⟩] [])
.ret) .skip))
(.seq (.rg 8 false [] [⟨.mv 29 (.t 10), none⟩,
⟨.bin 30 .gtr (.t 29) (.c (.d true (.int .i64 0))), none⟩] [])
(.cond (.t 30) (.rg 9 false [.kill 1 2] [⟨.mv 31 (.t 7), none⟩,
⟨.mv 32 (.t 10), none⟩,
⟨.bsl 33 1 1 1 (.k (.int .i64 0)) [(0, (.t 32))], none⟩,
⟨.app 34 2 1 (.t 31) (.t 33), none⟩,
⟨.mv 7 (.t 34), none⟩] []) .skip))))))
(.rg 10 false [] [⟨.bin 35 .add (.t 14) (.c (.d true (.int .i64 1))), none⟩,
⟨.mv 14 (.t 35), none⟩] []))))
def c_push_put_l2 : C :=
(.seq (.seq (.rg 14 false [] [⟨.mv 40 (.t 11), none⟩,
⟨.mv 41 (.t 7), none⟩,
⟨.len 42 (.t 41), none⟩,
⟨.bin 43 .lss (.t 40) (.t 42), none⟩] [])
(.cond (.t 43) .skip (.exit 2)))
(.seq (.block 3 (.seq (.rg 16 true [] [⟨.mv 46 (.t 7), none⟩,
⟨.mv 47 (.t 11), none⟩,
⟨.ix 48 (.t 46) (.t 47) 1, none⟩,
⟨.load 49 (.t 48) 0, none⟩,
⟨.bin 50 .quo (.t 49) (.c (.d true (.int .i64 2))), none⟩,
⟨.mv 51 (.t 7), none⟩,
⟨.mv 52 (.t 11), none⟩,
⟨.bin 53 .sub (.t 52) (.c (.d true (.int .i64 1))), none⟩,
⟨.ix 54 (.t 51) (.t 53) 1, none⟩,
⟨.load 55 (.t 54) 0, none⟩,
⟨.bin 56 .quo (.t 55) (.c (.d true (.int .i64 2))), none⟩,
⟨.bin 57 .eql (.t 50) (.t 56), none⟩] [])
(.cond (.t 57) (.seq (.rg 17 false [] [⟨.mv 58 (.t 0), none⟩,
⟨.mv 6 (.t 58), none⟩] [])
.ret) .skip)))
(.rg 15 false [] [⟨.mv 44 (.t 11), none⟩,
⟨.bin 45 .add (.t 44) (.c (.d true (.int .i64 1))), none⟩,
⟨.mv 11 (.t 45), none⟩] [])))
def c_push_put : C :=
(.seq (.rg 0 false [] [⟨.mv 6 (.c (.nil 1)), none⟩] [])
(.seq (.rg 1 false [] [⟨.nilr 7 0 1, none⟩] [])
(.seq (.seq (.rg 2 false [] [⟨.mv 12 (.t 2), none⟩,
⟨.len 13 (.t 12), none⟩,
⟨.mv 14 (.c (.d true (.int .i64 0))), none⟩] [])
(.block 0 (.loop c_push_put_l1)))
(.seq (.rg 11 false [] [⟨.mv 36 (.t 7), none⟩,
⟨.call 37 k_slices_Sort_of_int [(.t 36)] none, none⟩] [])
(.seq (.rg 12 false [] [⟨.mv 38 (.t 7), none⟩,
⟨.call 39 k_slices_Compact_of_int [(.t 38)] none, none⟩,
⟨.mv 7 (.t 39), none⟩] [])
(.seq (.seq (.rg 13 false [] [⟨.mv 11 (.c (.d true (.int .i64 1))), none⟩] [])
(.block 2 (.loop c_push_put_l2)))
(.seq (.rg 18 false [] [⟨.mv 59 (.t 0), none⟩,
⟨.mv 60 (.t 7), none⟩,
⟨.bsl 61 3 1 1 (.k (.lst 1 [])) [(0, (.t 60))], none⟩,
⟨.app 62 4 1 (.t 59) (.t 61), none⟩,
⟨.mv 6 (.t 62), none⟩] [])
.ret)))))))
def n_push_put : Fn := ⟨c_push_put, [.s 6], none⟩

def c_preds_over : C :=
(.seq (.rg 0 false [] [⟨.mv 4 (.c (.cl nilF [])), none⟩] [])
(.seq (.rg 1 false [] [⟨.mv 5 (.t 1), none⟩,
⟨.call 6 k_slices_Clone_of_api_And [(.t 5)] (some 4), none⟩,
⟨.mv 7 (.t 0), none⟩,
⟨.bin 8 .add (.t 7) (.c (.d true (.int .i64 1))), none⟩,
⟨.bld 9 [.n 2, .k (.int .i64 0), .u, .k (.bool false)] [(0, 0, (.t 6)), (1, 0, (.t 8)), (2, 0, (.c (.cl k_preds_over_1 [])))], none⟩,
⟨.box 10 0 (.t 9) 5, none⟩,
⟨.mv 4 (.t 10), none⟩] [])
.ret))
def n_preds_over : Fn := ⟨c_preds_over, [.s 4], none⟩

def c_preds_builder_and : C :=
(.seq (.rg 0 false [] [⟨.mv 6 (.c (.d true (.int .i64 0))), none⟩] [])
(.seq (.seq (.rg 1 false [] [⟨.mv 13 (.t 1), none⟩,
⟨.mv 14 (.t 2), none⟩,
⟨.call 15 k_lits_And [(.t 13), (.t 14)] none, none⟩,
⟨.mv 12 (.t 15), none⟩,
⟨.xt 16 (.t 12) 0, none⟩,
⟨.xt 17 (.t 12) 1, none⟩,
⟨.xt 18 (.t 12) 2, none⟩,
⟨.mv 7 (.t 16), none⟩,
⟨.mv 8 (.t 17), none⟩,
⟨.mv 9 (.t 18), none⟩] [])
(.seq (.rg 2 false [] [⟨.mv 19 (.t 9), none⟩,
⟨.bin 20 .neq (.t 19) (.c (.d true (.int .i64 0))), none⟩,
⟨.mv 21 (.t 20), none⟩,
⟨.mv 22 (.t 8), some (21, false)⟩,
⟨.pick 23 (.t 21) (.c (.d true (.bool true))) (.t 22), none⟩] [])
(.cond (.t 23) (.seq (.rg 3 false [] [⟨.mv 24 (.t 7), none⟩,
⟨.mv 6 (.t 24), none⟩] [])
.ret) .skip)))
(.seq (.rg 4 false [] [⟨.mv 25 (.t 1), none⟩,
⟨.mv 26 (.t 2), none⟩,
⟨.mx 27 (.t 25) [(.t 26)], none⟩,
⟨.mv 28 (.t 1), none⟩,
⟨.mv 29 (.t 2), none⟩,
⟨.mn 30 (.t 28) [(.t 29)], none⟩,
⟨.bld 31 [.k (.int .i64 0), .k (.int .i64 0)] [(0, 0, (.t 27)), (1, 0, (.t 30))], none⟩,
⟨.alloc 10 0 [.k (.int .i64 0), .k (.int .i64 0)], none⟩,
⟨.store (.t 10) (.t 31) 3, none⟩] [])
(.seq (.rg 5 true [] [⟨.mv 32 (.t 0), none⟩,
⟨.chk 33 (.t 32), none⟩,
⟨.fad 34 (.t 33) 0 0, none⟩,
⟨.load 35 (.t 34) 0, none⟩,
⟨.load 36 (.t 10) 3, none⟩,
⟨.call 37 k_slices_Index_of_api_And [(.t 35), (.t 36)] none, none⟩,
⟨.mv 11 (.t 37), none⟩] [])
(.seq (.seq (.rg 6 false [] [⟨.mv 38 (.t 11), none⟩,
⟨.bin 39 .lss (.t 38) (.c (.d true (.int .i64 0))), none⟩] [])
(.cond (.t 39) (.seq (.rg 7 false [] [⟨.mv 40 (.t 0), none⟩,
⟨.chk 41 (.t 40), none⟩,
⟨.fad 42 (.t 41) 0 0, none⟩,
⟨.load 43 (.t 42) 0, none⟩,
⟨.len 44 (.t 43), none⟩,
⟨.mv 11 (.t 44), none⟩] [])
(.seq (.seq (.rg 8 false [] [⟨.mv 45 (.t 0), none⟩,
⟨.chk 46 (.t 45), none⟩,
⟨.fad 47 (.t 46) 1 0, none⟩,
⟨.load 48 (.t 47) 0, none⟩,
⟨.mv 49 (.t 11), none⟩,
⟨.bin 50 .add (.t 48) (.t 49), none⟩,
⟨.bin 51 .gtr (.t 50) (.c (.d true (.int .i64 1000))), none⟩] [])
(.cond (.t 51) (.seq (.rg 9 false [] [⟨.mv 52 (.t 0), none⟩,
⟨.chk 53 (.t 52), none⟩,
⟨.fad 54 (.t 53) 3 0, none⟩,
⟨.store (.t 54) (.c (.d true (.bool true))) 0, none⟩] [])
(.seq (.rg 10 false [] [⟨.mv 6 (.c (.d true (.int .i64 0))), none⟩] [])
.ret)) .skip))
(.rg 11 true [] [⟨.mv 55 (.t 0), none⟩,
⟨.mv 56 (.t 0), none⟩,
⟨.chk 57 (.t 56), none⟩,
⟨.fad 58 (.t 57) 0 0, none⟩,
⟨.load 59 (.t 58) 0, none⟩,
⟨.load 60 (.t 10) 3, none⟩,
⟨.bsl 61 1 2 1 (.k (.agg [(.int .i64 0), (.int .i64 0)])) [(0, (.t 60))], none⟩,
⟨.app 62 2 2 (.t 59) (.t 61), none⟩,
⟨.chk 63 (.t 55), none⟩,
⟨.fad 64 (.t 63) 0 0, none⟩,
⟨.store (.t 64) (.t 62) 0, none⟩] []))) .skip))
(.seq (.rg 12 false [] [⟨.mv 65 (.t 0), none⟩,
⟨.chk 66 (.t 65), none⟩,
⟨.fad 67 (.t 66) 1 0, none⟩,
⟨.load 68 (.t 67) 0, none⟩,
⟨.mv 69 (.t 11), none⟩,
⟨.bin 70 .add (.t 68) (.t 69), none⟩,
⟨.bin 71 .mul (.c (.d true (.int .i64 2))) (.t 70), none⟩,
⟨.mv 6 (.t 71), none⟩] [])
.ret))))))
def n_preds_builder_and : Fn := ⟨c_preds_builder_and, [.s 6], none⟩

def c_preds_builder_pred : C :=
(.seq (.rg 0 false [] [⟨.alloc 4 0 [.r 1 2, .k (.int .i64 0)], none⟩,
⟨.mv 5 (.c (.d true (.int .i64 0))), none⟩] [])
(.seq (.seq (.rg 1 false [] [⟨.mv 6 (.t 0), none⟩,
⟨.chk 7 (.t 6), none⟩,
⟨.fad 8 (.t 7) 3 0, none⟩,
⟨.load 9 (.t 8) 0, none⟩] [])
(.cond (.t 9) (.seq (.rg 2 false [] [⟨.bld 10 [.n 2, .k (.int .i64 0)] [], none⟩,
⟨.store (.t 4) (.t 10) 3, none⟩,
⟨.mv 5 (.c (.d true (.int .i64 4))), none⟩] [])
.ret) .skip))
(.seq (.rg 3 false [] [⟨.mv 11 (.t 0), none⟩,
⟨.chk 12 (.t 11), none⟩,
⟨.fad 13 (.t 12) 0 0, none⟩,
⟨.load 14 (.t 13) 0, none⟩,
⟨.mv 15 (.t 1), none⟩,
⟨.bld 16 [.n 2, .k (.int .i64 0)] [(0, 0, (.t 14)), (1, 0, (.t 15))], none⟩,
⟨.store (.t 4) (.t 16) 3, none⟩,
⟨.mv 5 (.c (.d true (.int .i64 0))), none⟩] [])
.ret)))
def n_preds_builder_pred : Fn := ⟨c_preds_builder_pred, [.c 4 3, .s 5], none⟩

def c_unroll_frames_frame_l1 : C :=
(.seq (.rg 3 false [] [⟨.bin 19 .lss (.t 18) (.t 17), none⟩] [])
(.seq (.cond (.t 19) .skip (.exit 0))
(.seq (.block 1 (.rg 4 false [.kill 2 3] [⟨.mv 20 (.t 7), none⟩,
⟨.mv 21 (.t 0), none⟩,
⟨.call 22 k_unroll_frames_fresh [(.t 21)] none, none⟩,
⟨.bsl 23 2 1 1 (.k (.int .i64 0)) [(0, (.t 22))], none⟩,
⟨.app 24 3 1 (.t 20) (.t 23), none⟩,
⟨.mv 7 (.t 24), none⟩] []))
(.rg 5 false [] [⟨.bin 25 .add (.t 18) (.c (.d true (.int .i64 1))), none⟩,
⟨.mv 18 (.t 25), none⟩] []))))
def c_unroll_frames_frame_l2 : C :=
(.seq (.rg 7 false [] [⟨.bin 29 .lss (.t 28) (.t 27), none⟩] [])
(.seq (.cond (.t 29) .skip (.exit 2))
(.seq (.block 3 (.seq (.rg 8 false [] [⟨.ix 30 (.t 26) (.t 28) 1, none⟩,
⟨.load 31 (.t 30) 0, none⟩,
⟨.mv 9 (.t 31), none⟩] [])
(.seq (.seq (.rg 9 false [] [⟨.mv 32 (.t 9), none⟩,
⟨.bin 33 .lss (.t 32) (.c (.d true (.int .i64 0))), none⟩] [])
(.cond (.t 33) (.rg 10 false [] [⟨.mv 34 (.t 0), none⟩,
⟨.call 35 k_unroll_frames_fresh [(.t 34)] none, none⟩,
⟨.mv 9 (.t 35), none⟩] []) .skip))
(.rg 11 false [.kill 4 5] [⟨.mv 36 (.t 7), none⟩,
⟨.mv 37 (.t 9), none⟩,
⟨.bsl 38 4 1 1 (.k (.int .i64 0)) [(0, (.t 37))], none⟩,
⟨.app 39 5 1 (.t 36) (.t 38), none⟩,
⟨.mv 7 (.t 39), none⟩] []))))
(.rg 12 false [] [⟨.bin 40 .add (.t 28) (.c (.d true (.int .i64 1))), none⟩,
⟨.mv 28 (.t 40), none⟩] []))))
def c_unroll_frames_frame_l3 : C :=
(.seq (.rg 14 false [] [⟨.bin 45 .lss (.t 44) (.t 43), none⟩] [])
(.seq (.cond (.t 45) .skip (.exit 4))
(.seq (.block 5 (.seq (.rg 15 false [.kill 6 7] [⟨.ix 46 (.t 42) (.t 44) 2, none⟩,
⟨.load 47 (.t 46) 3, none⟩,
⟨.alloc 11 6 [.k (.int .i64 0), .k (.int .i64 0)], none⟩,
⟨.store (.t 11) (.t 47) 3, none⟩] [])
(.seq (.rg 16 false [] [⟨.mv 48 (.t 0), none⟩,
⟨.call 49 k_unroll_frames_fresh [(.t 48)] none, none⟩,
⟨.mv 12 (.t 49), none⟩] [])
(.seq (.seq (.rg 17 false [] [⟨.mv 50 (.t 0), none⟩,
⟨.chk 51 (.t 50), none⟩,
⟨.fad 52 (.t 51) 0 4, none⟩,
⟨.fad 53 (.t 52) 0 0, none⟩,
⟨.load 54 (.t 53) 0, none⟩,
⟨.bin 55 .gtr (.t 54) (.c (.d true (.int .i64 4000))), none⟩] [])
(.cond (.t 55) (.seq (.rg 18 false [] [⟨.mv 6 (.c (.d true (.bool false))), none⟩] [])
.ret) .skip))
(.seq (.rg 19 true [] [⟨.mv 56 (.t 7), none⟩,
⟨.fad 57 (.t 11) 0 0, none⟩,
⟨.load 58 (.t 57) 0, none⟩,
⟨.call 59 k_unroll_lit [(.t 56), (.t 58)] none, none⟩,
⟨.mv 60 (.t 7), none⟩,
⟨.fad 61 (.t 11) 1 0, none⟩,
⟨.load 62 (.t 61) 0, none⟩,
⟨.call 63 k_unroll_lit [(.t 60), (.t 62)] none, none⟩,
⟨.mv 13 (.t 59), none⟩,
⟨.mv 14 (.t 63), none⟩] [])
(.seq (.rg 20 false [.kill 7 8] [⟨.mv 64 (.t 7), none⟩,
⟨.mv 65 (.t 12), none⟩,
⟨.bsl 66 7 1 1 (.k (.int .i64 0)) [(0, (.t 65))], none⟩,
⟨.app 67 8 1 (.t 64) (.t 66), none⟩,
⟨.mv 7 (.t 67), none⟩] [])
(.seq (.rg 21 false [.kill 9 10] [⟨.mv 68 (.t 0), none⟩,
⟨.mv 69 (.t 12), none⟩,
⟨.bin 70 .xor (.t 69) (.c (.d true (.int .i64 1))), none⟩,
⟨.mv 71 (.t 13), none⟩,
⟨.bsl 72 9 1 2 (.k (.int .i64 0)) [(0, (.t 70)), (1, (.t 71))], none⟩,
⟨.call 73 k_unroll_frames_add [(.t 68), (.t 72)] none, none⟩] [])
(.seq (.rg 22 false [.kill 10 11] [⟨.mv 74 (.t 0), none⟩,
⟨.mv 75 (.t 12), none⟩,
⟨.bin 76 .xor (.t 75) (.c (.d true (.int .i64 1))), none⟩,
⟨.mv 77 (.t 14), none⟩,
⟨.bsl 78 10 1 2 (.k (.int .i64 0)) [(0, (.t 76)), (1, (.t 77))], none⟩,
⟨.call 79 k_unroll_frames_add [(.t 74), (.t 78)] none, none⟩] [])
(.rg 23 false [.kill 11 12] [⟨.mv 80 (.t 0), none⟩,
⟨.mv 81 (.t 12), none⟩,
⟨.mv 82 (.t 13), none⟩,
⟨.bin 83 .xor (.t 82) (.c (.d true (.int .i64 1))), none⟩,
⟨.mv 84 (.t 14), none⟩,
⟨.bin 85 .xor (.t 84) (.c (.d true (.int .i64 1))), none⟩,
⟨.bsl 86 11 1 3 (.k (.int .i64 0)) [(0, (.t 81)), (1, (.t 83)), (2, (.t 85))], none⟩,
⟨.call 87 k_unroll_frames_add [(.t 80), (.t 86)] none, none⟩] [])))))))))
(.rg 24 false [] [⟨.bin 88 .add (.t 44) (.c (.d true (.int .i64 1))), none⟩,
⟨.mv 44 (.t 88), none⟩] []))))
def c_unroll_frames_frame : C :=
(.seq (.rg 0 false [] [⟨.box 4 0 (.t 1) 6, none⟩,
⟨.mv 6 (.c (.d true (.bool false))), none⟩] [])
(.seq (.rg 1 false [] [⟨.bsl 15 1 1 1 (.k (.int .i64 0)) [(0, (.c (.d true (.int .i64 0))))], none⟩,
⟨.mv 7 (.t 15), none⟩] [])
(.seq (.seq (.rg 2 false [] [⟨.fad 16 (.t 4) 0 0, none⟩,
⟨.load 17 (.t 16) 0, none⟩,
⟨.mv 18 (.c (.d true (.int .i64 0))), none⟩] [])
(.block 0 (.loop c_unroll_frames_frame_l1)))
(.seq (.seq (.rg 6 false [] [⟨.mv 26 (.t 2), none⟩,
⟨.len 27 (.t 26), none⟩,
⟨.mv 28 (.c (.d true (.int .i64 0))), none⟩] [])
(.block 2 (.loop c_unroll_frames_frame_l2)))
(.seq (.seq (.rg 13 false [] [⟨.fad 41 (.t 4) 2 0, none⟩,
⟨.load 42 (.t 41) 0, none⟩,
⟨.len 43 (.t 42), none⟩,
⟨.mv 44 (.c (.d true (.int .i64 0))), none⟩] [])
(.block 4 (.loop c_unroll_frames_frame_l3)))
(.seq (.rg 25 false [] [⟨.mv 89 (.t 0), none⟩,
⟨.mv 90 (.t 0), none⟩,
⟨.chk 91 (.t 90), none⟩,
⟨.fad 92 (.t 91) 0 4, none⟩,
⟨.fad 93 (.t 92) 1 0, none⟩,
⟨.load 94 (.t 93) 0, none⟩,
⟨.mv 95 (.t 7), none⟩,
⟨.bsl 96 12 1 1 (.k (.lst 1 [])) [(0, (.t 95))], none⟩,
⟨.app 97 13 1 (.t 94) (.t 96), none⟩,
⟨.chk 98 (.t 89), none⟩,
⟨.fad 99 (.t 98) 0 4, none⟩,
⟨.fad 100 (.t 99) 1 0, none⟩,
⟨.store (.t 100) (.t 97) 0, none⟩] [])
(.seq (.rg 26 false [] [⟨.mv 101 (.t 0), none⟩,
⟨.chk 102 (.t 101), none⟩,
⟨.fad 103 (.t 102) 0 4, none⟩,
⟨.fad 104 (.t 103) 0 0, none⟩,
⟨.load 105 (.t 104) 0, none⟩,
⟨.bin 106 .leq (.t 105) (.c (.d true (.int .i64 4000))), none⟩,
⟨.mv 107 (.t 106), none⟩,
⟨.mv 108 (.t 0), some (107, true)⟩,
⟨.chk 109 (.t 108), some (107, true)⟩,
⟨.fad 110 (.t 109) 0 4, some (107, true)⟩,
⟨.fad 111 (.t 110) 2 0, some (107, true)⟩,
⟨.load 112 (.t 111) 0, some (107, true)⟩,
⟨.len 113 (.t 112), some (107, true)⟩,
⟨.bin 114 .leq (.t 113) (.c (.d true (.int .i64 20000))), some (107, true)⟩,
⟨.pick 115 (.t 107) (.t 114) (.c (.d true (.bool false))), none⟩,
⟨.mv 6 (.t 115), none⟩] [])
.ret)))))))
def n_unroll_frames_frame : Fn := ⟨c_unroll_frames_frame, [.s 6], none⟩

def c_unroll_lit : C :=
(.seq (.rg 0 false [] [⟨.mv 4 (.c (.d true (.int .i64 0))), none⟩] [])
(.seq (.rg 1 false [] [⟨.mv 5 (.t 0), none⟩,
⟨.mv 6 (.t 1), none⟩,
⟨.bin 7 .quo (.t 6) (.c (.d true (.int .i64 2))), none⟩,
⟨.ix 8 (.t 5) (.t 7) 1, none⟩,
⟨.load 9 (.t 8) 0, none⟩,
⟨.mv 10 (.t 1), none⟩,
⟨.bin 11 .and (.t 10) (.c (.d true (.int .i64 1))), none⟩,
⟨.bin 12 .xor (.t 9) (.t 11), none⟩,
⟨.mv 4 (.t 12), none⟩] [])
.ret))
def n_unroll_lit : Fn := ⟨c_unroll_lit, [.s 4], (some [false, false])⟩

def c_slices_pdqsortOrdered_of_int_l1 : C :=
(.block 1 (.seq (.rg 2 false [] [⟨.mv 19 (.t 2), none⟩,
⟨.mv 20 (.t 1), none⟩,
⟨.bin 21 .sub (.t 19) (.t 20), none⟩,
⟨.mv 10 (.t 21), none⟩] [])
(.seq (.seq (.rg 3 false [] [⟨.mv 22 (.t 10), none⟩,
⟨.bin 23 .leq (.t 22) (.c (.d true (.int .i64 12))), none⟩] [])
(.cond (.t 23) (.seq (.rg 4 false [] [⟨.mv 24 (.t 0), none⟩,
⟨.mv 25 (.t 1), none⟩,
⟨.mv 26 (.t 2), none⟩,
⟨.call 27 k_slices_insertionSortOrdered_of_int [(.t 24), (.t 25), (.t 26)] none, none⟩] [])
.ret) .skip))
(.seq (.seq (.rg 5 false [] [⟨.mv 28 (.t 3), none⟩,
⟨.bin 29 .eql (.t 28) (.c (.d true (.int .i64 0))), none⟩] [])
(.cond (.t 29) (.seq (.rg 6 false [] [⟨.mv 30 (.t 0), none⟩,
⟨.mv 31 (.t 1), none⟩,
⟨.mv 32 (.t 2), none⟩,
⟨.call 33 k_slices_heapSortOrdered_of_int [(.t 30), (.t 31), (.t 32)] none, none⟩] [])
.ret) .skip))
(.seq (.seq (.rg 7 false [] [⟨.mv 34 (.t 8), none⟩,
⟨.un 35 .not (.t 34), none⟩] [])
(.cond (.t 35) (.seq (.rg 8 false [] [⟨.mv 36 (.t 0), none⟩,
⟨.mv 37 (.t 1), none⟩,
⟨.mv 38 (.t 2), none⟩,
⟨.call 39 k_slices_breakPatternsOrdered_of_int [(.t 36), (.t 37), (.t 38)] none, none⟩] [])
(.rg 9 false [] [⟨.mv 40 (.t 3), none⟩,
⟨.bin 41 .sub (.t 40) (.c (.d true (.int .i64 1))), none⟩,
⟨.mv 3 (.t 41), none⟩] [])) .skip))
(.seq (.rg 10 false [] [⟨.mv 43 (.t 0), none⟩,
⟨.mv 44 (.t 1), none⟩,
⟨.mv 45 (.t 2), none⟩,
⟨.call 46 k_slices_choosePivotOrdered_of_int [(.t 43), (.t 44), (.t 45)] none, none⟩,
⟨.mv 42 (.t 46), none⟩,
⟨.xt 47 (.t 42) 0, none⟩,
⟨.xt 48 (.t 42) 1, none⟩,
⟨.mv 11 (.t 47), none⟩,
⟨.mv 12 (.t 48), none⟩] [])
(.seq (.seq (.rg 11 false [] [⟨.mv 49 (.t 12), none⟩,
⟨.bin 50 .eql (.t 49) (.c (.d true (.int .i64 2))), none⟩] [])
(.cond (.t 50) (.seq (.rg 12 false [] [⟨.mv 51 (.t 0), none⟩,
⟨.mv 52 (.t 1), none⟩,
⟨.mv 53 (.t 2), none⟩,
⟨.call 54 k_slices_reverseRangeOrdered_of_int [(.t 51), (.t 52), (.t 53)] none, none⟩] [])
(.seq (.rg 13 false [] [⟨.mv 55 (.t 2), none⟩,
⟨.bin 56 .sub (.t 55) (.c (.d true (.int .i64 1))), none⟩,
⟨.mv 57 (.t 11), none⟩,
⟨.mv 58 (.t 1), none⟩,
⟨.bin 59 .sub (.t 57) (.t 58), none⟩,
⟨.bin 60 .sub (.t 56) (.t 59), none⟩,
⟨.mv 11 (.t 60), none⟩] [])
(.rg 14 false [] [⟨.mv 12 (.c (.d true (.int .i64 1))), none⟩] []))) .skip))
(.seq (.seq (.rg 15 false [] [⟨.mv 61 (.t 8), none⟩,
⟨.mv 62 (.t 61), none⟩,
⟨.mv 63 (.t 9), some (62, true)⟩,
⟨.pick 64 (.t 62) (.t 63) (.c (.d true (.bool false))), none⟩,
⟨.mv 65 (.t 64), none⟩,
⟨.mv 66 (.t 12), some (65, true)⟩,
⟨.bin 67 .eql (.t 66) (.c (.d true (.int .i64 1))), some (65, true)⟩,
⟨.pick 68 (.t 65) (.t 67) (.c (.d true (.bool false))), none⟩] [])
(.cond (.t 68) (.seq (.rg 16 false [] [⟨.mv 69 (.t 0), none⟩,
⟨.mv 70 (.t 1), none⟩,
⟨.mv 71 (.t 2), none⟩,
⟨.call 72 k_slices_partialInsertionSortOrdered_of_int [(.t 69), (.t 70), (.t 71)] none, none⟩] [])
(.cond (.t 72) .ret .skip)) .skip))
(.seq (.seq (.rg 17 true [] [⟨.mv 73 (.t 1), none⟩,
⟨.bin 74 .gtr (.t 73) (.c (.d true (.int .i64 0))), none⟩,
⟨.mv 75 (.t 74), none⟩,
⟨.mv 76 (.t 0), some (75, true)⟩,
⟨.mv 77 (.t 1), some (75, true)⟩,
⟨.bin 78 .sub (.t 77) (.c (.d true (.int .i64 1))), some (75, true)⟩,
⟨.ix 79 (.t 76) (.t 78) 1, some (75, true)⟩,
⟨.load 80 (.t 79) 0, some (75, true)⟩,
⟨.mv 81 (.t 0), some (75, true)⟩,
⟨.mv 82 (.t 11), some (75, true)⟩,
⟨.ix 83 (.t 81) (.t 82) 1, some (75, true)⟩,
⟨.load 84 (.t 83) 0, some (75, true)⟩,
⟨.call 85 k_cmp_Less_of_int [(.t 80), (.t 84)] none, some (75, true)⟩,
⟨.un 86 .not (.t 85), some (75, true)⟩,
⟨.pick 87 (.t 75) (.t 86) (.c (.d true (.bool false))), none⟩] [])
(.cond (.t 87) (.seq (.rg 18 false [] [⟨.mv 88 (.t 0), none⟩,
⟨.mv 89 (.t 1), none⟩,
⟨.mv 90 (.t 2), none⟩,
⟨.mv 91 (.t 11), none⟩,
⟨.call 92 k_slices_partitionEqualOrdered_of_int [(.t 88), (.t 89), (.t 90), (.t 91)] none, none⟩,
⟨.mv 13 (.t 92), none⟩] [])
(.seq (.rg 19 false [] [⟨.mv 93 (.t 13), none⟩,
⟨.mv 1 (.t 93), none⟩] [])
(.exit 1))) .skip))
(.seq (.rg 20 false [] [⟨.mv 95 (.t 0), none⟩,
⟨.mv 96 (.t 1), none⟩,
⟨.mv 97 (.t 2), none⟩,
⟨.mv 98 (.t 11), none⟩,
⟨.call 99 k_slices_partitionOrdered_of_int [(.t 95), (.t 96), (.t 97), (.t 98)] none, none⟩,
⟨.mv 94 (.t 99), none⟩,
⟨.xt 100 (.t 94) 0, none⟩,
⟨.xt 101 (.t 94) 1, none⟩,
⟨.mv 14 (.t 100), none⟩,
⟨.mv 15 (.t 101), none⟩] [])
(.seq (.rg 21 false [] [⟨.mv 102 (.t 15), none⟩,
⟨.mv 9 (.t 102), none⟩] [])
(.seq (.rg 22 false [] [⟨.mv 103 (.t 14), none⟩,
⟨.mv 104 (.t 1), none⟩,
⟨.bin 105 .sub (.t 103) (.t 104), none⟩,
⟨.mv 106 (.t 2), none⟩,
⟨.mv 107 (.t 14), none⟩,
⟨.bin 108 .sub (.t 106) (.t 107), none⟩,
⟨.mv 16 (.t 105), none⟩,
⟨.mv 17 (.t 108), none⟩] [])
(.seq (.rg 23 false [] [⟨.mv 109 (.t 10), none⟩,
⟨.bin 110 .quo (.t 109) (.c (.d true (.int .i64 8))), none⟩,
⟨.mv 18 (.t 110), none⟩] [])
(.seq (.rg 24 false [] [⟨.mv 111 (.t 16), none⟩,
⟨.mv 112 (.t 17), none⟩,
⟨.bin 113 .lss (.t 111) (.t 112), none⟩] [])
(.cond (.t 113) (.seq (.rg 25 false [] [⟨.mv 114 (.t 16), none⟩,
⟨.mv 115 (.t 18), none⟩,
⟨.bin 116 .geq (.t 114) (.t 115), none⟩,
⟨.mv 8 (.t 116), none⟩] [])
(.seq (.rg 26 false [] [⟨.mv 117 (.t 0), none⟩,
⟨.mv 118 (.t 1), none⟩,
⟨.mv 119 (.t 14), none⟩,
⟨.mv 120 (.t 3), none⟩,
⟨.call 121 k_slices_pdqsortOrdered_of_int [(.t 117), (.t 118), (.t 119), (.t 120)] none, none⟩] [])
(.rg 27 false [] [⟨.mv 122 (.t 14), none⟩,
⟨.bin 123 .add (.t 122) (.c (.d true (.int .i64 1))), none⟩,
⟨.mv 1 (.t 123), none⟩] []))) (.seq (.rg 28 false [] [⟨.mv 124 (.t 17), none⟩,
⟨.mv 125 (.t 18), none⟩,
⟨.bin 126 .geq (.t 124) (.t 125), none⟩,
⟨.mv 8 (.t 126), none⟩] [])
(.seq (.rg 29 false [] [⟨.mv 127 (.t 0), none⟩,
⟨.mv 128 (.t 14), none⟩,
⟨.bin 129 .add (.t 128) (.c (.d true (.int .i64 1))), none⟩,
⟨.mv 130 (.t 2), none⟩,
⟨.mv 131 (.t 3), none⟩,
⟨.call 132 k_slices_pdqsortOrdered_of_int [(.t 127), (.t 129), (.t 130), (.t 131)] none, none⟩] [])
(.rg 30 false [] [⟨.mv 133 (.t 14), none⟩,
⟨.mv 2 (.t 133), none⟩] []))))))))))))))))))
def c_slices_pdqsortOrdered_of_int : C :=
(.seq (.rg 0 false [] [⟨.mv 8 (.c (.d true (.bool true))), none⟩] [])
(.seq (.rg 1 false [] [⟨.mv 9 (.c (.d true (.bool true))), none⟩] [])
(.block 0 (.loop c_slices_pdqsortOrdered_of_int_l1))))
def n_slices_pdqsortOrdered_of_int : Fn := ⟨c_slices_pdqsortOrdered_of_int, [], none⟩

def c_bits_Len : C :=
(.seq (.rg 0 false [] [⟨.mv 2 (.c (.d true (.int .i64 0))), none⟩] [])
(.seq (.cond (.c (.d true (.bool false))) (.seq (.rg 1 false [] [⟨.mv 3 (.t 0), none⟩,
⟨.cvt 4 .u32 (.t 3), none⟩,
⟨.call 5 k_bits_Len32 [(.t 4)] none, none⟩,
⟨.mv 2 (.t 5), none⟩] [])
.ret) .skip)
(.seq (.rg 2 false [] [⟨.mv 6 (.t 0), none⟩,
⟨.call 7 k_bits_Len64 [(.t 6)] none, none⟩,
⟨.mv 2 (.t 7), none⟩] [])
.ret)))
def n_bits_Len : Fn := ⟨c_bits_Len, [.s 2], (some [false])⟩

def c_assign_Check_l1 : C :=
(.seq (.rg 5 false [] [⟨.bin 24 .lss (.t 23) (.t 22), none⟩] [])
(.seq (.cond (.t 24) .skip (.exit 0))
(.seq (.block 1 (.seq (.rg 6 false [] [⟨.ix 25 (.t 21) (.t 23) 1, none⟩,
⟨.load 26 (.t 25) 0, none⟩,
⟨.mv 5 (.t 26), none⟩] [])
(.seq (.seq (.rg 7 false [] [⟨.fad 27 (.t 1) 0 0, none⟩,
⟨.load 28 (.t 27) 0, none⟩,
⟨.mv 29 (.t 5), none⟩,
⟨.call 30 k_assign_known [(.t 28), (.t 29)] none, none⟩,
⟨.un 31 .not (.t 30), none⟩,
⟨.mv 32 (.t 31), none⟩,
⟨.mv 33 (.t 3), some (32, false)⟩,
⟨.mv 34 (.t 5), some (32, false)⟩,
⟨.bin 35 .quo (.t 34) (.c (.d true (.int .i64 2))), some (32, false)⟩,
⟨.ix 36 (.t 33) (.t 35) 1, some (32, false)⟩,
⟨.load 37 (.t 36) 0, some (32, false)⟩,
⟨.pick 38 (.t 32) (.c (.d true (.bool true))) (.t 37), none⟩] [])
(.cond (.t 38) (.seq (.rg 8 false [] [⟨.mv 2 (.c (.d true (.int .i64 8))), none⟩] [])
.ret) .skip))
(.rg 9 false [] [⟨.mv 39 (.t 3), none⟩,
⟨.mv 40 (.t 5), none⟩,
⟨.bin 41 .quo (.t 40) (.c (.d true (.int .i64 2))), none⟩,
⟨.ix 42 (.t 39) (.t 41) 1, none⟩,
⟨.store (.t 42) (.c (.d true (.bool true))) 0, none⟩] []))))
(.rg 10 false [] [⟨.bin 43 .add (.t 23) (.c (.d true (.int .i64 1))), none⟩,
⟨.mv 23 (.t 43), none⟩] []))))
def c_assign_Check_l2 : C :=
(.seq (.rg 12 false [] [⟨.bin 48 .lss (.t 47) (.t 46), none⟩] [])
(.seq (.cond (.t 48) .skip (.exit 2))
(.seq (.block 3 (.seq (.rg 13 false [] [⟨.mv 49 (.t 47), none⟩,
⟨.ix 50 (.t 45) (.t 47) 1, none⟩,
⟨.load 51 (.t 50) 0, none⟩,
⟨.mv 6 (.t 49), none⟩,
⟨.mv 7 (.t 51), none⟩] [])
(.seq (.rg 14 false [] [⟨.mv 52 (.t 7), none⟩,
⟨.bin 53 .lss (.t 52) (.c (.d true (.int .i64 0))), none⟩,
⟨.mv 54 (.t 53), none⟩,
⟨.mv 55 (.t 7), some (54, false)⟩,
⟨.fad 56 (.t 1) 1 0, some (54, false)⟩,
⟨.load 57 (.t 56) 0, some (54, false)⟩,
⟨.len 58 (.t 57), some (54, false)⟩,
⟨.bin 59 .geq (.t 55) (.t 58), some (54, false)⟩,
⟨.pick 60 (.t 54) (.c (.d true (.bool true))) (.t 59), none⟩,
⟨.mv 61 (.t 60), none⟩,
⟨.mv 62 (.t 6), some (61, false)⟩,
⟨.bin 63 .gtr (.t 62) (.c (.d true (.int .i64 0))), some (61, false)⟩,
⟨.mv 64 (.t 63), some (61, false)⟩,
⟨.mv 65 (.t 7), some (64, true)⟩,
⟨.fad 66 (.t 1) 2 0, some (64, true)⟩,
⟨.load 67 (.t 66) 0, some (64, true)⟩,
⟨.mv 68 (.t 6), some (64, true)⟩,
⟨.bin 69 .sub (.t 68) (.c (.d true (.int .i64 1))), some (64, true)⟩,
⟨.ix 70 (.t 67) (.t 69) 1, some (64, true)⟩,
⟨.load 71 (.t 70) 0, some (64, true)⟩,
⟨.bin 72 .leq (.t 65) (.t 71), some (64, true)⟩,
⟨.pick 73 (.t 64) (.t 72) (.c (.d true (.bool false))), some (61, false)⟩,
⟨.pick 74 (.t 61) (.c (.d true (.bool true))) (.t 73), none⟩] [])
(.cond (.t 74) (.seq (.rg 15 false [] [⟨.mv 2 (.c (.d true (.int .i64 8))), none⟩] [])
.ret) .skip))))
(.rg 16 false [] [⟨.bin 75 .add (.t 47) (.c (.d true (.int .i64 1))), none⟩,
⟨.mv 47 (.t 75), none⟩] []))))
def c_assign_Check : C :=
(.seq (.rg 0 false [] [⟨.box 1 0 (.t 0) 4, none⟩,
⟨.mv 2 (.c (.d true (.int .i64 0))), none⟩] [])
(.seq (.seq (.rg 1 false [] [⟨.fad 8 (.t 1) 0 0, none⟩,
⟨.load 9 (.t 8) 0, none⟩,
⟨.bin 10 .lss (.t 9) (.c (.d true (.int .i64 0))), none⟩,
⟨.mv 11 (.t 10), none⟩,
⟨.fad 12 (.t 1) 0 0, some (11, false)⟩,
⟨.load 13 (.t 12) 0, some (11, false)⟩,
⟨.bin 14 .gtr (.t 13) (.c (.d true (.int .i64 4000))), some (11, false)⟩,
⟨.pick 15 (.t 11) (.c (.d true (.bool true))) (.t 14), none⟩] [])
(.cond (.t 15) (.seq (.rg 2 false [] [⟨.mv 2 (.c (.d true (.int .i64 8))), none⟩] [])
.ret) .skip))
(.seq (.rg 3 false [] [⟨.fad 16 (.t 1) 0 0, none⟩,
⟨.load 17 (.t 16) 0, none⟩,
⟨.bin 18 .add (.t 17) (.c (.d true (.int .i64 1))), none⟩,
⟨.mks 19 1 1 (.t 18) (.t 18) (.k (.bool false)), none⟩,
⟨.mv 3 (.t 19), none⟩] [])
(.seq (.seq (.rg 4 false [] [⟨.fad 20 (.t 1) 1 0, none⟩,
⟨.load 21 (.t 20) 0, none⟩,
⟨.len 22 (.t 21), none⟩,
⟨.mv 23 (.c (.d true (.int .i64 0))), none⟩] [])
(.block 0 (.loop c_assign_Check_l1)))
(.seq (.seq (.rg 11 false [] [⟨.fad 44 (.t 1) 2 0, none⟩,
⟨.load 45 (.t 44) 0, none⟩,
⟨.len 46 (.t 45), none⟩,
⟨.mv 47 (.c (.d true (.int .i64 0))), none⟩] [])
(.block 2 (.loop c_assign_Check_l2)))
(.seq (.rg 17 false [] [⟨.mv 2 (.c (.d true (.int .i64 0))), none⟩] [])
.ret))))))
def n_assign_Check : Fn := ⟨c_assign_Check, [.s 2], (some [false])⟩

def c_unit_values_l1 : C :=
(.seq (.rg 3 false [] [⟨.bin 15 .lss (.t 14) (.t 13), none⟩] [])
(.seq (.cond (.t 15) .skip (.exit 0))
(.seq (.block 1 (.seq (.rg 4 false [] [⟨.mv 16 (.t 14), none⟩,
⟨.mv 4 (.t 16), none⟩] [])
(.rg 5 false [] [⟨.mv 17 (.t 3), none⟩,
⟨.mv 18 (.t 4), none⟩,
⟨.ix 19 (.t 17) (.t 18) 1, none⟩,
⟨.store (.t 19) (.c (.d true (.int .u8 2))) 0, none⟩] [])))
(.rg 6 false [] [⟨.bin 20 .add (.t 14) (.c (.d true (.int .i64 1))), none⟩,
⟨.mv 14 (.t 20), none⟩] []))))
def c_unit_values_l2 : C :=
(.seq (.rg 8 false [] [⟨.bin 25 .lss (.t 24) (.t 23), none⟩] [])
(.seq (.cond (.t 25) .skip (.exit 2))
(.seq (.block 3 (.seq (.rg 9 false [] [⟨.ix 26 (.t 22) (.t 24) 1, none⟩,
⟨.load 27 (.t 26) 0, none⟩,
⟨.mv 6 (.t 27), none⟩] [])
(.rg 10 false [] [⟨.mv 28 (.t 3), none⟩,
⟨.mv 29 (.t 6), none⟩,
⟨.mv 30 (.t 3), none⟩,
⟨.mv 31 (.t 6), none⟩,
⟨.bin 32 .xor (.t 31) (.c (.d true (.int .i64 1))), none⟩,
⟨.ix 33 (.t 28) (.t 29) 1, none⟩,
⟨.store (.t 33) (.c (.d true (.int .u8 1))) 0, none⟩,
⟨.ix 34 (.t 30) (.t 32) 1, none⟩,
⟨.store (.t 34) (.c (.d true (.int .u8 0))) 0, none⟩] [])))
(.rg 11 false [] [⟨.bin 35 .add (.t 24) (.c (.d true (.int .i64 1))), none⟩,
⟨.mv 24 (.t 35), none⟩] []))))
def c_unit_values : C :=
(.seq (.rg 0 false [] [⟨.box 1 0 (.t 0) 4, none⟩,
⟨.mv 2 (.c (.nil 1)), none⟩] [])
(.seq (.rg 1 false [] [⟨.fad 7 (.t 1) 0 0, none⟩,
⟨.load 8 (.t 7) 0, none⟩,
⟨.bin 9 .mul (.c (.d true (.int .i64 2))) (.t 8), none⟩,
⟨.bin 10 .add (.t 9) (.c (.d true (.int .i64 2))), none⟩,
⟨.mks 11 1 1 (.t 10) (.t 10) (.k (.int .u8 0)), none⟩,
⟨.mv 3 (.t 11), none⟩] [])
(.seq (.seq (.rg 2 false [] [⟨.mv 12 (.t 3), none⟩,
⟨.len 13 (.t 12), none⟩,
⟨.mv 14 (.c (.d true (.int .i64 0))), none⟩] [])
(.block 0 (.loop c_unit_values_l1)))
(.seq (.seq (.rg 7 false [] [⟨.fad 21 (.t 1) 1 0, none⟩,
⟨.load 22 (.t 21) 0, none⟩,
⟨.len 23 (.t 22), none⟩,
⟨.mv 24 (.c (.d true (.int .i64 0))), none⟩] [])
(.block 2 (.loop c_unit_values_l2)))
(.seq (.rg 12 false [] [⟨.mv 36 (.t 3), none⟩,
⟨.mv 2 (.t 36), none⟩] [])
.ret)))))
def n_unit_values : Fn := ⟨c_unit_values, [.s 2], (some [false])⟩

def c_unit_next_l1 : C :=
(.seq (.rg 3 false [] [⟨.bin 14 .lss (.t 13) (.t 12), none⟩] [])
(.seq (.cond (.t 14) .skip (.exit 0))
(.seq (.block 1 (.seq (.rg 4 false [] [⟨.mv 15 (.t 13), none⟩,
⟨.ix 16 (.t 11) (.t 13) 1, none⟩,
⟨.load 17 (.t 16) 0, none⟩,
⟨.mv 7 (.t 15), none⟩,
⟨.mv 8 (.t 17), none⟩] [])
(.seq (.rg 5 false [] [⟨.mv 19 (.t 0), none⟩,
⟨.mv 20 (.t 8), none⟩,
⟨.call 21 k_unit_state [(.t 19), (.t 20)] none, none⟩,
⟨.mv 18 (.t 21), none⟩,
⟨.xt 22 (.t 18) 0, none⟩,
⟨.xt 23 (.t 18) 1, none⟩,
⟨.mv 9 (.t 22), none⟩,
⟨.mv 10 (.t 23), none⟩] [])
(.seq (.seq (.rg 6 false [] [⟨.mv 24 (.t 9), none⟩,
⟨.bin 25 .eql (.t 24) (.c (.d true (.int .u8 0))), none⟩] [])
(.cond (.t 25) (.seq (.rg 7 false [] [⟨.mv 26 (.t 7), none⟩,
⟨.mv 4 (.t 26), none⟩,
⟨.mv 5 (.c (.d true (.int .i64 0))), none⟩] [])
.ret) .skip))
(.seq (.rg 8 false [] [⟨.mv 27 (.t 9), none⟩,
⟨.bin 28 .eql (.t 27) (.c (.d true (.int .u8 3))), none⟩,
⟨.mv 29 (.t 28), none⟩,
⟨.mv 30 (.t 6), some (29, true)⟩,
⟨.bin 31 .eql (.t 30) (.c (.d true (.int .i64 0))), some (29, true)⟩,
⟨.pick 32 (.t 29) (.t 31) (.c (.d true (.bool false))), none⟩] [])
(.cond (.t 32) (.rg 9 false [] [⟨.mv 33 (.t 10), none⟩,
⟨.mv 6 (.t 33), none⟩] []) .skip))))))
(.rg 10 false [] [⟨.bin 34 .add (.t 13) (.c (.d true (.int .i64 1))), none⟩,
⟨.mv 13 (.t 34), none⟩] []))))
def c_unit_next : C :=
(.seq (.rg 0 false [] [⟨.mv 4 (.c (.d true (.int .i64 0))), none⟩,
⟨.mv 5 (.c (.d true (.int .i64 0))), none⟩] [])
(.seq (.rg 1 false [] [⟨.mv 6 (.c (.d true (.int .i64 0))), none⟩] [])
(.seq (.seq (.rg 2 false [] [⟨.mv 11 (.t 1), none⟩,
⟨.len 12 (.t 11), none⟩,
⟨.mv 13 (.c (.d true (.int .i64 0))), none⟩] [])
(.block 0 (.loop c_unit_next_l1)))
(.seq (.rg 11 false [] [⟨.mv 35 (.t 6), none⟩,
⟨.mv 4 (.c (.d true (.int .i64 (-1)))), none⟩,
⟨.mv 5 (.t 35), none⟩] [])
.ret))))
def n_unit_next : Fn := ⟨c_unit_next, [.s 4, .s 5], (some [false, false])⟩

def c_learn_Clause_l1 : C :=
(.seq (.rg 8 false [] [⟨.bin 34 .lss (.t 33) (.t 32), none⟩] [])
(.seq (.cond (.t 34) .skip (.exit 0))
(.seq (.block 1 (.seq (.rg 9 false [] [⟨.ix 35 (.t 31) (.t 33) 1, none⟩,
⟨.load 36 (.t 35) 0, none⟩,
⟨.mv 11 (.t 36), none⟩] [])
(.seq (.rg 10 false [] [⟨.mv 37 (.t 9), none⟩,
⟨.mv 38 (.t 11), none⟩,
⟨.call 39 k_slices_Index_of_int [(.t 37), (.t 38)] none, none⟩,
⟨.mv 12 (.t 39), none⟩] [])
(.seq (.rg 11 false [.frz 41, .pur 41, .frz 46, .pur 46, .kill 41 47] [⟨.mv 40 (.t 9), none⟩,
⟨.call 41 k_slices_Clone_of_int [(.t 40)] (some 41), none⟩,
⟨.mv 42 (.t 12), none⟩,
⟨.mv 43 (.t 12), none⟩,
⟨.bin 44 .add (.t 43) (.c (.d true (.int .i64 1))), none⟩,
⟨.call 45 k_slices_Delete_of_int [(.t 41), (.t 42), (.t 44)] (some 46), none⟩,
⟨.mv 13 (.t 45), none⟩] [])
(.seq (.rg 12 false [] [⟨.mv 46 (.t 0), none⟩,
⟨.mv 47 (.t 1), none⟩,
⟨.mv 48 (.t 13), none⟩,
⟨.call 49 k_learn_conflict [(.t 46), (.t 47), (.t 48)] none, none⟩] [])
(.cond (.t 49) (.rg 13 false [] [⟨.mv 50 (.t 13), none⟩,
⟨.mv 9 (.t 50), none⟩] []) .skip))))))
(.rg 14 false [] [⟨.bin 51 .add (.t 33) (.c (.d true (.int .i64 1))), none⟩,
⟨.mv 33 (.t 51), none⟩] []))))
def c_learn_Clause_l2 : C :=
(.seq (.rg 17 false [] [⟨.bin 55 .lss (.t 54) (.t 53), none⟩] [])
(.seq (.cond (.t 55) .skip (.exit 2))
(.seq (.block 3 (.seq (.rg 18 false [] [⟨.ix 56 (.t 52) (.t 54) 1, none⟩,
⟨.load 57 (.t 56) 0, none⟩,
⟨.mv 16 (.t 57), none⟩] [])
(.rg 19 false [.kill 1 2] [⟨.mv 58 (.t 14), none⟩,
⟨.mv 59 (.t 16), none⟩,
⟨.bin 60 .xor (.t 59) (.c (.d true (.int .i64 1))), none⟩,
⟨.bsl 61 1 1 1 (.k (.int .i64 0)) [(0, (.t 60))], none⟩,
⟨.app 62 2 1 (.t 58) (.t 61), none⟩,
⟨.mv 14 (.t 62), none⟩] [])))
(.rg 20 false [] [⟨.bin 63 .add (.t 54) (.c (.d true (.int .i64 1))), none⟩,
⟨.mv 54 (.t 63), none⟩] []))))
def c_learn_Clause : C :=
(.seq (.rg 0 false [] [⟨.mv 6 (.c (.nil 1)), none⟩,
⟨.mv 7 (.c (.d true (.int .i64 0))), none⟩] [])
(.seq (.seq (.rg 1 false [] [⟨.mv 17 (.t 0), none⟩,
⟨.mv 18 (.t 1), none⟩,
⟨.mv 19 (.t 2), none⟩,
⟨.call 20 k_learn_check [(.t 17), (.t 18), (.t 19)] none, none⟩,
⟨.mv 8 (.t 20), none⟩] [])
(.seq (.rg 2 false [] [⟨.mv 21 (.t 8), none⟩,
⟨.bin 22 .neq (.t 21) (.c (.d true (.int .i64 0))), none⟩] [])
(.cond (.t 22) (.seq (.rg 3 false [] [⟨.mv 23 (.t 8), none⟩,
⟨.mv 6 (.c (.nil 1)), none⟩,
⟨.mv 7 (.t 23), none⟩] [])
.ret) .skip)))
(.seq (.seq (.rg 4 false [] [⟨.mv 24 (.t 0), none⟩,
⟨.mv 25 (.t 1), none⟩,
⟨.mv 26 (.t 2), none⟩,
⟨.call 27 k_learn_conflict [(.t 24), (.t 25), (.t 26)] none, none⟩,
⟨.un 28 .not (.t 27), none⟩] [])
(.cond (.t 28) (.seq (.rg 5 false [] [⟨.mv 6 (.c (.nil 1)), none⟩,
⟨.mv 7 (.c (.d true (.int .i64 6))), none⟩] [])
.ret) .skip))
(.seq (.rg 6 false [] [⟨.mv 29 (.t 2), none⟩,
⟨.call 30 k_slices_Clone_of_int [(.t 29)] (some 40), none⟩,
⟨.mv 9 (.t 30), none⟩] [])
(.seq (.seq (.rg 7 false [] [⟨.mv 31 (.t 2), none⟩,
⟨.len 32 (.t 31), none⟩,
⟨.mv 33 (.c (.d true (.int .i64 0))), none⟩] [])
(.block 0 (.loop c_learn_Clause_l1)))
(.seq (.rg 15 false [] [⟨.nilr 14 0 1, none⟩] [])
(.seq (.seq (.rg 16 false [] [⟨.mv 52 (.t 9), none⟩,
⟨.len 53 (.t 52), none⟩,
⟨.mv 54 (.c (.d true (.int .i64 0))), none⟩] [])
(.block 2 (.loop c_learn_Clause_l2)))
(.seq (.rg 21 false [] [⟨.mv 64 (.t 14), none⟩,
⟨.call 65 k_slices_Sort_of_int [(.t 64)] none, none⟩] [])
(.seq (.rg 22 false [] [⟨.mv 66 (.t 14), none⟩,
⟨.mv 6 (.t 66), none⟩,
⟨.mv 7 (.c (.d true (.int .i64 0))), none⟩] [])
.ret)))))))))
def n_learn_Clause : Fn := ⟨c_learn_Clause, [.s 6, .s 7], (some [false, false, false])⟩

def c_solve_solver_learn : C :=
(.seq (.rg 0 false [] [⟨.mv 4 (.t 0), none⟩,
⟨.mv 5 (.t 0), none⟩,
⟨.chk 6 (.t 5), none⟩,
⟨.fad 7 (.t 6) 1 0, none⟩,
⟨.load 8 (.t 7) 0, none⟩,
⟨.mv 9 (.t 1), none⟩,
⟨.bsl 10 0 1 1 (.k (.lst 1 [])) [(0, (.t 9))], none⟩,
⟨.app 11 1 1 (.t 8) (.t 10), none⟩,
⟨.chk 12 (.t 4), none⟩,
⟨.fad 13 (.t 12) 1 0, none⟩,
⟨.store (.t 13) (.t 11) 0, none⟩] [])
(.rg 1 false [] [⟨.mv 14 (.t 0), none⟩,
⟨.mv 15 (.t 0), none⟩,
⟨.chk 16 (.t 15), none⟩,
⟨.fad 17 (.t 16) 5 6, none⟩,
⟨.fad 18 (.t 17) 3 0, none⟩,
⟨.load 19 (.t 18) 0, none⟩,
⟨.mv 20 (.t 1), none⟩,
⟨.bsl 21 2 1 1 (.k (.lst 1 [])) [(0, (.t 20))], none⟩,
⟨.apl 22 2 60 1 (.t 19) (.t 21), none⟩,
⟨.chk 23 (.t 14), none⟩,
⟨.fad 24 (.t 23) 5 6, none⟩,
⟨.fad 25 (.t 24) 3 0, none⟩,
⟨.store (.t 25) (.t 22) 0, none⟩] []))
def n_solve_solver_learn : Fn := ⟨c_solve_solver_learn, [], none⟩

def c_jump_Back : C :=
(.seq (.rg 0 false [] [⟨.box 2 0 (.t 0) 4, none⟩,
⟨.alloc 4 1 [.k (.int .i64 0), .r 2 1, .r 3 1], none⟩,
⟨.mv 5 (.c (.d true (.int .i64 0))), none⟩] [])
(.seq (.rg 1 false [] [⟨.load 10 (.t 2) 4, none⟩,
⟨.mv 11 (.t 1), none⟩,
⟨.call 12 k_jump_levels [(.t 10), (.t 11)] none, none⟩,
⟨.mv 9 (.t 12), none⟩,
⟨.xt 13 (.t 9) 0, none⟩,
⟨.xt 14 (.t 9) 1, none⟩,
⟨.mv 6 (.t 13), none⟩,
⟨.mv 7 (.t 14), none⟩] [])
(.seq (.seq (.rg 2 false [] [⟨.mv 15 (.t 7), none⟩,
⟨.bin 16 .neq (.t 15) (.c (.d true (.int .i64 0))), none⟩] [])
(.cond (.t 16) (.seq (.rg 3 false [] [⟨.bld 17 [.k (.int .i64 0), .n 1, .n 1] [], none⟩,
⟨.mv 18 (.t 7), none⟩,
⟨.store (.t 4) (.t 17) 4, none⟩,
⟨.mv 5 (.t 18), none⟩] [])
.ret) .skip))
(.seq (.seq (.rg 4 true [] [⟨.mv 19 (.t 6), none⟩,
⟨.len 20 (.t 19), none⟩,
⟨.bin 21 .eql (.t 20) (.c (.d true (.int .i64 0))), none⟩,
⟨.mv 22 (.t 21), none⟩,
⟨.mv 23 (.t 6), some (22, false)⟩,
⟨.ix 24 (.t 23) (.c (.d true (.int .i64 0))) 2, some (22, false)⟩,
⟨.fad 25 (.t 24) 1 0, some (22, false)⟩,
⟨.load 26 (.t 25) 0, some (22, false)⟩,
⟨.mv 27 (.t 6), some (22, false)⟩,
⟨.call 28 k_jump_second [(.t 27)] none, some (22, false)⟩,
⟨.bin 29 .eql (.t 26) (.t 28), some (22, false)⟩,
⟨.pick 30 (.t 22) (.c (.d true (.bool true))) (.t 29), none⟩] [])
(.cond (.t 30) (.seq (.rg 5 false [] [⟨.bld 31 [.k (.int .i64 0), .n 1, .n 1] [], none⟩,
⟨.store (.t 4) (.t 31) 4, none⟩,
⟨.mv 5 (.c (.d true (.int .i64 6))), none⟩] [])
.ret) .skip))
(.seq (.rg 6 true [] [⟨.load 33 (.t 2) 4, none⟩,
⟨.mv 34 (.t 6), none⟩,
⟨.call 35 k_jump_second [(.t 34)] none, none⟩,
⟨.call 36 k_assign_Undo [(.t 33), (.t 35)] none, none⟩,
⟨.mv 32 (.t 36), none⟩,
⟨.xt 37 (.t 32) 0, none⟩,
⟨.xt 38 (.t 32) 1, none⟩,
⟨.alloc 8 4 [.k (.int .i64 0), .n 1, .n 1], none⟩,
⟨.store (.t 8) (.t 37) 4, none⟩,
⟨.mv 7 (.t 38), none⟩] [])
(.seq (.seq (.rg 7 false [] [⟨.mv 39 (.t 7), none⟩,
⟨.bin 40 .neq (.t 39) (.c (.d true (.int .i64 0))), none⟩] [])
(.cond (.t 40) (.seq (.rg 8 false [] [⟨.bld 41 [.k (.int .i64 0), .n 1, .n 1] [], none⟩,
⟨.mv 42 (.t 7), none⟩,
⟨.store (.t 4) (.t 41) 4, none⟩,
⟨.mv 5 (.t 42), none⟩] [])
.ret) .skip))
(.seq (.rg 9 true [] [⟨.load 43 (.t 8) 4, none⟩,
⟨.mv 44 (.t 6), none⟩,
⟨.ix 45 (.t 44) (.c (.d true (.int .i64 0))) 2, none⟩,
⟨.fad 46 (.t 45) 0 0, none⟩,
⟨.load 47 (.t 46) 0, none⟩,
⟨.call 48 k_assign_Imply [(.t 43), (.t 47)] none, none⟩,
⟨.xt 49 (.t 48) 0, none⟩,
⟨.xt 50 (.t 48) 1, none⟩,
⟨.store (.t 4) (.t 49) 4, none⟩,
⟨.mv 5 (.t 50), none⟩] [])
.ret)))))))
def n_jump_Back : Fn := ⟨c_jump_Back, [.c 4 4, .s 5], (some [false, false])⟩

def c_decide_Next_l1 : C :=
(.seq (.rg 9 false [] [⟨.bin 32 .lss (.t 31) (.t 30), none⟩] [])
(.seq (.cond (.t 32) .skip (.exit 0))
(.seq (.block 1 (.seq (.rg 10 false [] [⟨.ix 33 (.t 29) (.t 31) 1, none⟩,
⟨.load 34 (.t 33) 0, none⟩,
⟨.mv 11 (.t 34), none⟩] [])
(.rg 11 false [] [⟨.mv 35 (.t 9), none⟩,
⟨.mv 36 (.t 11), none⟩,
⟨.bin 37 .quo (.t 36) (.c (.d true (.int .i64 2))), none⟩,
⟨.ix 38 (.t 35) (.t 37) 1, none⟩,
⟨.store (.t 38) (.c (.d true (.bool true))) 0, none⟩] [])))
(.rg 12 false [] [⟨.bin 39 .add (.t 31) (.c (.d true (.int .i64 1))), none⟩,
⟨.mv 31 (.t 39), none⟩] []))))
def c_decide_Next_l2 : C :=
(.seq (.seq (.rg 14 false [] [⟨.mv 42 (.t 12), none⟩,
⟨.len 43 (.t 42), none⟩,
⟨.bin 44 .gtr (.t 43) (.c (.d true (.int .i64 0))), none⟩] [])
(.cond (.t 44) .skip (.exit 2)))
(.block 3 (.seq (.rg 15 false [] [⟨.mv 13 (.c (.d true (.int .i64 0))), none⟩] [])
(.seq (.rg 16 false [] [⟨.mv 46 (.t 12), none⟩,
⟨.call 47 k_decide_pop [(.t 46)] none, none⟩,
⟨.mv 45 (.t 47), none⟩,
⟨.xt 48 (.t 45) 0, none⟩,
⟨.xt 49 (.t 45) 1, none⟩,
⟨.mv 13 (.t 48), none⟩,
⟨.mv 12 (.t 49), none⟩] [])
(.seq (.rg 17 false [] [⟨.mv 50 (.t 13), none⟩,
⟨.fad 51 (.t 3) 0 0, none⟩,
⟨.load 52 (.t 51) 0, none⟩,
⟨.bin 53 .leq (.t 50) (.t 52), none⟩,
⟨.mv 54 (.t 53), none⟩,
⟨.mv 55 (.t 9), some (54, true)⟩,
⟨.mv 56 (.t 13), some (54, true)⟩,
⟨.ix 57 (.t 55) (.t 56) 1, some (54, true)⟩,
⟨.load 58 (.t 57) 0, some (54, true)⟩,
⟨.un 59 .not (.t 58), some (54, true)⟩,
⟨.pick 60 (.t 54) (.t 59) (.c (.d true (.bool false))), none⟩] [])
(.cond (.t 60) (.seq (.rg 18 false [] [⟨.mv 61 (.t 13), none⟩,
⟨.mv 62 (.t 12), none⟩,
⟨.mv 4 (.t 61), none⟩,
⟨.mv 5 (.t 62), none⟩,
⟨.mv 6 (.c (.d true (.int .i64 0))), none⟩] [])
.ret) .skip))))))
def c_decide_Next : C :=
(.seq (.rg 0 false [] [⟨.box 3 0 (.t 1) 4, none⟩,
⟨.mv 4 (.c (.d true (.int .i64 0))), none⟩,
⟨.mv 5 (.c (.nil 1)), none⟩,
⟨.mv 6 (.c (.d true (.int .i64 0))), none⟩] [])
(.seq (.seq (.rg 1 false [] [⟨.mv 14 (.t 0), none⟩,
⟨.call 15 k_decide_Check [(.t 14)] none, none⟩,
⟨.mv 7 (.t 15), none⟩] [])
(.seq (.rg 2 false [] [⟨.mv 16 (.t 7), none⟩,
⟨.bin 17 .neq (.t 16) (.c (.d true (.int .i64 0))), none⟩] [])
(.cond (.t 17) (.seq (.rg 3 false [] [⟨.mv 18 (.t 7), none⟩,
⟨.mv 4 (.c (.d true (.int .i64 0))), none⟩,
⟨.mv 5 (.c (.nil 1)), none⟩,
⟨.mv 6 (.t 18), none⟩] [])
.ret) .skip)))
(.seq (.seq (.rg 4 false [] [⟨.load 19 (.t 3) 4, none⟩,
⟨.call 20 k_assign_Check [(.t 19)] none, none⟩,
⟨.mv 8 (.t 20), none⟩] [])
(.seq (.rg 5 false [] [⟨.mv 21 (.t 8), none⟩,
⟨.bin 22 .neq (.t 21) (.c (.d true (.int .i64 0))), none⟩] [])
(.cond (.t 22) (.seq (.rg 6 false [] [⟨.mv 23 (.t 8), none⟩,
⟨.mv 4 (.c (.d true (.int .i64 0))), none⟩,
⟨.mv 5 (.c (.nil 1)), none⟩,
⟨.mv 6 (.t 23), none⟩] [])
.ret) .skip)))
(.seq (.rg 7 false [] [⟨.fad 24 (.t 3) 0 0, none⟩,
⟨.load 25 (.t 24) 0, none⟩,
⟨.bin 26 .add (.t 25) (.c (.d true (.int .i64 1))), none⟩,
⟨.mks 27 1 1 (.t 26) (.t 26) (.k (.bool false)), none⟩,
⟨.mv 9 (.t 27), none⟩] [])
(.seq (.seq (.rg 8 false [] [⟨.fad 28 (.t 3) 1 0, none⟩,
⟨.load 29 (.t 28) 0, none⟩,
⟨.len 30 (.t 29), none⟩,
⟨.mv 31 (.c (.d true (.int .i64 0))), none⟩] [])
(.block 0 (.loop c_decide_Next_l1)))
(.seq (.rg 13 false [] [⟨.mv 40 (.t 0), none⟩,
⟨.call 41 k_slices_Clone_of_int [(.t 40)] (some 40), none⟩,
⟨.mv 12 (.t 41), none⟩] [])
(.seq (.block 2 (.loop c_decide_Next_l2))
(.seq (.rg 19 false [] [⟨.mv 4 (.c (.d true (.int .i64 0))), none⟩,
⟨.mv 5 (.c (.nil 1)), none⟩,
⟨.mv 6 (.c (.d true (.int .i64 6))), none⟩] [])
.ret))))))))
def n_decide_Next : Fn := ⟨c_decide_Next, [.s 4, .s 5, .s 6], (some [false, false])⟩

def c_cmp_Less_of_int : C :=
(.seq (.rg 0 false [] [⟨.mv 4 (.c (.d true (.bool false))), none⟩] [])
(.seq (.rg 1 false [] [⟨.mv 5 (.t 0), none⟩,
⟨.call 6 k_cmp_isNaN_of_int [(.t 5)] none, none⟩,
⟨.mv 7 (.t 6), none⟩,
⟨.mv 8 (.t 1), some (7, true)⟩,
⟨.call 9 k_cmp_isNaN_of_int [(.t 8)] none, some (7, true)⟩,
⟨.un 10 .not (.t 9), some (7, true)⟩,
⟨.pick 11 (.t 7) (.t 10) (.c (.d true (.bool false))), none⟩,
⟨.mv 12 (.t 11), none⟩,
⟨.mv 13 (.t 0), some (12, false)⟩,
⟨.mv 14 (.t 1), some (12, false)⟩,
⟨.bin 15 .lss (.t 13) (.t 14), some (12, false)⟩,
⟨.pick 16 (.t 12) (.c (.d true (.bool true))) (.t 15), none⟩,
⟨.mv 4 (.t 16), none⟩] [])
.ret))
def n_cmp_Less_of_int : Fn := ⟨c_cmp_Less_of_int, [.s 4], (some [false, false])⟩

def c_slices_isNaN_of_int : C :=
(.seq (.rg 0 false [] [⟨.mv 2 (.c (.d true (.bool false))), none⟩] [])
(.seq (.rg 1 false [] [⟨.mv 3 (.t 0), none⟩,
⟨.mv 4 (.t 0), none⟩,
⟨.bin 5 .neq (.t 3) (.t 4), none⟩,
⟨.mv 2 (.t 5), none⟩] [])
.ret))
def n_slices_isNaN_of_int : Fn := ⟨c_slices_isNaN_of_int, [.s 2], (some [false])⟩

def c_slices_IndexFunc_of_api_Latch_l1 : C :=
(.seq (.rg 2 false [] [⟨.bin 9 .lss (.t 8) (.t 7), none⟩] [])
(.seq (.cond (.t 9) .skip (.exit 0))
(.seq (.block 1 (.seq (.rg 3 false [] [⟨.mv 10 (.t 8), none⟩,
⟨.mv 5 (.t 10), none⟩] [])
(.seq (.rg 4 false [] [⟨.mv 11 (.t 1), none⟩,
⟨.mv 12 (.t 0), none⟩,
⟨.mv 13 (.t 5), none⟩,
⟨.ix 14 (.t 12) (.t 13) 2, none⟩,
⟨.load 15 (.t 14) 3, none⟩,
⟨.callv 16 (.t 11) [(.t 15)] none, none⟩] [])
(.cond (.t 16) (.seq (.rg 5 false [] [⟨.mv 17 (.t 5), none⟩,
⟨.mv 4 (.t 17), none⟩] [])
.ret) .skip))))
(.rg 6 false [] [⟨.bin 18 .add (.t 8) (.c (.d true (.int .i64 1))), none⟩,
⟨.mv 8 (.t 18), none⟩] []))))
def c_slices_IndexFunc_of_api_Latch : C :=
(.seq (.rg 0 false [] [⟨.mv 4 (.c (.d true (.int .i64 0))), none⟩] [])
(.seq (.seq (.rg 1 false [] [⟨.mv 6 (.t 0), none⟩,
⟨.len 7 (.t 6), none⟩,
⟨.mv 8 (.c (.d true (.int .i64 0))), none⟩] [])
(.block 0 (.loop c_slices_IndexFunc_of_api_Latch_l1)))
(.seq (.rg 7 false [] [⟨.mv 4 (.c (.d true (.int .i64 (-1)))), none⟩] [])
.ret)))
def n_slices_IndexFunc_of_api_Latch : Fn := ⟨c_slices_IndexFunc_of_api_Latch, [.s 4], none⟩

def c_preds_builder_put_1 : C :=
(.seq (.rg 0 false [] [⟨.mv 3 (.c (.d true (.int .i64 0))), none⟩] [])
(.seq (.rg 1 false [] [⟨.load 4 (.t 1) 0, none⟩,
⟨.mv 5 (.t 0), none⟩,
⟨.bin 6 .quo (.t 5) (.c (.d true (.int .i64 2))), none⟩,
⟨.ix 7 (.t 4) (.t 6) 1, none⟩,
⟨.load 8 (.t 7) 0, none⟩,
⟨.mv 9 (.t 0), none⟩,
⟨.bin 10 .and (.t 9) (.c (.d true (.int .i64 1))), none⟩,
⟨.bin 11 .xor (.t 8) (.t 10), none⟩,
⟨.mv 3 (.t 11), none⟩] [])
.ret))
def n_preds_builder_put_1 : Fn := ⟨c_preds_builder_put_1, [.s 3], none⟩

def c_preds_over_1 : C :=
(.seq (.rg 0 false [] [⟨.mv 2 (.c (.d true (.int .i64 0))), none⟩] [])
(.seq (.rg 1 false [] [⟨.mv 3 (.t 0), none⟩,
⟨.bin 4 .mul (.c (.d true (.int .i64 2))) (.t 3), none⟩,
⟨.mv 2 (.t 4), none⟩] [])
.ret))
def n_preds_over_1 : Fn := ⟨c_preds_over_1, [.s 2], none⟩

def c_lits_And : C :=
(.seq (.rg 0 false [] [⟨.mv 4 (.c (.d true (.int .i64 0))), none⟩,
⟨.mv 5 (.c (.d true (.bool false))), none⟩,
⟨.mv 6 (.c (.d true (.int .i64 0))), none⟩] [])
(.seq (.seq (.rg 1 false [] [⟨.mv 10 (.t 0), none⟩,
⟨.mv 11 (.t 1), none⟩,
⟨.bsl 12 0 1 2 (.k (.int .i64 0)) [(0, (.t 10)), (1, (.t 11))], none⟩,
⟨.call 13 k_lits_check [(.t 12)] none, none⟩,
⟨.mv 7 (.t 13), none⟩] [])
(.seq (.rg 2 false [] [⟨.mv 14 (.t 7), none⟩,
⟨.bin 15 .neq (.t 14) (.c (.d true (.int .i64 0))), none⟩] [])
(.cond (.t 15) (.seq (.rg 3 false [] [⟨.mv 16 (.t 7), none⟩,
⟨.mv 4 (.c (.d true (.int .i64 0))), none⟩,
⟨.mv 5 (.c (.d true (.bool false))), none⟩,
⟨.mv 6 (.t 16), none⟩] [])
.ret) .skip)))
(.seq (.rg 4 false [] [⟨.mv 17 (.t 0), none⟩,
⟨.mv 18 (.t 1), none⟩,
⟨.mn 19 (.t 17) [(.t 18)], none⟩,
⟨.mv 20 (.t 0), none⟩,
⟨.mv 21 (.t 1), none⟩,
⟨.mx 22 (.t 20) [(.t 21)], none⟩,
⟨.mv 8 (.t 19), none⟩,
⟨.mv 9 (.t 22), none⟩] [])
(.seq (.block 0 (.seq (.seq (.rg 5 false [] [⟨.mv 24 (.t 8), none⟩,
⟨.bin 25 .eql (.t 24) (.c (.d true (.int .i64 0))), none⟩,
⟨.mv 23 (.t 25), none⟩] [])
(.cond (.t 23) .skip (.rg 6 false [] [⟨.mv 26 (.t 8), none⟩,
⟨.bin 27 .xor (.t 26) (.c (.d true (.int .i64 1))), none⟩,
⟨.mv 28 (.t 9), none⟩,
⟨.bin 29 .eql (.t 27) (.t 28), none⟩,
⟨.mv 23 (.t 29), none⟩] [])))
(.cond (.t 23) (.seq (.rg 7 false [] [⟨.mv 4 (.c (.d true (.int .i64 0))), none⟩,
⟨.mv 5 (.c (.d true (.bool true))), none⟩,
⟨.mv 6 (.c (.d true (.int .i64 0))), none⟩] [])
.ret) (.seq (.seq (.rg 8 false [] [⟨.mv 31 (.t 8), none⟩,
⟨.bin 32 .eql (.t 31) (.c (.d true (.int .i64 1))), none⟩,
⟨.mv 30 (.t 32), none⟩] [])
(.cond (.t 30) .skip (.rg 9 false [] [⟨.mv 33 (.t 8), none⟩,
⟨.mv 34 (.t 9), none⟩,
⟨.bin 35 .eql (.t 33) (.t 34), none⟩,
⟨.mv 30 (.t 35), none⟩] [])))
(.cond (.t 30) (.seq (.rg 10 false [] [⟨.mv 36 (.t 9), none⟩,
⟨.mv 4 (.t 36), none⟩,
⟨.mv 5 (.c (.d true (.bool true))), none⟩,
⟨.mv 6 (.c (.d true (.int .i64 0))), none⟩] [])
.ret) .skip)))))
(.seq (.rg 11 false [] [⟨.mv 4 (.c (.d true (.int .i64 0))), none⟩,
⟨.mv 5 (.c (.d true (.bool false))), none⟩,
⟨.mv 6 (.c (.d true (.int .i64 0))), none⟩] [])
.ret)))))
def n_lits_And : Fn := ⟨c_lits_And, [.s 4, .s 5, .s 6], (some [false, false])⟩

def c_slices_Index_of_api_And_l1 : C :=
(.seq (.rg 2 false [] [⟨.bin 9 .lss (.t 8) (.t 7), none⟩] [])
(.seq (.cond (.t 9) .skip (.exit 0))
(.seq (.block 1 (.seq (.rg 3 false [] [⟨.mv 10 (.t 8), none⟩,
⟨.mv 5 (.t 10), none⟩] [])
(.seq (.rg 4 true [] [⟨.load 11 (.t 3) 3, none⟩,
⟨.mv 12 (.t 0), none⟩,
⟨.mv 13 (.t 5), none⟩,
⟨.ix 14 (.t 12) (.t 13) 2, none⟩,
⟨.load 15 (.t 14) 3, none⟩,
⟨.eqs 16 false [true, true] (.t 11) (.t 15), none⟩] [])
(.cond (.t 16) (.seq (.rg 5 false [] [⟨.mv 17 (.t 5), none⟩,
⟨.mv 4 (.t 17), none⟩] [])
.ret) .skip))))
(.rg 6 false [] [⟨.bin 18 .add (.t 8) (.c (.d true (.int .i64 1))), none⟩,
⟨.mv 8 (.t 18), none⟩] []))))
def c_slices_Index_of_api_And : C :=
(.seq (.rg 0 false [] [⟨.box 3 0 (.t 1) 3, none⟩,
⟨.mv 4 (.c (.d true (.int .i64 0))), none⟩] [])
(.seq (.seq (.rg 1 false [] [⟨.mv 6 (.t 0), none⟩,
⟨.len 7 (.t 6), none⟩,
⟨.mv 8 (.c (.d true (.int .i64 0))), none⟩] [])
(.block 0 (.loop c_slices_Index_of_api_And_l1)))
(.seq (.rg 7 false [] [⟨.mv 4 (.c (.d true (.int .i64 (-1)))), none⟩] [])
.ret)))
def n_slices_Index_of_api_And : Fn := ⟨c_slices_Index_of_api_And, [.s 4], (some [false, false])⟩

def c_unroll_frames_fresh : C :=
(.seq (.rg 0 false [] [⟨.mv 2 (.c (.d true (.int .i64 0))), none⟩] [])
(.seq (.rg 1 false [] [⟨.mv 3 (.t 0), none⟩,
⟨.chk 4 (.t 3), none⟩,
⟨.fad 5 (.t 4) 0 4, none⟩,
⟨.fad 6 (.t 5) 0 0, none⟩,
⟨.load 7 (.t 6) 0, none⟩,
⟨.bin 8 .add (.t 7) (.c (.d true (.int .i64 1))), none⟩,
⟨.chk 9 (.t 3), none⟩,
⟨.fad 10 (.t 9) 0 4, none⟩,
⟨.fad 11 (.t 10) 0 0, none⟩,
⟨.store (.t 11) (.t 8) 0, none⟩] [])
(.seq (.rg 2 false [] [⟨.mv 12 (.t 0), none⟩,
⟨.chk 13 (.t 12), none⟩,
⟨.fad 14 (.t 13) 0 4, none⟩,
⟨.fad 15 (.t 14) 0 0, none⟩,
⟨.load 16 (.t 15) 0, none⟩,
⟨.bin 17 .mul (.c (.d true (.int .i64 2))) (.t 16), none⟩,
⟨.mv 2 (.t 17), none⟩] [])
.ret)))
def n_unroll_frames_fresh : Fn := ⟨c_unroll_frames_fresh, [.s 2], none⟩

def c_unroll_frames_add_l1 : C :=
(.seq (.rg 2 false [] [⟨.bin 13 .lss (.t 12) (.t 11), none⟩] [])
(.seq (.cond (.t 13) .skip (.exit 0))
(.seq (.block 1 (.seq (.rg 3 false [] [⟨.ix 14 (.t 10) (.t 12) 1, none⟩,
⟨.load 15 (.t 14) 0, none⟩,
⟨.mv 6 (.t 15), none⟩] [])
(.seq (.seq (.rg 4 false [] [⟨.mv 16 (.t 6), none⟩,
⟨.bin 17 .eql (.t 16) (.c (.d true (.int .i64 1))), none⟩] [])
(.cond (.t 17) .ret .skip))
(.seq (.rg 5 false [] [⟨.mv 18 (.t 6), none⟩,
⟨.bin 19 .gtr (.t 18) (.c (.d true (.int .i64 1))), none⟩] [])
(.cond (.t 19) (.rg 6 false [.kill 1 2] [⟨.mv 20 (.t 4), none⟩,
⟨.mv 21 (.t 6), none⟩,
⟨.bsl 22 1 1 1 (.k (.int .i64 0)) [(0, (.t 21))], none⟩,
⟨.app 23 2 1 (.t 20) (.t 22), none⟩,
⟨.mv 4 (.t 23), none⟩] []) .skip)))))
(.rg 7 false [] [⟨.bin 24 .add (.t 12) (.c (.d true (.int .i64 1))), none⟩,
⟨.mv 12 (.t 24), none⟩] []))))
def c_unroll_frames_add : C :=
(.seq (.rg 0 false [] [⟨.nilr 4 0 1, none⟩] [])
(.seq (.seq (.rg 1 false [] [⟨.mv 10 (.t 1), none⟩,
⟨.len 11 (.t 10), none⟩,
⟨.mv 12 (.c (.d true (.int .i64 0))), none⟩] [])
(.block 0 (.loop c_unroll_frames_add_l1)))
(.seq (.rg 8 false [] [⟨.mv 26 (.t 0), none⟩,
⟨.chk 27 (.t 26), none⟩,
⟨.fad 28 (.t 27) 0 4, none⟩,
⟨.fad 29 (.t 28) 0 0, none⟩,
⟨.load 30 (.t 29) 0, none⟩,
⟨.mv 31 (.t 4), none⟩,
⟨.call 32 k_clause_Make [(.t 30), (.t 31)] none, none⟩,
⟨.mv 25 (.t 32), none⟩,
⟨.xt 33 (.t 25) 0, none⟩,
⟨.xt 34 (.t 25) 1, none⟩,
⟨.xt 35 (.t 25) 2, none⟩,
⟨.mv 7 (.t 33), none⟩,
⟨.mv 8 (.t 34), none⟩,
⟨.mv 9 (.t 35), none⟩] [])
(.seq (.rg 9 false [] [⟨.mv 36 (.t 9), none⟩,
⟨.bin 37 .eql (.t 36) (.c (.d true (.int .i64 0))), none⟩,
⟨.mv 38 (.t 37), none⟩,
⟨.mv 39 (.t 8), some (38, true)⟩,
⟨.un 40 .not (.t 39), some (38, true)⟩,
⟨.pick 41 (.t 38) (.t 40) (.c (.d true (.bool false))), none⟩] [])
(.cond (.t 41) (.rg 10 false [] [⟨.mv 42 (.t 0), none⟩,
⟨.mv 43 (.t 0), none⟩,
⟨.chk 44 (.t 43), none⟩,
⟨.fad 45 (.t 44) 0 4, none⟩,
⟨.fad 46 (.t 45) 2 0, none⟩,
⟨.load 47 (.t 46) 0, none⟩,
⟨.mv 48 (.t 7), none⟩,
⟨.bsl 49 3 1 1 (.k (.lst 1 [])) [(0, (.t 48))], none⟩,
⟨.app 50 4 1 (.t 47) (.t 49), none⟩,
⟨.chk 51 (.t 42), none⟩,
⟨.fad 52 (.t 51) 0 4, none⟩,
⟨.fad 53 (.t 52) 2 0, none⟩,
⟨.store (.t 53) (.t 50) 0, none⟩] []) .skip)))))
def n_unroll_frames_add : Fn := ⟨c_unroll_frames_add, [], none⟩

def c_slices_insertionSortOrdered_of_int_l1 : C :=
(.seq (.seq (.rg 4 true [] [⟨.mv 16 (.t 7), none⟩,
⟨.mv 17 (.t 1), none⟩,
⟨.bin 18 .gtr (.t 16) (.t 17), none⟩,
⟨.mv 19 (.t 18), none⟩,
⟨.mv 20 (.t 0), some (19, true)⟩,
⟨.mv 21 (.t 7), some (19, true)⟩,
⟨.ix 22 (.t 20) (.t 21) 1, some (19, true)⟩,
⟨.load 23 (.t 22) 0, some (19, true)⟩,
⟨.mv 24 (.t 0), some (19, true)⟩,
⟨.mv 25 (.t 7), some (19, true)⟩,
⟨.bin 26 .sub (.t 25) (.c (.d true (.int .i64 1))), some (19, true)⟩,
⟨.ix 27 (.t 24) (.t 26) 1, some (19, true)⟩,
⟨.load 28 (.t 27) 0, some (19, true)⟩,
⟨.call 29 k_cmp_Less_of_int [(.t 23), (.t 28)] none, some (19, true)⟩,
⟨.pick 30 (.t 19) (.t 29) (.c (.d true (.bool false))), none⟩] [])
(.cond (.t 30) .skip (.exit 2)))
(.seq (.block 3 (.rg 6 true [] [⟨.mv 33 (.t 0), none⟩,
⟨.mv 34 (.t 7), none⟩,
⟨.mv 35 (.t 0), none⟩,
⟨.mv 36 (.t 7), none⟩,
⟨.bin 37 .sub (.t 36) (.c (.d true (.int .i64 1))), none⟩,
⟨.mv 38 (.t 0), none⟩,
⟨.mv 39 (.t 7), none⟩,
⟨.bin 40 .sub (.t 39) (.c (.d true (.int .i64 1))), none⟩,
⟨.ix 41 (.t 38) (.t 40) 1, none⟩,
⟨.load 42 (.t 41) 0, none⟩,
⟨.mv 43 (.t 0), none⟩,
⟨.mv 44 (.t 7), none⟩,
⟨.ix 45 (.t 43) (.t 44) 1, none⟩,
⟨.load 46 (.t 45) 0, none⟩,
⟨.ix 47 (.t 33) (.t 34) 1, none⟩,
⟨.store (.t 47) (.t 42) 0, none⟩,
⟨.ix 48 (.t 35) (.t 37) 1, none⟩,
⟨.store (.t 48) (.t 46) 0, none⟩] []))
(.rg 5 false [] [⟨.mv 31 (.t 7), none⟩,
⟨.bin 32 .sub (.t 31) (.c (.d true (.int .i64 1))), none⟩,
⟨.mv 7 (.t 32), none⟩] [])))
def c_slices_insertionSortOrdered_of_int_l2 : C :=
(.seq (.seq (.rg 1 false [] [⟨.mv 10 (.t 6), none⟩,
⟨.mv 11 (.t 2), none⟩,
⟨.bin 12 .lss (.t 10) (.t 11), none⟩] [])
(.cond (.t 12) .skip (.exit 0)))
(.seq (.block 1 (.seq (.rg 3 false [] [⟨.mv 15 (.t 6), none⟩,
⟨.mv 7 (.t 15), none⟩] [])
(.block 2 (.loop c_slices_insertionSortOrdered_of_int_l1))))
(.rg 2 false [] [⟨.mv 13 (.t 6), none⟩,
⟨.bin 14 .add (.t 13) (.c (.d true (.int .i64 1))), none⟩,
⟨.mv 6 (.t 14), none⟩] [])))
def c_slices_insertionSortOrdered_of_int : C :=
(.seq (.rg 0 false [] [⟨.mv 8 (.t 1), none⟩,
⟨.bin 9 .add (.t 8) (.c (.d true (.int .i64 1))), none⟩,
⟨.mv 6 (.t 9), none⟩] [])
(.block 0 (.loop c_slices_insertionSortOrdered_of_int_l2)))
def n_slices_insertionSortOrdered_of_int : Fn := ⟨c_slices_insertionSortOrdered_of_int, [], none⟩

def c_slices_heapSortOrdered_of_int_l1 : C :=
(.seq (.seq (.rg 4 false [] [⟨.mv 18 (.t 9), none⟩,
⟨.bin 19 .geq (.t 18) (.c (.d true (.int .i64 0))), none⟩] [])
(.cond (.t 19) .skip (.exit 0)))
(.seq (.block 1 (.rg 6 false [] [⟨.mv 22 (.t 0), none⟩,
⟨.mv 23 (.t 9), none⟩,
⟨.mv 24 (.t 8), none⟩,
⟨.mv 25 (.t 6), none⟩,
⟨.call 26 k_slices_siftDownOrdered_of_int [(.t 22), (.t 23), (.t 24), (.t 25)] none, none⟩] []))
(.rg 5 false [] [⟨.mv 20 (.t 9), none⟩,
⟨.bin 21 .sub (.t 20) (.c (.d true (.int .i64 1))), none⟩,
⟨.mv 9 (.t 21), none⟩] [])))
def c_slices_heapSortOrdered_of_int_l2 : C :=
(.seq (.seq (.rg 8 false [] [⟨.mv 29 (.t 10), none⟩,
⟨.bin 30 .geq (.t 29) (.c (.d true (.int .i64 0))), none⟩] [])
(.cond (.t 30) .skip (.exit 2)))
(.seq (.block 3 (.seq (.rg 10 true [] [⟨.mv 33 (.t 0), none⟩,
⟨.mv 34 (.t 6), none⟩,
⟨.mv 35 (.t 0), none⟩,
⟨.mv 36 (.t 6), none⟩,
⟨.mv 37 (.t 10), none⟩,
⟨.bin 38 .add (.t 36) (.t 37), none⟩,
⟨.mv 39 (.t 0), none⟩,
⟨.mv 40 (.t 6), none⟩,
⟨.mv 41 (.t 10), none⟩,
⟨.bin 42 .add (.t 40) (.t 41), none⟩,
⟨.ix 43 (.t 39) (.t 42) 1, none⟩,
⟨.load 44 (.t 43) 0, none⟩,
⟨.mv 45 (.t 0), none⟩,
⟨.mv 46 (.t 6), none⟩,
⟨.ix 47 (.t 45) (.t 46) 1, none⟩,
⟨.load 48 (.t 47) 0, none⟩,
⟨.ix 49 (.t 33) (.t 34) 1, none⟩,
⟨.store (.t 49) (.t 44) 0, none⟩,
⟨.ix 50 (.t 35) (.t 38) 1, none⟩,
⟨.store (.t 50) (.t 48) 0, none⟩] [])
(.rg 11 false [] [⟨.mv 51 (.t 0), none⟩,
⟨.mv 52 (.t 7), none⟩,
⟨.mv 53 (.t 10), none⟩,
⟨.mv 54 (.t 6), none⟩,
⟨.call 55 k_slices_siftDownOrdered_of_int [(.t 51), (.t 52), (.t 53), (.t 54)] none, none⟩] [])))
(.rg 9 false [] [⟨.mv 31 (.t 10), none⟩,
⟨.bin 32 .sub (.t 31) (.c (.d true (.int .i64 1))), none⟩,
⟨.mv 10 (.t 32), none⟩] [])))
def c_slices_heapSortOrdered_of_int : C :=
(.seq (.rg 0 false [] [⟨.mv 11 (.t 1), none⟩,
⟨.mv 6 (.t 11), none⟩] [])
(.seq (.rg 1 false [] [⟨.mv 7 (.c (.d true (.int .i64 0))), none⟩] [])
(.seq (.rg 2 false [] [⟨.mv 12 (.t 2), none⟩,
⟨.mv 13 (.t 1), none⟩,
⟨.bin 14 .sub (.t 12) (.t 13), none⟩,
⟨.mv 8 (.t 14), none⟩] [])
(.seq (.seq (.rg 3 false [] [⟨.mv 15 (.t 8), none⟩,
⟨.bin 16 .sub (.t 15) (.c (.d true (.int .i64 1))), none⟩,
⟨.bin 17 .quo (.t 16) (.c (.d true (.int .i64 2))), none⟩,
⟨.mv 9 (.t 17), none⟩] [])
(.block 0 (.loop c_slices_heapSortOrdered_of_int_l1)))
(.seq (.rg 7 false [] [⟨.mv 27 (.t 8), none⟩,
⟨.bin 28 .sub (.t 27) (.c (.d true (.int .i64 1))), none⟩,
⟨.mv 10 (.t 28), none⟩] [])
(.block 2 (.loop c_slices_heapSortOrdered_of_int_l2)))))))
def n_slices_heapSortOrdered_of_int : Fn := ⟨c_slices_heapSortOrdered_of_int, [], none⟩

def c_slices_breakPatternsOrdered_of_int_l1 : C :=
(.seq (.seq (.rg 5 false [] [⟨.mv 26 (.t 9), none⟩,
⟨.mv 27 (.t 1), none⟩,
⟨.mv 28 (.t 6), none⟩,
⟨.bin 29 .quo (.t 28) (.c (.d true (.int .i64 4))), none⟩,
⟨.bin 30 .mul (.t 29) (.c (.d true (.int .i64 2))), none⟩,
⟨.bin 31 .add (.t 27) (.t 30), none⟩,
⟨.bin 32 .add (.t 31) (.c (.d true (.int .i64 1))), none⟩,
⟨.bin 33 .leq (.t 26) (.t 32), none⟩] [])
(.cond (.t 33) .skip (.exit 0)))
(.seq (.block 1 (.seq (.rg 7 false [] [⟨.call 36 k_slices_xorshift_Next [(.t 7)] none, none⟩,
⟨.mv 37 (.t 8), none⟩,
⟨.bin 38 .sub (.t 37) (.c (.d true (.int .u64 1))), none⟩,
⟨.bin 39 .and (.t 36) (.t 38), none⟩,
⟨.cvt 40 .i64 (.t 39), none⟩,
⟨.mv 10 (.t 40), none⟩] [])
(.seq (.seq (.rg 8 false [] [⟨.mv 41 (.t 10), none⟩,
⟨.mv 42 (.t 6), none⟩,
⟨.bin 43 .geq (.t 41) (.t 42), none⟩] [])
(.cond (.t 43) (.rg 9 false [] [⟨.mv 44 (.t 10), none⟩,
⟨.mv 45 (.t 6), none⟩,
⟨.bin 46 .sub (.t 44) (.t 45), none⟩,
⟨.mv 10 (.t 46), none⟩] []) .skip))
(.rg 10 true [] [⟨.mv 47 (.t 0), none⟩,
⟨.mv 48 (.t 9), none⟩,
⟨.mv 49 (.t 0), none⟩,
⟨.mv 50 (.t 1), none⟩,
⟨.mv 51 (.t 10), none⟩,
⟨.bin 52 .add (.t 50) (.t 51), none⟩,
⟨.mv 53 (.t 0), none⟩,
⟨.mv 54 (.t 1), none⟩,
⟨.mv 55 (.t 10), none⟩,
⟨.bin 56 .add (.t 54) (.t 55), none⟩,
⟨.ix 57 (.t 53) (.t 56) 1, none⟩,
⟨.load 58 (.t 57) 0, none⟩,
⟨.mv 59 (.t 0), none⟩,
⟨.mv 60 (.t 9), none⟩,
⟨.ix 61 (.t 59) (.t 60) 1, none⟩,
⟨.load 62 (.t 61) 0, none⟩,
⟨.ix 63 (.t 47) (.t 48) 1, none⟩,
⟨.store (.t 63) (.t 58) 0, none⟩,
⟨.ix 64 (.t 49) (.t 52) 1, none⟩,
⟨.store (.t 64) (.t 62) 0, none⟩] []))))
(.rg 6 false [] [⟨.mv 34 (.t 9), none⟩,
⟨.bin 35 .add (.t 34) (.c (.d true (.int .i64 1))), none⟩,
⟨.mv 9 (.t 35), none⟩] [])))
def c_slices_breakPatternsOrdered_of_int : C :=
(.seq (.rg 0 false [] [⟨.mv 11 (.t 2), none⟩,
⟨.mv 12 (.t 1), none⟩,
⟨.bin 13 .sub (.t 11) (.t 12), none⟩,
⟨.mv 6 (.t 13), none⟩] [])
(.seq (.rg 1 false [] [⟨.mv 14 (.t 6), none⟩,
⟨.bin 15 .geq (.t 14) (.c (.d true (.int .i64 8))), none⟩] [])
(.cond (.t 15) (.seq (.rg 2 false [] [⟨.mv 16 (.t 6), none⟩,
⟨.cvt 17 .u64 (.t 16), none⟩,
⟨.alloc 7 0 [.k (.int .u64 0)], none⟩,
⟨.store (.t 7) (.t 17) 0, none⟩] [])
(.seq (.rg 3 false [] [⟨.mv 18 (.t 6), none⟩,
⟨.call 19 k_slices_nextPowerOfTwo [(.t 18)] none, none⟩,
⟨.mv 8 (.t 19), none⟩] [])
(.seq (.rg 4 false [] [⟨.mv 20 (.t 1), none⟩,
⟨.mv 21 (.t 6), none⟩,
⟨.bin 22 .quo (.t 21) (.c (.d true (.int .i64 4))), none⟩,
⟨.bin 23 .mul (.t 22) (.c (.d true (.int .i64 2))), none⟩,
⟨.bin 24 .add (.t 20) (.t 23), none⟩,
⟨.bin 25 .sub (.t 24) (.c (.d true (.int .i64 1))), none⟩,
⟨.mv 9 (.t 25), none⟩] [])
(.block 0 (.loop c_slices_breakPatternsOrdered_of_int_l1))))) .skip)))
def n_slices_breakPatternsOrdered_of_int : Fn := ⟨c_slices_breakPatternsOrdered_of_int, [], none⟩

def c_slices_choosePivotOrdered_of_int : C :=
(.seq (.rg 0 false [] [⟨.mv 6 (.c (.d true (.int .i64 0))), none⟩,
⟨.mv 7 (.c (.d true (.int .i64 0))), none⟩] [])
(.seq (.rg 1 false [] [⟨.mv 13 (.t 2), none⟩,
⟨.mv 14 (.t 1), none⟩,
⟨.bin 15 .sub (.t 13) (.t 14), none⟩,
⟨.mv 8 (.t 15), none⟩] [])
(.seq (.rg 2 false [] [⟨.alloc 9 0 [.k (.int .i64 0)], none⟩] [])
(.seq (.rg 3 false [] [⟨.mv 16 (.t 1), none⟩,
⟨.mv 17 (.t 8), none⟩,
⟨.bin 18 .quo (.t 17) (.c (.d true (.int .i64 4))), none⟩,
⟨.bin 19 .mul (.t 18) (.c (.d true (.int .i64 1))), none⟩,
⟨.bin 20 .add (.t 16) (.t 19), none⟩,
⟨.mv 10 (.t 20), none⟩] [])
(.seq (.rg 4 false [] [⟨.mv 21 (.t 1), none⟩,
⟨.mv 22 (.t 8), none⟩,
⟨.bin 23 .quo (.t 22) (.c (.d true (.int .i64 4))), none⟩,
⟨.bin 24 .mul (.t 23) (.c (.d true (.int .i64 2))), none⟩,
⟨.bin 25 .add (.t 21) (.t 24), none⟩,
⟨.mv 11 (.t 25), none⟩] [])
(.seq (.rg 5 false [] [⟨.mv 26 (.t 1), none⟩,
⟨.mv 27 (.t 8), none⟩,
⟨.bin 28 .quo (.t 27) (.c (.d true (.int .i64 4))), none⟩,
⟨.bin 29 .mul (.t 28) (.c (.d true (.int .i64 3))), none⟩,
⟨.bin 30 .add (.t 26) (.t 29), none⟩,
⟨.mv 12 (.t 30), none⟩] [])
(.seq (.seq (.rg 6 false [] [⟨.mv 31 (.t 8), none⟩,
⟨.bin 32 .geq (.t 31) (.c (.d true (.int .i64 8))), none⟩] [])
(.cond (.t 32) (.seq (.seq (.rg 7 false [] [⟨.mv 33 (.t 8), none⟩,
⟨.bin 34 .geq (.t 33) (.c (.d true (.int .i64 50))), none⟩] [])
(.cond (.t 34) (.seq (.rg 8 false [] [⟨.mv 35 (.t 0), none⟩,
⟨.mv 36 (.t 10), none⟩,
⟨.call 37 k_slices_medianAdjacentOrdered_of_int [(.t 35), (.t 36), (.t 9)] none, none⟩,
⟨.mv 10 (.t 37), none⟩] [])
(.seq (.rg 9 false [] [⟨.mv 38 (.t 0), none⟩,
⟨.mv 39 (.t 11), none⟩,
⟨.call 40 k_slices_medianAdjacentOrdered_of_int [(.t 38), (.t 39), (.t 9)] none, none⟩,
⟨.mv 11 (.t 40), none⟩] [])
(.rg 10 false [] [⟨.mv 41 (.t 0), none⟩,
⟨.mv 42 (.t 12), none⟩,
⟨.call 43 k_slices_medianAdjacentOrdered_of_int [(.t 41), (.t 42), (.t 9)] none, none⟩,
⟨.mv 12 (.t 43), none⟩] []))) .skip))
(.rg 11 false [] [⟨.mv 44 (.t 0), none⟩,
⟨.mv 45 (.t 10), none⟩,
⟨.mv 46 (.t 11), none⟩,
⟨.mv 47 (.t 12), none⟩,
⟨.call 48 k_slices_medianOrdered_of_int [(.t 44), (.t 45), (.t 46), (.t 47), (.t 9)] none, none⟩,
⟨.mv 11 (.t 48), none⟩] [])) .skip))
(.seq (.rg 12 false [] [⟨.load 49 (.t 9) 0, none⟩] [])
(.block 0 (.seq (.rg 14 false [] [⟨.bin 52 .eql (.t 49) (.c (.d true (.int .i64 0))), none⟩,
⟨.mv 51 (.t 52), none⟩] [])
(.cond (.t 51) (.seq (.rg 15 false [] [⟨.mv 53 (.t 11), none⟩,
⟨.mv 6 (.t 53), none⟩,
⟨.mv 7 (.c (.d true (.int .i64 1))), none⟩] [])
.ret) (.seq (.rg 16 false [] [⟨.bin 55 .eql (.t 49) (.c (.d true (.int .i64 12))), none⟩,
⟨.mv 54 (.t 55), none⟩] [])
(.cond (.t 54) (.seq (.rg 17 false [] [⟨.mv 56 (.t 11), none⟩,
⟨.mv 6 (.t 56), none⟩,
⟨.mv 7 (.c (.d true (.int .i64 2))), none⟩] [])
.ret) (.seq (.rg 13 false [] [⟨.mv 50 (.t 11), none⟩,
⟨.mv 6 (.t 50), none⟩,
⟨.mv 7 (.c (.d true (.int .i64 0))), none⟩] [])
.ret))))))))))))))
def n_slices_choosePivotOrdered_of_int : Fn := ⟨c_slices_choosePivotOrdered_of_int, [.s 6, .s 7], none⟩

def c_slices_reverseRangeOrdered_of_int_l1 : C :=
(.seq (.seq (.rg 2 false [] [⟨.mv 11 (.t 6), none⟩,
⟨.mv 12 (.t 7), none⟩,
⟨.bin 13 .lss (.t 11) (.t 12), none⟩] [])
(.cond (.t 13) .skip (.exit 0)))
(.block 1 (.seq (.rg 3 true [] [⟨.mv 14 (.t 0), none⟩,
⟨.mv 15 (.t 6), none⟩,
⟨.mv 16 (.t 0), none⟩,
⟨.mv 17 (.t 7), none⟩,
⟨.mv 18 (.t 0), none⟩,
⟨.mv 19 (.t 7), none⟩,
⟨.ix 20 (.t 18) (.t 19) 1, none⟩,
⟨.load 21 (.t 20) 0, none⟩,
⟨.mv 22 (.t 0), none⟩,
⟨.mv 23 (.t 6), none⟩,
⟨.ix 24 (.t 22) (.t 23) 1, none⟩,
⟨.load 25 (.t 24) 0, none⟩,
⟨.ix 26 (.t 14) (.t 15) 1, none⟩,
⟨.store (.t 26) (.t 21) 0, none⟩,
⟨.ix 27 (.t 16) (.t 17) 1, none⟩,
⟨.store (.t 27) (.t 25) 0, none⟩] [])
(.seq (.rg 4 false [] [⟨.mv 28 (.t 6), none⟩,
⟨.bin 29 .add (.t 28) (.c (.d true (.int .i64 1))), none⟩,
⟨.mv 6 (.t 29), none⟩] [])
(.rg 5 false [] [⟨.mv 30 (.t 7), none⟩,
⟨.bin 31 .sub (.t 30) (.c (.d true (.int .i64 1))), none⟩,
⟨.mv 7 (.t 31), none⟩] [])))))
def c_slices_reverseRangeOrdered_of_int : C :=
(.seq (.rg 0 false [] [⟨.mv 8 (.t 1), none⟩,
⟨.mv 6 (.t 8), none⟩] [])
(.seq (.rg 1 false [] [⟨.mv 9 (.t 2), none⟩,
⟨.bin 10 .sub (.t 9) (.c (.d true (.int .i64 1))), none⟩,
⟨.mv 7 (.t 10), none⟩] [])
(.block 0 (.loop c_slices_reverseRangeOrdered_of_int_l1))))
def n_slices_reverseRangeOrdered_of_int : Fn := ⟨c_slices_reverseRangeOrdered_of_int, [], none⟩

def c_slices_partialInsertionSortOrdered_of_int_l1 : C :=
(.seq (.seq (.rg 5 true [] [⟨.mv 17 (.t 7), none⟩,
⟨.mv 18 (.t 2), none⟩,
⟨.bin 19 .lss (.t 17) (.t 18), none⟩,
⟨.mv 20 (.t 19), none⟩,
⟨.mv 21 (.t 0), some (20, true)⟩,
⟨.mv 22 (.t 7), some (20, true)⟩,
⟨.ix 23 (.t 21) (.t 22) 1, some (20, true)⟩,
⟨.load 24 (.t 23) 0, some (20, true)⟩,
⟨.mv 25 (.t 0), some (20, true)⟩,
⟨.mv 26 (.t 7), some (20, true)⟩,
⟨.bin 27 .sub (.t 26) (.c (.d true (.int .i64 1))), some (20, true)⟩,
⟨.ix 28 (.t 25) (.t 27) 1, some (20, true)⟩,
⟨.load 29 (.t 28) 0, some (20, true)⟩,
⟨.call 30 k_cmp_Less_of_int [(.t 24), (.t 29)] none, some (20, true)⟩,
⟨.un 31 .not (.t 30), some (20, true)⟩,
⟨.pick 32 (.t 20) (.t 31) (.c (.d true (.bool false))), none⟩] [])
(.cond (.t 32) .skip (.exit 2)))
(.block 3 (.rg 6 false [] [⟨.mv 33 (.t 7), none⟩,
⟨.bin 34 .add (.t 33) (.c (.d true (.int .i64 1))), none⟩,
⟨.mv 7 (.t 34), none⟩] [])))
def c_slices_partialInsertionSortOrdered_of_int_l2 : C :=
(.seq (.seq (.rg 14 false [] [⟨.mv 64 (.t 9), none⟩,
⟨.bin 65 .geq (.t 64) (.c (.d true (.int .i64 1))), none⟩] [])
(.cond (.t 65) .skip (.exit 4)))
(.seq (.block 5 (.seq (.seq (.rg 16 true [] [⟨.mv 68 (.t 0), none⟩,
⟨.mv 69 (.t 9), none⟩,
⟨.ix 70 (.t 68) (.t 69) 1, none⟩,
⟨.load 71 (.t 70) 0, none⟩,
⟨.mv 72 (.t 0), none⟩,
⟨.mv 73 (.t 9), none⟩,
⟨.bin 74 .sub (.t 73) (.c (.d true (.int .i64 1))), none⟩,
⟨.ix 75 (.t 72) (.t 74) 1, none⟩,
⟨.load 76 (.t 75) 0, none⟩,
⟨.call 77 k_cmp_Less_of_int [(.t 71), (.t 76)] none, none⟩,
⟨.un 78 .not (.t 77), none⟩] [])
(.cond (.t 78) (.exit 4) .skip))
(.rg 17 true [] [⟨.mv 79 (.t 0), none⟩,
⟨.mv 80 (.t 9), none⟩,
⟨.mv 81 (.t 0), none⟩,
⟨.mv 82 (.t 9), none⟩,
⟨.bin 83 .sub (.t 82) (.c (.d true (.int .i64 1))), none⟩,
⟨.mv 84 (.t 0), none⟩,
⟨.mv 85 (.t 9), none⟩,
⟨.bin 86 .sub (.t 85) (.c (.d true (.int .i64 1))), none⟩,
⟨.ix 87 (.t 84) (.t 86) 1, none⟩,
⟨.load 88 (.t 87) 0, none⟩,
⟨.mv 89 (.t 0), none⟩,
⟨.mv 90 (.t 9), none⟩,
⟨.ix 91 (.t 89) (.t 90) 1, none⟩,
⟨.load 92 (.t 91) 0, none⟩,
⟨.ix 93 (.t 79) (.t 80) 1, none⟩,
⟨.store (.t 93) (.t 88) 0, none⟩,
⟨.ix 94 (.t 81) (.t 83) 1, none⟩,
⟨.store (.t 94) (.t 92) 0, none⟩] [])))
(.rg 15 false [] [⟨.mv 66 (.t 9), none⟩,
⟨.bin 67 .sub (.t 66) (.c (.d true (.int .i64 1))), none⟩,
⟨.mv 9 (.t 67), none⟩] [])))
def c_slices_partialInsertionSortOrdered_of_int_l3 : C :=
(.seq (.seq (.rg 20 false [] [⟨.mv 101 (.t 10), none⟩,
⟨.mv 102 (.t 2), none⟩,
⟨.bin 103 .lss (.t 101) (.t 102), none⟩] [])
(.cond (.t 103) .skip (.exit 6)))
(.seq (.block 7 (.seq (.seq (.rg 22 true [] [⟨.mv 106 (.t 0), none⟩,
⟨.mv 107 (.t 10), none⟩,
⟨.ix 108 (.t 106) (.t 107) 1, none⟩,
⟨.load 109 (.t 108) 0, none⟩,
⟨.mv 110 (.t 0), none⟩,
⟨.mv 111 (.t 10), none⟩,
⟨.bin 112 .sub (.t 111) (.c (.d true (.int .i64 1))), none⟩,
⟨.ix 113 (.t 110) (.t 112) 1, none⟩,
⟨.load 114 (.t 113) 0, none⟩,
⟨.call 115 k_cmp_Less_of_int [(.t 109), (.t 114)] none, none⟩,
⟨.un 116 .not (.t 115), none⟩] [])
(.cond (.t 116) (.exit 6) .skip))
(.rg 23 true [] [⟨.mv 117 (.t 0), none⟩,
⟨.mv 118 (.t 10), none⟩,
⟨.mv 119 (.t 0), none⟩,
⟨.mv 120 (.t 10), none⟩,
⟨.bin 121 .sub (.t 120) (.c (.d true (.int .i64 1))), none⟩,
⟨.mv 122 (.t 0), none⟩,
⟨.mv 123 (.t 10), none⟩,
⟨.bin 124 .sub (.t 123) (.c (.d true (.int .i64 1))), none⟩,
⟨.ix 125 (.t 122) (.t 124) 1, none⟩,
⟨.load 126 (.t 125) 0, none⟩,
⟨.mv 127 (.t 0), none⟩,
⟨.mv 128 (.t 10), none⟩,
⟨.ix 129 (.t 127) (.t 128) 1, none⟩,
⟨.load 130 (.t 129) 0, none⟩,
⟨.ix 131 (.t 117) (.t 118) 1, none⟩,
⟨.store (.t 131) (.t 126) 0, none⟩,
⟨.ix 132 (.t 119) (.t 121) 1, none⟩,
⟨.store (.t 132) (.t 130) 0, none⟩] [])))
(.rg 21 false [] [⟨.mv 104 (.t 10), none⟩,
⟨.bin 105 .add (.t 104) (.c (.d true (.int .i64 1))), none⟩,
⟨.mv 10 (.t 105), none⟩] [])))
def c_slices_partialInsertionSortOrdered_of_int_l4 : C :=
(.seq (.seq (.rg 3 false [] [⟨.mv 13 (.t 8), none⟩,
⟨.bin 14 .lss (.t 13) (.c (.d true (.int .i64 5))), none⟩] [])
(.cond (.t 14) .skip (.exit 0)))
(.seq (.block 1 (.seq (.block 2 (.loop c_slices_partialInsertionSortOrdered_of_int_l1))
(.seq (.seq (.rg 7 false [] [⟨.mv 35 (.t 7), none⟩,
⟨.mv 36 (.t 2), none⟩,
⟨.bin 37 .eql (.t 35) (.t 36), none⟩] [])
(.cond (.t 37) (.seq (.rg 8 false [] [⟨.mv 6 (.c (.d true (.bool true))), none⟩] [])
.ret) .skip))
(.seq (.seq (.rg 9 false [] [⟨.mv 38 (.t 2), none⟩,
⟨.mv 39 (.t 1), none⟩,
⟨.bin 40 .sub (.t 38) (.t 39), none⟩,
⟨.bin 41 .lss (.t 40) (.c (.d true (.int .i64 50))), none⟩] [])
(.cond (.t 41) (.seq (.rg 10 false [] [⟨.mv 6 (.c (.d true (.bool false))), none⟩] [])
.ret) .skip))
(.seq (.rg 11 true [] [⟨.mv 42 (.t 0), none⟩,
⟨.mv 43 (.t 7), none⟩,
⟨.mv 44 (.t 0), none⟩,
⟨.mv 45 (.t 7), none⟩,
⟨.bin 46 .sub (.t 45) (.c (.d true (.int .i64 1))), none⟩,
⟨.mv 47 (.t 0), none⟩,
⟨.mv 48 (.t 7), none⟩,
⟨.bin 49 .sub (.t 48) (.c (.d true (.int .i64 1))), none⟩,
⟨.ix 50 (.t 47) (.t 49) 1, none⟩,
⟨.load 51 (.t 50) 0, none⟩,
⟨.mv 52 (.t 0), none⟩,
⟨.mv 53 (.t 7), none⟩,
⟨.ix 54 (.t 52) (.t 53) 1, none⟩,
⟨.load 55 (.t 54) 0, none⟩,
⟨.ix 56 (.t 42) (.t 43) 1, none⟩,
⟨.store (.t 56) (.t 51) 0, none⟩,
⟨.ix 57 (.t 44) (.t 46) 1, none⟩,
⟨.store (.t 57) (.t 55) 0, none⟩] [])
(.seq (.seq (.rg 12 false [] [⟨.mv 58 (.t 7), none⟩,
⟨.mv 59 (.t 1), none⟩,
⟨.bin 60 .sub (.t 58) (.t 59), none⟩,
⟨.bin 61 .geq (.t 60) (.c (.d true (.int .i64 2))), none⟩] [])
(.cond (.t 61) (.seq (.rg 13 false [] [⟨.mv 62 (.t 7), none⟩,
⟨.bin 63 .sub (.t 62) (.c (.d true (.int .i64 1))), none⟩,
⟨.mv 9 (.t 63), none⟩] [])
(.block 4 (.loop c_slices_partialInsertionSortOrdered_of_int_l2))) .skip))
(.seq (.rg 18 false [] [⟨.mv 95 (.t 2), none⟩,
⟨.mv 96 (.t 7), none⟩,
⟨.bin 97 .sub (.t 95) (.t 96), none⟩,
⟨.bin 98 .geq (.t 97) (.c (.d true (.int .i64 2))), none⟩] [])
(.cond (.t 98) (.seq (.rg 19 false [] [⟨.mv 99 (.t 7), none⟩,
⟨.bin 100 .add (.t 99) (.c (.d true (.int .i64 1))), none⟩,
⟨.mv 10 (.t 100), none⟩] [])
(.block 6 (.loop c_slices_partialInsertionSortOrdered_of_int_l3))) .skip))))))))
(.rg 4 false [] [⟨.mv 15 (.t 8), none⟩,
⟨.bin 16 .add (.t 15) (.c (.d true (.int .i64 1))), none⟩,
⟨.mv 8 (.t 16), none⟩] [])))
def c_slices_partialInsertionSortOrdered_of_int : C :=
(.seq (.rg 0 false [] [⟨.mv 6 (.c (.d true (.bool false))), none⟩] [])
(.seq (.rg 1 false [] [⟨.mv 11 (.t 1), none⟩,
⟨.bin 12 .add (.t 11) (.c (.d true (.int .i64 1))), none⟩,
⟨.mv 7 (.t 12), none⟩] [])
(.seq (.seq (.rg 2 false [] [⟨.mv 8 (.c (.d true (.int .i64 0))), none⟩] [])
(.block 0 (.loop c_slices_partialInsertionSortOrdered_of_int_l4)))
(.seq (.rg 24 false [] [⟨.mv 6 (.c (.d true (.bool false))), none⟩] [])
.ret))))
def n_slices_partialInsertionSortOrdered_of_int : Fn := ⟨c_slices_partialInsertionSortOrdered_of_int, [.s 6], none⟩

def c_slices_partitionEqualOrdered_of_int_l1 : C :=
(.seq (.seq (.rg 3 true [] [⟨.mv 29 (.t 9), none⟩,
⟨.mv 30 (.t 10), none⟩,
⟨.bin 31 .leq (.t 29) (.t 30), none⟩,
⟨.mv 32 (.t 31), none⟩,
⟨.mv 33 (.t 0), some (32, true)⟩,
⟨.mv 34 (.t 1), some (32, true)⟩,
⟨.ix 35 (.t 33) (.t 34) 1, some (32, true)⟩,
⟨.load 36 (.t 35) 0, some (32, true)⟩,
⟨.mv 37 (.t 0), some (32, true)⟩,
⟨.mv 38 (.t 9), some (32, true)⟩,
⟨.ix 39 (.t 37) (.t 38) 1, some (32, true)⟩,
⟨.load 40 (.t 39) 0, some (32, true)⟩,
⟨.call 41 k_cmp_Less_of_int [(.t 36), (.t 40)] none, some (32, true)⟩,
⟨.un 42 .not (.t 41), some (32, true)⟩,
⟨.pick 43 (.t 32) (.t 42) (.c (.d true (.bool false))), none⟩] [])
(.cond (.t 43) .skip (.exit 2)))
(.block 3 (.rg 4 false [] [⟨.mv 44 (.t 9), none⟩,
⟨.bin 45 .add (.t 44) (.c (.d true (.int .i64 1))), none⟩,
⟨.mv 9 (.t 45), none⟩] [])))
def c_slices_partitionEqualOrdered_of_int_l2 : C :=
(.seq (.seq (.rg 5 true [] [⟨.mv 46 (.t 9), none⟩,
⟨.mv 47 (.t 10), none⟩,
⟨.bin 48 .leq (.t 46) (.t 47), none⟩,
⟨.mv 49 (.t 48), none⟩,
⟨.mv 50 (.t 0), some (49, true)⟩,
⟨.mv 51 (.t 1), some (49, true)⟩,
⟨.ix 52 (.t 50) (.t 51) 1, some (49, true)⟩,
⟨.load 53 (.t 52) 0, some (49, true)⟩,
⟨.mv 54 (.t 0), some (49, true)⟩,
⟨.mv 55 (.t 10), some (49, true)⟩,
⟨.ix 56 (.t 54) (.t 55) 1, some (49, true)⟩,
⟨.load 57 (.t 56) 0, some (49, true)⟩,
⟨.call 58 k_cmp_Less_of_int [(.t 53), (.t 57)] none, some (49, true)⟩,
⟨.pick 59 (.t 49) (.t 58) (.c (.d true (.bool false))), none⟩] [])
(.cond (.t 59) .skip (.exit 4)))
(.block 5 (.rg 6 false [] [⟨.mv 60 (.t 10), none⟩,
⟨.bin 61 .sub (.t 60) (.c (.d true (.int .i64 1))), none⟩,
⟨.mv 10 (.t 61), none⟩] [])))
def c_slices_partitionEqualOrdered_of_int_l3 : C :=
(.block 1 (.seq (.block 2 (.loop c_slices_partitionEqualOrdered_of_int_l1))
(.seq (.block 4 (.loop c_slices_partitionEqualOrdered_of_int_l2))
(.seq (.seq (.rg 7 false [] [⟨.mv 62 (.t 9), none⟩,
⟨.mv 63 (.t 10), none⟩,
⟨.bin 64 .gtr (.t 62) (.t 63), none⟩] [])
(.cond (.t 64) (.exit 0) .skip))
(.seq (.rg 8 true [] [⟨.mv 65 (.t 0), none⟩,
⟨.mv 66 (.t 9), none⟩,
⟨.mv 67 (.t 0), none⟩,
⟨.mv 68 (.t 10), none⟩,
⟨.mv 69 (.t 0), none⟩,
⟨.mv 70 (.t 10), none⟩,
⟨.ix 71 (.t 69) (.t 70) 1, none⟩,
⟨.load 72 (.t 71) 0, none⟩,
⟨.mv 73 (.t 0), none⟩,
⟨.mv 74 (.t 9), none⟩,
⟨.ix 75 (.t 73) (.t 74) 1, none⟩,
⟨.load 76 (.t 75) 0, none⟩,
⟨.ix 77 (.t 65) (.t 66) 1, none⟩,
⟨.store (.t 77) (.t 72) 0, none⟩,
⟨.ix 78 (.t 67) (.t 68) 1, none⟩,
⟨.store (.t 78) (.t 76) 0, none⟩] [])
(.seq (.rg 9 false [] [⟨.mv 79 (.t 9), none⟩,
⟨.bin 80 .add (.t 79) (.c (.d true (.int .i64 1))), none⟩,
⟨.mv 9 (.t 80), none⟩] [])
(.rg 10 false [] [⟨.mv 81 (.t 10), none⟩,
⟨.bin 82 .sub (.t 81) (.c (.d true (.int .i64 1))), none⟩,
⟨.mv 10 (.t 82), none⟩] [])))))))
def c_slices_partitionEqualOrdered_of_int : C :=
(.seq (.rg 0 false [] [⟨.mv 8 (.c (.d true (.int .i64 0))), none⟩] [])
(.seq (.rg 1 true [] [⟨.mv 11 (.t 0), none⟩,
⟨.mv 12 (.t 1), none⟩,
⟨.mv 13 (.t 0), none⟩,
⟨.mv 14 (.t 3), none⟩,
⟨.mv 15 (.t 0), none⟩,
⟨.mv 16 (.t 3), none⟩,
⟨.ix 17 (.t 15) (.t 16) 1, none⟩,
⟨.load 18 (.t 17) 0, none⟩,
⟨.mv 19 (.t 0), none⟩,
⟨.mv 20 (.t 1), none⟩,
⟨.ix 21 (.t 19) (.t 20) 1, none⟩,
⟨.load 22 (.t 21) 0, none⟩,
⟨.ix 23 (.t 11) (.t 12) 1, none⟩,
⟨.store (.t 23) (.t 18) 0, none⟩,
⟨.ix 24 (.t 13) (.t 14) 1, none⟩,
⟨.store (.t 24) (.t 22) 0, none⟩] [])
(.seq (.rg 2 false [] [⟨.mv 25 (.t 1), none⟩,
⟨.bin 26 .add (.t 25) (.c (.d true (.int .i64 1))), none⟩,
⟨.mv 27 (.t 2), none⟩,
⟨.bin 28 .sub (.t 27) (.c (.d true (.int .i64 1))), none⟩,
⟨.mv 9 (.t 26), none⟩,
⟨.mv 10 (.t 28), none⟩] [])
(.seq (.block 0 (.loop c_slices_partitionEqualOrdered_of_int_l3))
(.seq (.rg 11 false [] [⟨.mv 83 (.t 9), none⟩,
⟨.mv 8 (.t 83), none⟩] [])
.ret)))))
def n_slices_partitionEqualOrdered_of_int : Fn := ⟨c_slices_partitionEqualOrdered_of_int, [.s 8], none⟩

def c_slices_partitionOrdered_of_int_l1 : C :=
(.seq (.seq (.rg 3 true [] [⟨.mv 30 (.t 10), none⟩,
⟨.mv 31 (.t 11), none⟩,
⟨.bin 32 .leq (.t 30) (.t 31), none⟩,
⟨.mv 33 (.t 32), none⟩,
⟨.mv 34 (.t 0), some (33, true)⟩,
⟨.mv 35 (.t 10), some (33, true)⟩,
⟨.ix 36 (.t 34) (.t 35) 1, some (33, true)⟩,
⟨.load 37 (.t 36) 0, some (33, true)⟩,
⟨.mv 38 (.t 0), some (33, true)⟩,
⟨.mv 39 (.t 1), some (33, true)⟩,
⟨.ix 40 (.t 38) (.t 39) 1, some (33, true)⟩,
⟨.load 41 (.t 40) 0, some (33, true)⟩,
⟨.call 42 k_cmp_Less_of_int [(.t 37), (.t 41)] none, some (33, true)⟩,
⟨.pick 43 (.t 33) (.t 42) (.c (.d true (.bool false))), none⟩] [])
(.cond (.t 43) .skip (.exit 0)))
(.block 1 (.rg 4 false [] [⟨.mv 44 (.t 10), none⟩,
⟨.bin 45 .add (.t 44) (.c (.d true (.int .i64 1))), none⟩,
⟨.mv 10 (.t 45), none⟩] [])))
def c_slices_partitionOrdered_of_int_l2 : C :=
(.seq (.seq (.rg 5 true [] [⟨.mv 46 (.t 10), none⟩,
⟨.mv 47 (.t 11), none⟩,
⟨.bin 48 .leq (.t 46) (.t 47), none⟩,
⟨.mv 49 (.t 48), none⟩,
⟨.mv 50 (.t 0), some (49, true)⟩,
⟨.mv 51 (.t 11), some (49, true)⟩,
⟨.ix 52 (.t 50) (.t 51) 1, some (49, true)⟩,
⟨.load 53 (.t 52) 0, some (49, true)⟩,
⟨.mv 54 (.t 0), some (49, true)⟩,
⟨.mv 55 (.t 1), some (49, true)⟩,
⟨.ix 56 (.t 54) (.t 55) 1, some (49, true)⟩,
⟨.load 57 (.t 56) 0, some (49, true)⟩,
⟨.call 58 k_cmp_Less_of_int [(.t 53), (.t 57)] none, some (49, true)⟩,
⟨.un 59 .not (.t 58), some (49, true)⟩,
⟨.pick 60 (.t 49) (.t 59) (.c (.d true (.bool false))), none⟩] [])
(.cond (.t 60) .skip (.exit 2)))
(.block 3 (.rg 6 false [] [⟨.mv 61 (.t 11), none⟩,
⟨.bin 62 .sub (.t 61) (.c (.d true (.int .i64 1))), none⟩,
⟨.mv 11 (.t 62), none⟩] [])))
def c_slices_partitionOrdered_of_int_l3 : C :=
(.seq (.seq (.rg 13 true [] [⟨.mv 99 (.t 10), none⟩,
⟨.mv 100 (.t 11), none⟩,
⟨.bin 101 .leq (.t 99) (.t 100), none⟩,
⟨.mv 102 (.t 101), none⟩,
⟨.mv 103 (.t 0), some (102, true)⟩,
⟨.mv 104 (.t 10), some (102, true)⟩,
⟨.ix 105 (.t 103) (.t 104) 1, some (102, true)⟩,
⟨.load 106 (.t 105) 0, some (102, true)⟩,
⟨.mv 107 (.t 0), some (102, true)⟩,
⟨.mv 108 (.t 1), some (102, true)⟩,
⟨.ix 109 (.t 107) (.t 108) 1, some (102, true)⟩,
⟨.load 110 (.t 109) 0, some (102, true)⟩,
⟨.call 111 k_cmp_Less_of_int [(.t 106), (.t 110)] none, some (102, true)⟩,
⟨.pick 112 (.t 102) (.t 111) (.c (.d true (.bool false))), none⟩] [])
(.cond (.t 112) .skip (.exit 6)))
(.block 7 (.rg 14 false [] [⟨.mv 113 (.t 10), none⟩,
⟨.bin 114 .add (.t 113) (.c (.d true (.int .i64 1))), none⟩,
⟨.mv 10 (.t 114), none⟩] [])))
end Go.Proofs.YtcgjebaomhfbdaaGreat.Vm
