/- The functions, as the machine's code. Printed. -/
import Derived.Test.YtkhgnkfdpabflaaVmP1
import Derived.KernelRfl
namespace Go.Proofs.Ytkhgnkfdpabflaa.Vm
open Go
def k_law38_QueueNames : Nat := 8
def k_queue_Chain : Nat := 11
def k_queue_Trace : Nat := 13
def k_queue_Right : Nat := 15
def k_ref13_Same : Nat := 17
def k_ref06_Same : Nat := 18
def k_queue_Push : Nat := 19
def k_queue_Pop : Nat := 21
def k_queue_Check : Nat := 23
def k_ref38_Same : Nat := 25
def k_law38_alive : Nat := 26
def k_law38_pushed : Nat := 28
def k_law38_popped : Nat := 29
def k_slices_Collect_of_int : Nat := 34
def k_queue_chain : Nat := 35
def k_slices_Clone_of_bool : Nat := 37
def k_gates_Check : Nat := 39
def k_clause_Check : Nat := 40
def k_ref04_Same : Nat := 42
def k_ref06_SameAll : Nat := 43
def k_queue_may : Nat := 44
def k_queue_order : Nat := 45
def k_slices_Insert_of_api_Wait : Nat := 46
def k_slices_Clone_of_api_Wait : Nat := 47
def k_slices_IsSortedFunc_of_api_Wait : Nat := 49
def k_slices_AppendSeq_of_int : Nat := 51
def k_queue_chain_1 : Nat := 52
def k_gates_starts : Nat := 53
def k_gates_Check_1 : Nat := 54
def k_gates_Check_2 : Nat := 55
def k_slices_ContainsFunc_of_int : Nat := 56
def k_slices_ContainsFunc_of_api_Latch : Nat := 57
def k_clause_known : Nat := 58
def k_cmp_Or_of_int : Nat := 60
def k_cmp_Compare_of_int : Nat := 61
def k_slices_IndexFunc_of_int : Nat := 64
def k_slices_IndexFunc_of_api_Latch : Nat := 65
def k_cmp_isNaN_of_int : Nat := 66
def c_law38_QueueNames_p1 : C :=
(.rg 7 false [] [{i := .mv 85 (.t 1)}, {i := .mv 86 (.t 2)}, {i := .ix 87 (.t 85) (.t 86) 1}, {i := .load 88 (.t 87) 0}, {i := .call 89 k_queue_Check [(.t 88)] none}, {i := .bin 90 .neq (.t 89) (.c (.d true (.int .i64 8)))}, {i := .mv 91 (.t 90)}, ⟨(.mv 92 (.t 4)), (some (91, false))⟩, ⟨(.bin 93 .neq (.t 92) (.c (.d true (.int .i64 8)))), (some (91, false))⟩, {i := .pick 94 (.t 91) (.c (.d true (.bool true))) (.t 93)}, {i := .mv 95 (.t 94)}, ⟨(.mv 96 (.t 7)), (some (95, false))⟩, ⟨(.bin 97 .neq (.t 96) (.c (.d true (.int .i64 8)))), (some (95, false))⟩, {i := .pick 98 (.t 95) (.c (.d true (.bool true))) (.t 97)}] [])
def c_law38_QueueNames_p2 : C :=
(.block 1 (.seq (.rg 5 false [] [{i := .mv 68 (.t 1)}, {i := .mv 69 (.t 2)}, {i := .ix 70 (.t 68) (.t 69) 1}, {i := .load 71 (.t 70) 0}, {i := .bld 72 [(.k (.int .i64 0)), (.k (.int .i64 0))] [(0, 0, (.c (.d true (.int .i64 (-1)))))]}, {i := .call 73 k_queue_Push [(.t 71), (.t 72)] none}, {i := .mv 67 (.t 73)}, {i := .xt 74 (.t 67) 0}, {i := .xt 75 (.t 67) 1}, {i := .mv 3 (.t 74)}, {i := .mv 4 (.t 75)}] [])
 (.seq (.rg 6 false [(.kill 7 8)] [{i := .mv 77 (.t 1)}, {i := .mv 78 (.t 2)}, {i := .ix 79 (.t 77) (.t 78) 1}, {i := .load 80 (.t 79) 0}, {i := .call 81 k_queue_Pop [(.t 80)] none}, {i := .mv 76 (.t 81)}, {i := .xt 82 (.t 76) 0}, {i := .xt 83 (.t 76) 1}, {i := .xt 84 (.t 76) 2}, {i := .alloc 5 7 [(.k (.int .i64 0)), (.k (.int .i64 0))]}, {i := .store (.t 5) (.t 82) 3}, {i := .mv 6 (.t 83)}, {i := .mv 7 (.t 84)}] [])
 (.seq (.seq c_law38_QueueNames_p1
 (.cond (.t 98) (.seq (.rg 8 false [] [{i := .mv 0 (.c (.d true (.bool false)))}] [])
 .ret) .skip))
 (.seq (.rg 9 false [] [{i := .mv 99 (.t 1)}, {i := .mv 100 (.t 2)}, {i := .ix 101 (.t 99) (.t 100) 1}, {i := .load 102 (.t 101) 0}, {i := .len 103 (.t 102)}, {i := .bin 104 .eql (.t 103) (.c (.d true (.int .i64 1)))}] [])
 (.cond (.t 104) (.seq (.rg 10 false [] [{i := .mv 106 (.t 1)}, {i := .mv 107 (.t 2)}, {i := .ix 108 (.t 106) (.t 107) 1}, {i := .load 109 (.t 108) 0}, {i := .ix 110 (.t 109) (.c (.d true (.int .i64 0))) 2}, {i := .load 111 (.t 110) 3}, {i := .call 112 k_queue_Push [(.c (.nil 2)), (.t 111)] none}, {i := .mv 105 (.t 112)}, {i := .xt 113 (.t 105) 0}, {i := .xt 114 (.t 105) 1}, {i := .mv 8 (.t 113)}, {i := .mv 9 (.t 114)}] [])
 (.seq (.rg 11 false [] [{i := .mv 115 (.t 9)}, {i := .bin 116 .neq (.t 115) (.c (.d true (.int .i64 2)))}] [])
 (.cond (.t 116) (.seq (.rg 12 false [] [{i := .mv 0 (.c (.d true (.bool false)))}] [])
 .ret) .skip))) .skip))))))
def c_law38_QueueNames_l1 : C :=
(.seq (.seq (.rg 3 false [] [{i := .mv 61 (.t 2)}, {i := .mv 62 (.t 1)}, {i := .len 63 (.t 62)}, {i := .bin 64 .lss (.t 61) (.t 63)}] [])
 (.cond (.t 64) .skip (.exit 0)))
 (.seq c_law38_QueueNames_p2
 (.rg 4 false [] [{i := .mv 65 (.t 2)}, {i := .bin 66 .add (.t 65) (.c (.d true (.int .i64 1)))}, {i := .mv 2 (.t 66)}] [])))
def c_law38_QueueNames_p3 : C :=
(.rg 26 true [] [{i := .load 190 (.t 21) 6}, {i := .mv 191 (.t 23)}, {i := .mv 192 (.t 24)}, {i := .ix 193 (.t 191) (.t 192) 1}, {i := .load 194 (.t 193) 0}, {i := .call 195 k_queue_Right [(.t 190), (.t 194)] none}, {i := .bin 196 .neq (.t 195) (.c (.d true (.int .i64 8)))}, {i := .mv 197 (.t 196)}, ⟨(.mv 198 (.t 26)), (some (197, false))⟩, ⟨(.bin 199 .neq (.t 198) (.c (.d true (.int .i64 8)))), (some (197, false))⟩, {i := .pick 200 (.t 197) (.c (.d true (.bool true))) (.t 199)}, {i := .mv 201 (.t 200)}, ⟨(.mv 202 (.t 28)), (some (201, false))⟩, ⟨(.bin 203 .neq (.t 202) (.c (.d true (.int .i64 8)))), (some (201, false))⟩, {i := .pick 204 (.t 201) (.c (.d true (.bool true))) (.t 203)}] [])
def c_law38_QueueNames_l2 : C :=
(.seq (.seq (.rg 22 false [] [{i := .mv 166 (.t 24)}, {i := .mv 167 (.t 23)}, {i := .len 168 (.t 167)}, {i := .bin 169 .lss (.t 166) (.t 168)}] [])
 (.cond (.t 169) .skip (.exit 2)))
 (.seq (.block 3 (.seq (.rg 24 true [] [{i := .load 173 (.t 21) 6}, {i := .mv 174 (.t 23)}, {i := .mv 175 (.t 24)}, {i := .ix 176 (.t 174) (.t 175) 1}, {i := .load 177 (.t 176) 0}, {i := .call 178 k_queue_Chain [(.t 173), (.t 177), (.c (.d true (.int .i64 0)))] none}, {i := .mv 172 (.t 178)}, {i := .xt 179 (.t 172) 0}, {i := .xt 180 (.t 172) 1}, {i := .mv 25 (.t 179)}, {i := .mv 26 (.t 180)}] [])
 (.seq (.rg 25 true [(.kill 23 24)] [{i := .load 182 (.t 21) 6}, {i := .mv 183 (.t 23)}, {i := .mv 184 (.t 24)}, {i := .ix 185 (.t 183) (.t 184) 1}, {i := .load 186 (.t 185) 0}, {i := .call 187 k_queue_Trace [(.t 182), (.t 186), (.c (.d true (.int .i64 0))), (.c (.nil 1)), (.c (.nil 1))] none}, {i := .mv 181 (.t 187)}, {i := .xt 188 (.t 181) 0}, {i := .xt 189 (.t 181) 1}, {i := .alloc 27 23 [(.n 1), (.n 1)]}, {i := .store (.t 27) (.t 188) 3}, {i := .mv 28 (.t 189)}] [])
 (.seq c_law38_QueueNames_p3
 (.cond (.t 204) (.seq (.rg 27 false [] [{i := .mv 0 (.c (.d true (.bool false)))}] [])
 .ret) .skip)))))
 (.rg 23 false [] [{i := .mv 170 (.t 24)}, {i := .bin 171 .add (.t 170) (.c (.d true (.int .i64 1)))}, {i := .mv 24 (.t 171)}] [])))
def c_law38_QueueNames_l3 : C :=
(.seq (.seq (.rg 36 false [] [{i := .mv 246 (.t 41)}, {i := .bin 247 .lss (.t 246) (.c (.d true (.int .i64 100)))}] [])
 (.cond (.t 247) .skip (.exit 4)))
 (.seq (.block 5 (.rg 38 false [(.kill 32 33)] [{i := .mv 250 (.t 40)}, {i := .mv 251 (.t 41)}, {i := .bin 252 .sub (.t 251) (.c (.d true (.int .i64 1)))}, {i := .bld 253 [(.n 1), (.n 1), (.k (.int .i64 0))] [(2, 0, (.t 252))]}, {i := .bsl 254 32 3 1 (.k (.agg [(.lst 1 []), (.lst 1 []), (.int .i64 0)])) [(0, (.t 253))]}, {i := .app 255 33 3 (.t 250) (.t 254)}, {i := .mv 40 (.t 255)}] []))
 (.rg 37 false [] [{i := .mv 248 (.t 41)}, {i := .bin 249 .add (.t 248) (.c (.d true (.int .i64 1)))}, {i := .mv 41 (.t 249)}] [])))
def c_law38_QueueNames_p4 : C :=
(.rg 41 false [] [{i := .mv 268 (.c (.d true (.bool true)))}, ⟨(.mv 269 (.t 12)), (some (268, true))⟩, ⟨(.bin 270 .eql (.t 269) (.c (.d true (.int .i64 4)))), (some (268, true))⟩, {i := .pick 271 (.t 268) (.t 270) (.c (.d true (.bool false)))}, {i := .mv 272 (.t 271)}, ⟨(.mv 273 (.t 15)), (some (272, true))⟩, ⟨(.bin 274 .eql (.t 273) (.c (.d true (.int .i64 0)))), (some (272, true))⟩, {i := .pick 275 (.t 272) (.t 274) (.c (.d true (.bool false)))}, {i := .mv 276 (.t 275)}, ⟨(.mv 277 (.t 14)), (some (276, true))⟩, ⟨(.len 278 (.t 277)), (some (276, true))⟩, ⟨(.bin 279 .eql (.t 278) (.c (.d true (.int .i64 999)))), (some (276, true))⟩, {i := .pick 280 (.t 276) (.t 279) (.c (.d true (.bool false)))}, {i := .mv 281 (.t 280)}, ⟨(.mv 282 (.t 17)), (some (281, true))⟩, ⟨(.bin 283 .eql (.t 282) (.c (.d true (.int .i64 4)))), (some (281, true))⟩, {i := .pick 284 (.t 281) (.t 283) (.c (.d true (.bool false)))}, {i := .mv 285 (.t 284)}, ⟨(.mv 286 (.t 20)), (some (285, true))⟩, ⟨(.bin 287 .eql (.t 286) (.c (.d true (.int .i64 6)))), (some (285, true))⟩, {i := .pick 288 (.t 285) (.t 287) (.c (.d true (.bool false)))}, {i := .mv 289 (.t 288)}, ⟨(.mv 290 (.t 31)), (some (289, true))⟩, ⟨(.bin 291 .eql (.t 290) (.c (.d true (.int .i64 2)))), (some (289, true))⟩, {i := .pick 292 (.t 289) (.t 291) (.c (.d true (.bool false)))}, {i := .mv 293 (.t 292)}, ⟨(.mv 294 (.t 33)), (some (293, true))⟩, ⟨(.bin 295 .eql (.t 294) (.c (.d true (.int .i64 2)))), (some (293, true))⟩, {i := .pick 296 (.t 293) (.t 295) (.c (.d true (.bool false)))}, {i := .mv 297 (.t 296)}, ⟨(.mv 298 (.t 35)), (some (297, true))⟩, ⟨(.bin 299 .eql (.t 298) (.c (.d true (.int .i64 2)))), (some (297, true))⟩, {i := .pick 300 (.t 297) (.t 299) (.c (.d true (.bool false)))}, {i := .mv 301 (.t 300)}, ⟨(.mv 302 (.t 37)), (some (301, true))⟩, ⟨(.bin 303 .eql (.t 302) (.c (.d true (.int .i64 2)))), (some (301, true))⟩, {i := .pick 304 (.t 301) (.t 303) (.c (.d true (.bool false)))}, {i := .mv 305 (.t 304)}, ⟨(.mv 306 (.t 39)), (some (305, true))⟩, ⟨(.bin 307 .eql (.t 306) (.c (.d true (.int .i64 0)))), (some (305, true))⟩, {i := .pick 308 (.t 305) (.t 307) (.c (.d true (.bool false)))}, {i := .mv 309 (.t 308)}, ⟨(.load 310 (.t 38) 3), (some (309, true))⟩, ⟨(.mv 311 (.t 22)), (some (309, true))⟩, ⟨(.mv 312 (.t 22)), (some (309, true))⟩, ⟨(.bsl 313 36 1 1 (.k (.bool false)) [(0, (.c (.d true (.bool false))))]), (some (309, true))⟩, ⟨(.mv 314 (.t 22)), (some (309, true))⟩, ⟨(.bsl 315 37 1 3 (.k (.lst 1 [])) [(0, (.t 312)), (1, (.t 313)), (2, (.t 314))]), (some (309, true))⟩, ⟨(.bld 316 [(.n 1), (.n 1)] [(0, 0, (.t 311)), (1, 0, (.t 315))]), (some (309, true))⟩, ⟨(.call 317 k_ref06_Same [(.t 310), (.t 316)] none), (some (309, true))⟩, {i := .pick 318 (.t 309) (.t 317) (.c (.d true (.bool false)))}, {i := .mv 319 (.t 318)}, ⟨(.mv 320 (.t 43)), (some (319, true))⟩, ⟨(.bin 321 .eql (.t 320) (.c (.d true (.int .i64 4)))), (some (319, true))⟩, {i := .pick 322 (.t 319) (.t 321) (.c (.d true (.bool false)))}, {i := .mv 323 (.t 322)}, ⟨(.mv 324 (.t 45)), (some (323, true))⟩, ⟨(.bin 325 .eql (.t 324) (.c (.d true (.int .i64 0)))), (some (323, true))⟩, {i := .pick 326 (.t 323) (.t 325) (.c (.d true (.bool false)))}, {i := .mv 327 (.t 326)}, ⟨(.fad 328 (.t 44) 1 0), (some (327, true))⟩, ⟨(.load 329 (.t 328) 0), (some (327, true))⟩, ⟨(.len 330 (.t 329)), (some (327, true))⟩, ⟨(.bin 331 .eql (.t 330) (.c (.d true (.int .i64 100)))), (some (327, true))⟩, {i := .pick 332 (.t 327) (.t 331) (.c (.d true (.bool false)))}, {i := .mv 333 (.t 332)}, ⟨(.bld 334 [(.k (.int .i64 0)), (.n 2), (.n 2), (.n 1), (.n 1)] []), (some (333, true))⟩, ⟨(.mks 335 38 3 (.c (.d true (.int .i64 1001))) (.c (.d true (.int .i64 1001))) (.k (.agg [(.lst 1 []), (.lst 1 []), (.int .i64 0)]))), (some (333, true))⟩, ⟨(.call 336 k_queue_Right [(.t 334), (.t 335)] none), (some (333, true))⟩, ⟨(.bin 337 .eql (.t 336) (.c (.d true (.int .i64 4)))), (some (333, true))⟩, {i := .pick 338 (.t 333) (.t 337) (.c (.d true (.bool false)))}, {i := .mv 339 (.t 338)}, ⟨(.bld 340 [(.k (.int .i64 0)), (.n 2), (.n 2), (.n 1), (.n 1)] [(0, 0, (.c (.d true (.int .i64 (-1)))))]), (some (339, true))⟩, ⟨(.call 341 k_queue_Right [(.t 340), (.c (.nil 3))] none), (some (339, true))⟩, ⟨(.bin 342 .eql (.t 341) (.c (.d true (.int .i64 8)))), (some (339, true))⟩, {i := .pick 343 (.t 339) (.t 342) (.c (.d true (.bool false)))}, {i := .mv 344 (.t 343)}, ⟨(.call 345 k_law38_alive [] none), (some (344, true))⟩, {i := .pick 346 (.t 344) (.t 345) (.c (.d true (.bool false)))}, {i := .mv 0 (.t 346)}] [])
def c_law38_QueueNames : C :=
(.seq (.rg 0 false [] [{i := .mv 0 (.c (.d true (.bool false)))}] [])
 (.seq (.rg 1 false [] [{i := .bld 46 [(.k (.int .i64 0)), (.k (.int .i64 0))] [(0, 0, (.c (.d true (.int .i64 (-1)))))]}, {i := .bsl 47 0 2 1 (.k (.agg [(.int .i64 0), (.int .i64 0)])) [(0, (.t 46))]}, {i := .bld 48 [(.k (.int .i64 0)), (.k (.int .i64 0))] [(0, 0, (.c (.d true (.int .i64 61))))]}, {i := .bsl 49 1 2 1 (.k (.agg [(.int .i64 0), (.int .i64 0)])) [(0, (.t 48))]}, {i := .bld 50 [(.k (.int .i64 0)), (.k (.int .i64 0))] [(1, 0, (.c (.d true (.int .i64 (-1)))))]}, {i := .bsl 51 2 2 1 (.k (.agg [(.int .i64 0), (.int .i64 0)])) [(0, (.t 50))]}, {i := .bld 52 [(.k (.int .i64 0)), (.k (.int .i64 0))] [(1, 0, (.c (.d true (.int .i64 1000))))]}, {i := .bsl 53 3 2 1 (.k (.agg [(.int .i64 0), (.int .i64 0)])) [(0, (.t 52))]}, {i := .bld 54 [(.k (.int .i64 0)), (.k (.int .i64 0))] [(0, 0, (.c (.d true (.int .i64 1))))]}, {i := .bld 55 [(.k (.int .i64 0)), (.k (.int .i64 0))] []}, {i := .bsl 56 4 2 2 (.k (.agg [(.int .i64 0), (.int .i64 0)])) [(0, (.t 54)), (1, (.t 55))]}, {i := .bld 57 [(.k (.int .i64 0)), (.k (.int .i64 0))] [(1, 0, (.c (.d true (.int .i64 2))))]}, {i := .bld 58 [(.k (.int .i64 0)), (.k (.int .i64 0))] [(1, 0, (.c (.d true (.int .i64 1))))]}, {i := .bsl 59 5 2 2 (.k (.agg [(.int .i64 0), (.int .i64 0)])) [(0, (.t 57)), (1, (.t 58))]}, {i := .bsl 60 6 1 6 (.k (.lst 2 [])) [(0, (.t 47)), (1, (.t 49)), (2, (.t 51)), (3, (.t 53)), (4, (.t 56)), (5, (.t 59))]}, {i := .mv 1 (.t 60)}] [])
 (.seq (.seq (.rg 2 false [] [{i := .mv 2 (.c (.d true (.int .i64 0)))}] [])
 (.block 0 (.loop c_law38_QueueNames_l1)))
 (.seq (.rg 13 false [] [{i := .mks 117 8 2 (.c (.d true (.int .i64 1000))) (.c (.d true (.int .i64 1000))) (.k (.agg [(.int .i64 0), (.int .i64 0)]))}, {i := .mv 10 (.t 117)}] [])
 (.seq (.rg 14 false [] [{i := .mv 119 (.t 10)}, {i := .bld 120 [(.k (.int .i64 0)), (.k (.int .i64 0))] []}, {i := .call 121 k_queue_Push [(.t 119), (.t 120)] none}, {i := .mv 118 (.t 121)}, {i := .xt 122 (.t 118) 0}, {i := .xt 123 (.t 118) 1}, {i := .mv 11 (.t 122)}, {i := .mv 12 (.t 123)}] [])
 (.seq (.rg 15 false [] [{i := .mv 125 (.t 10)}, {i := .call 126 k_queue_Pop [(.t 125)] none}, {i := .mv 124 (.t 126)}, {i := .xt 127 (.t 124) 0}, {i := .xt 128 (.t 124) 1}, {i := .xt 129 (.t 124) 2}, {i := .alloc 13 9 [(.k (.int .i64 0)), (.k (.int .i64 0))]}, {i := .store (.t 13) (.t 127) 3}, {i := .mv 14 (.t 128)}, {i := .mv 15 (.t 129)}] [])
 (.seq (.rg 16 false [] [{i := .mv 131 (.t 10)}, {i := .bld 132 [(.k (.int .i64 0)), (.k (.int .i64 0))] []}, {i := .bsl 133 10 2 1 (.k (.agg [(.int .i64 0), (.int .i64 0)])) [(0, (.t 132))]}, {i := .app 134 11 2 (.t 131) (.t 133)}, {i := .bld 135 [(.k (.int .i64 0)), (.k (.int .i64 0))] []}, {i := .call 136 k_queue_Push [(.t 134), (.t 135)] none}, {i := .mv 130 (.t 136)}, {i := .xt 137 (.t 130) 0}, {i := .xt 138 (.t 130) 1}, {i := .mv 16 (.t 137)}, {i := .mv 17 (.t 138)}] [])
 (.seq (.rg 17 false [] [{i := .call 140 k_queue_Pop [(.c (.nil 2))] none}, {i := .mv 139 (.t 140)}, {i := .xt 141 (.t 139) 0}, {i := .xt 142 (.t 139) 1}, {i := .xt 143 (.t 139) 2}, {i := .alloc 18 12 [(.k (.int .i64 0)), (.k (.int .i64 0))]}, {i := .store (.t 18) (.t 141) 3}, {i := .mv 19 (.t 142)}, {i := .mv 20 (.t 143)}] [])
 (.seq (.rg 18 false [] [{i := .bld 144 [(.k (.int .i64 0)), (.k (.int .i64 0))] []}, {i := .bsl 145 13 2 1 (.k (.agg [(.int .i64 0), (.int .i64 0)])) [(0, (.t 144))]}, {i := .bld 146 [(.k (.int .i64 0)), (.n 2), (.n 2), (.n 1), (.n 1)] [(0, 0, (.c (.d true (.int .i64 1)))), (1, 0, (.t 145))]}, {i := .alloc 21 14 [(.k (.int .i64 0)), (.n 2), (.n 2), (.n 1), (.n 1)]}, {i := .store (.t 21) (.t 146) 6}] [])
 (.seq (.rg 19 false [] [{i := .bsl 147 15 1 1 (.k (.bool false)) [(0, (.c (.d true (.bool true))))]}, {i := .mv 22 (.t 147)}] [])
 (.seq (.rg 20 false [] [{i := .mv 148 (.t 22)}, {i := .bld 149 [(.n 1), (.n 1), (.k (.int .i64 0))] [(1, 0, (.t 148))]}, {i := .bsl 150 16 3 1 (.k (.agg [(.lst 1 []), (.lst 1 []), (.int .i64 0)])) [(0, (.t 149))]}, {i := .mv 151 (.t 22)}, {i := .bld 152 [(.n 1), (.n 1), (.k (.int .i64 0))] [(1, 0, (.t 151)), (2, 0, (.c (.d true (.int .i64 (-2)))))]}, {i := .bsl 153 17 3 1 (.k (.agg [(.lst 1 []), (.lst 1 []), (.int .i64 0)])) [(0, (.t 152))]}, {i := .bld 154 [(.n 1), (.n 1), (.k (.int .i64 0))] [(2, 0, (.c (.d true (.int .i64 (-1)))))]}, {i := .bsl 155 18 3 1 (.k (.agg [(.lst 1 []), (.lst 1 []), (.int .i64 0)])) [(0, (.t 154))]}, {i := .mv 156 (.t 22)}, {i := .bsl 157 19 1 1 (.k (.int .i64 0)) [(0, (.c (.d true (.int .i64 4))))]}, {i := .bld 158 [(.n 1), (.n 1), (.k (.int .i64 0))] [(1, 0, (.t 156)), (2, 0, (.c (.d true (.int .i64 (-1))))), (0, 0, (.t 157))]}, {i := .bsl 159 20 3 1 (.k (.agg [(.lst 1 []), (.lst 1 []), (.int .i64 0)])) [(0, (.t 158))]}, {i := .mv 160 (.t 22)}, {i := .bld 161 [(.n 1), (.n 1), (.k (.int .i64 0))] [(1, 0, (.t 160)), (2, 0, (.c (.d true (.int .i64 (-1)))))]}, {i := .mv 162 (.t 22)}, {i := .bld 163 [(.n 1), (.n 1), (.k (.int .i64 0))] [(1, 0, (.t 162)), (2, 0, (.c (.d true (.int .i64 1))))]}, {i := .bsl 164 21 3 2 (.k (.agg [(.lst 1 []), (.lst 1 []), (.int .i64 0)])) [(0, (.t 161)), (1, (.t 163))]}, {i := .bsl 165 22 1 5 (.k (.lst 3 [])) [(0, (.t 150)), (1, (.t 153)), (2, (.t 155)), (3, (.t 159)), (4, (.t 164))]}, {i := .mv 23 (.t 165)}] [])
 (.seq (.seq (.rg 21 false [] [{i := .mv 24 (.c (.d true (.int .i64 0)))}] [])
 (.block 2 (.loop c_law38_QueueNames_l2)))
 (.seq (.rg 28 false [] [{i := .bsl 205 24 1 1 (.k (.int .i64 0)) [(0, (.c (.d true (.int .i64 2))))]}, {i := .mv 206 (.t 22)}, {i := .bld 207 [(.n 1), (.n 1), (.k (.int .i64 0))] [(0, 0, (.t 205)), (1, 0, (.t 206)), (2, 0, (.c (.d true (.int .i64 (-1)))))]}, {i := .bsl 208 25 1 1 (.k (.int .i64 0)) [(0, (.c (.d true (.int .i64 3))))]}, {i := .bsl 209 26 1 1 (.k (.bool false)) [(0, (.c (.d true (.bool false))))]}, {i := .bld 210 [(.n 1), (.n 1), (.k (.int .i64 0))] [(0, 0, (.t 208)), (1, 0, (.t 209))]}, {i := .bsl 211 27 3 2 (.k (.agg [(.lst 1 []), (.lst 1 []), (.int .i64 0)])) [(0, (.t 207)), (1, (.t 210))]}, {i := .mv 29 (.t 211)}] [])
 (.seq (.rg 29 false [] [{i := .load 213 (.t 21) 6}, {i := .mv 214 (.t 29)}, {i := .call 215 k_queue_Chain [(.t 213), (.t 214), (.c (.d true (.int .i64 2)))] none}, {i := .mv 212 (.t 215)}, {i := .xt 216 (.t 212) 0}, {i := .xt 217 (.t 212) 1}, {i := .mv 30 (.t 216)}, {i := .mv 31 (.t 217)}] [])
 (.seq (.rg 30 false [] [{i := .load 219 (.t 21) 6}, {i := .mv 220 (.t 29)}, {i := .call 221 k_queue_Chain [(.t 219), (.t 220), (.c (.d true (.int .i64 (-1))))] none}, {i := .mv 218 (.t 221)}, {i := .xt 222 (.t 218) 0}, {i := .xt 223 (.t 218) 1}, {i := .mv 32 (.t 222)}, {i := .mv 33 (.t 223)}] [])
 (.seq (.rg 31 false [] [{i := .load 225 (.t 21) 6}, {i := .mv 226 (.t 29)}, {i := .mv 227 (.t 22)}, {i := .call 228 k_queue_Trace [(.t 225), (.t 226), (.c (.d true (.int .i64 1))), (.c (.nil 1)), (.t 227)] none}, {i := .mv 224 (.t 228)}, {i := .xt 229 (.t 224) 0}, {i := .xt 230 (.t 224) 1}, {i := .alloc 34 28 [(.n 1), (.n 1)]}, {i := .store (.t 34) (.t 229) 3}, {i := .mv 35 (.t 230)}] [])
 (.seq (.rg 32 false [] [{i := .load 232 (.t 21) 6}, {i := .mv 233 (.t 29)}, {i := .mv 234 (.t 22)}, {i := .call 235 k_queue_Trace [(.t 232), (.t 233), (.c (.d true (.int .i64 1))), (.t 234), (.c (.nil 1))] none}, {i := .mv 231 (.t 235)}, {i := .xt 236 (.t 231) 0}, {i := .xt 237 (.t 231) 1}, {i := .alloc 36 29 [(.n 1), (.n 1)]}, {i := .store (.t 36) (.t 236) 3}, {i := .mv 37 (.t 237)}] [])
 (.seq (.rg 33 false [] [{i := .load 239 (.t 21) 6}, {i := .mv 240 (.t 29)}, {i := .mv 241 (.t 22)}, {i := .mv 242 (.t 22)}, {i := .call 243 k_queue_Trace [(.t 239), (.t 240), (.c (.d true (.int .i64 1))), (.t 241), (.t 242)] none}, {i := .mv 238 (.t 243)}, {i := .xt 244 (.t 238) 0}, {i := .xt 245 (.t 238) 1}, {i := .alloc 38 30 [(.n 1), (.n 1)]}, {i := .store (.t 38) (.t 244) 3}, {i := .mv 39 (.t 245)}] [])
 (.seq (.rg 34 false [] [{i := .nilr 40 31 3}] [])
 (.seq (.seq (.rg 35 false [] [{i := .mv 41 (.c (.d true (.int .i64 0)))}] [])
 (.block 4 (.loop c_law38_QueueNames_l3)))
 (.seq (.rg 39 false [] [{i := .bld 257 [(.k (.int .i64 0)), (.n 2), (.n 2), (.n 1), (.n 1)] []}, {i := .mv 258 (.t 40)}, {i := .call 259 k_queue_Trace [(.t 257), (.t 258), (.c (.d true (.int .i64 99))), (.c (.nil 1)), (.c (.nil 1))] none}, {i := .mv 256 (.t 259)}, {i := .xt 260 (.t 256) 0}, {i := .xt 261 (.t 256) 1}, {i := .alloc 42 34 [(.n 1), (.n 1)]}, {i := .store (.t 42) (.t 260) 3}, {i := .mv 43 (.t 261)}] [])
 (.seq (.rg 40 false [] [{i := .bld 263 [(.k (.int .i64 0)), (.n 2), (.n 2), (.n 1), (.n 1)] []}, {i := .mv 264 (.t 40)}, {i := .call 265 k_queue_Trace [(.t 263), (.t 264), (.c (.d true (.int .i64 98))), (.c (.nil 1)), (.c (.nil 1))] none}, {i := .mv 262 (.t 265)}, {i := .xt 266 (.t 262) 0}, {i := .xt 267 (.t 262) 1}, {i := .alloc 44 35 [(.n 1), (.n 1)]}, {i := .store (.t 44) (.t 266) 3}, {i := .mv 45 (.t 267)}] [])
 (.seq c_law38_QueueNames_p4
 .ret)))))))))))))))))))))))
def n_law38_QueueNames : Fn := ⟨c_law38_QueueNames, [.s 0], (some [])⟩
def c_queue_Chain_p1 : C :=
(.rg 4 false [] [{i := .mv 15 (.t 2)}, {i := .bin 16 .lss (.t 15) (.c (.d true (.int .i64 0)))}, {i := .mv 17 (.t 16)}, ⟨(.mv 18 (.t 2)), (some (17, false))⟩, ⟨(.mv 19 (.t 1)), (some (17, false))⟩, ⟨(.len 20 (.t 19)), (some (17, false))⟩, ⟨(.bin 21 .geq (.t 18) (.t 20)), (some (17, false))⟩, {i := .pick 22 (.t 17) (.c (.d true (.bool true))) (.t 21)}] [])
def c_queue_Chain : C :=
(.seq (.rg 0 false [] [{i := .box 3 0 (.t 0) 6}, {i := .mv 6 (.c (.nil 1))}, {i := .mv 7 (.c (.d true (.int .i64 0)))}] [])
 (.seq (.seq (.rg 1 false [] [{i := .load 9 (.t 3) 6}, {i := .mv 10 (.t 1)}, {i := .call 11 k_queue_Right [(.t 9), (.t 10)] none}, {i := .mv 8 (.t 11)}] [])
 (.seq (.rg 2 false [] [{i := .mv 12 (.t 8)}, {i := .bin 13 .neq (.t 12) (.c (.d true (.int .i64 0)))}] [])
 (.cond (.t 13) (.seq (.rg 3 false [] [{i := .mv 14 (.t 8)}, {i := .mv 6 (.c (.nil 1))}, {i := .mv 7 (.t 14)}] [])
 .ret) .skip)))
 (.seq (.seq c_queue_Chain_p1
 (.cond (.t 22) (.seq (.rg 5 false [] [{i := .mv 6 (.c (.nil 1))}, {i := .mv 7 (.c (.d true (.int .i64 2)))}] [])
 .ret) .skip))
 (.seq (.rg 6 false [] [{i := .mv 23 (.t 1)}, {i := .mv 24 (.t 2)}, {i := .call 25 k_queue_chain [(.t 23), (.t 24)] (some 21)}, {i := .call 26 k_slices_Collect_of_int [(.t 25)] none}, {i := .mv 6 (.t 26)}, {i := .mv 7 (.c (.d true (.int .i64 0)))}] [])
 .ret))))
def n_queue_Chain : Fn := ⟨c_queue_Chain, [.s 6, .s 7], (some [false, false, false])⟩
def c_queue_Trace_p1 : C :=
(.rg 4 false [] [{i := .mv 27 (.t 3)}, {i := .len 28 (.t 27)}, {i := .fad 29 (.t 5) 1 0}, {i := .load 30 (.t 29) 0}, {i := .len 31 (.t 30)}, {i := .bin 32 .neq (.t 28) (.t 31)}, {i := .mv 33 (.t 32)}, ⟨(.mv 34 (.t 4)), (some (33, false))⟩, ⟨(.len 35 (.t 34)), (some (33, false))⟩, ⟨(.fad 36 (.t 5) 0 0), (some (33, false))⟩, ⟨(.load 37 (.t 36) 0), (some (33, false))⟩, ⟨(.bin 38 .neq (.t 35) (.t 37)), (some (33, false))⟩, {i := .pick 39 (.t 33) (.c (.d true (.bool true))) (.t 38)}] [])
def c_queue_Trace_r1 : C :=
.rfun (.t 53) [54]
 (.rg 10 false [] [{i := .mv 15 (.t 54)}] [])
 (.block 1 (.rg 11 true [] [{i := .fad 55 (.t 14) 1 0}, {i := .load 56 (.t 55) 0}, {i := .load 57 (.t 6) 0}, {i := .mv 58 (.t 15)}, {i := .ix 59 (.t 57) (.t 58) 3}, {i := .fad 60 (.t 59) 1 0}, {i := .load 61 (.t 60) 0}, {i := .call 62 k_slices_Clone_of_bool [(.t 61)] none}, {i := .bsl 63 7 1 1 (.k (.lst 1 [])) [(0, (.t 62))]}, {i := .app 64 8 1 (.t 56) (.t 63)}, {i := .fad 65 (.t 14) 1 0}, {i := .store (.t 65) (.t 64) 0}] [[0, 2, 3, 4, 5, 6, 7, 1, 8, 9, 10, 11]]))
def c_queue_Trace : C :=
(.seq (.rg 0 false [] [{i := .box 5 0 (.t 0) 6}, {i := .box 6 1 (.t 1) 0}, {i := .alloc 10 2 [(.r 3 1), (.r 4 1)]}, {i := .mv 11 (.c (.d true (.int .i64 0)))}] [])
 (.seq (.rg 1 false [] [{i := .load 17 (.t 5) 6}, {i := .load 18 (.t 6) 0}, {i := .mv 19 (.t 2)}, {i := .call 20 k_queue_Chain [(.t 17), (.t 18), (.t 19)] none}, {i := .mv 16 (.t 20)}, {i := .xt 21 (.t 16) 0}, {i := .xt 22 (.t 16) 1}, {i := .mv 12 (.t 21)}, {i := .mv 13 (.t 22)}] [])
 (.seq (.seq (.rg 2 false [] [{i := .mv 23 (.t 13)}, {i := .bin 24 .neq (.t 23) (.c (.d true (.int .i64 0)))}] [])
 (.cond (.t 24) (.seq (.rg 3 false [] [{i := .bld 25 [(.n 1), (.n 1)] []}, {i := .mv 26 (.t 13)}, {i := .store (.t 10) (.t 25) 3}, {i := .mv 11 (.t 26)}] [])
 .ret) .skip))
 (.seq (.seq c_queue_Trace_p1
 (.cond (.t 39) (.seq (.rg 5 false [] [{i := .bld 40 [(.n 1), (.n 1)] []}, {i := .store (.t 10) (.t 40) 3}, {i := .mv 11 (.c (.d true (.int .i64 2)))}] [])
 .ret) .skip))
 (.seq (.seq (.rg 6 false [] [{i := .mv 41 (.t 12)}, {i := .len 42 (.t 41)}, {i := .bin 43 .geq (.t 42) (.c (.d true (.int .i64 100)))}] [])
 (.cond (.t 43) (.seq (.rg 7 false [] [{i := .bld 44 [(.n 1), (.n 1)] []}, {i := .store (.t 10) (.t 44) 3}, {i := .mv 11 (.c (.d true (.int .i64 4)))}] [])
 .ret) .skip))
 (.seq (.rg 8 false [] [{i := .mv 45 (.t 3)}, {i := .call 46 k_slices_Clone_of_bool [(.t 45)] none}, {i := .mv 47 (.t 4)}, {i := .call 48 k_slices_Clone_of_bool [(.t 47)] none}, {i := .bsl 49 5 1 1 (.k (.lst 1 [])) [(0, (.t 48))]}, {i := .bld 50 [(.n 1), (.n 1)] [(0, 0, (.t 46)), (1, 0, (.t 49))]}, {i := .alloc 14 6 [(.n 1), (.n 1)]}, {i := .store (.t 14) (.t 50) 3}] [])
 (.seq (.seq (.rg 9 false [] [{i := .load 51 (.t 6) 0}, {i := .mv 52 (.t 2)}, {i := .call 53 k_queue_chain [(.t 51), (.t 52)] (some 41)}] [])
 (.block 0 c_queue_Trace_r1))
 (.seq (.rg 12 false [] [{i := .load 66 (.t 14) 3}, {i := .store (.t 10) (.t 66) 3}, {i := .mv 11 (.c (.d true (.int .i64 0)))}] [])
 .ret))))))))
def n_queue_Trace : Fn := ⟨c_queue_Trace, [.c 10 3, .s 11], (some [false, false, false, false, false])⟩
def c_queue_Right_p1 : C :=
(.rg 9 false [] [{i := .fad 23 (.t 2) 1 0}, {i := .load 24 (.t 23) 0}, {i := .len 25 (.t 24)}, {i := .fad 26 (.t 7) 0 0}, {i := .load 27 (.t 26) 0}, {i := .call 28 k_clause_Check [(.t 25), (.t 27)] none}, {i := .bin 29 .neq (.t 28) (.c (.d true (.int .i64 0)))}, {i := .mv 30 (.t 29)}, ⟨(.fad 31 (.t 7) 1 0), (some (30, false))⟩, ⟨(.load 32 (.t 31) 0), (some (30, false))⟩, ⟨(.len 33 (.t 32)), (some (30, false))⟩, ⟨(.fad 34 (.t 2) 0 0), (some (30, false))⟩, ⟨(.load 35 (.t 34) 0), (some (30, false))⟩, ⟨(.bin 36 .neq (.t 33) (.t 35)), (some (30, false))⟩, {i := .pick 37 (.t 30) (.c (.d true (.bool true))) (.t 36)}, {i := .mv 38 (.t 37)}, ⟨(.fad 39 (.t 7) 2 0), (some (38, false))⟩, ⟨(.load 40 (.t 39) 0), (some (38, false))⟩, ⟨(.bin 41 .lss (.t 40) (.c (.d true (.int .i64 (-1))))), (some (38, false))⟩, {i := .pick 42 (.t 38) (.c (.d true (.bool true))) (.t 41)}, {i := .mv 43 (.t 42)}, ⟨(.fad 44 (.t 7) 2 0), (some (43, false))⟩, ⟨(.load 45 (.t 44) 0), (some (43, false))⟩, ⟨(.mv 46 (.t 6)), (some (43, false))⟩, ⟨(.bin 47 .geq (.t 45) (.t 46)), (some (43, false))⟩, {i := .pick 48 (.t 43) (.c (.d true (.bool true))) (.t 47)}] [])
def c_queue_Right_l1 : C :=
(.seq (.rg 7 false [] [{i := .bin 19 .lss (.t 18) (.t 17)}] [])
 (.seq (.cond (.t 19) .skip (.exit 0))
 (.seq (.block 1 (.seq (.rg 8 false [(.kill 1 2)] [{i := .mv 20 (.t 18)}, {i := .ix 21 (.t 16) (.t 18) 3}, {i := .load 22 (.t 21) 4}, {i := .alloc 7 1 [(.n 1), (.n 1), (.k (.int .i64 0))]}, {i := .mv 6 (.t 20)}, {i := .store (.t 7) (.t 22) 4}] [])
 (.seq c_queue_Right_p1
 (.cond (.t 48) (.seq (.rg 10 false [] [{i := .mv 4 (.c (.d true (.int .i64 8)))}] [])
 .ret) .skip))))
 (.rg 11 false [] [{i := .bin 49 .add (.t 18) (.c (.d true (.int .i64 1)))}, {i := .mv 18 (.t 49)}] []))))
def c_queue_Right : C :=
(.seq (.rg 0 false [] [{i := .box 2 0 (.t 0) 6}, {i := .mv 4 (.c (.d true (.int .i64 0)))}] [])
 (.seq (.seq (.rg 1 false [] [{i := .load 8 (.t 2) 6}, {i := .call 9 k_gates_Check [(.t 8)] none}, {i := .mv 5 (.t 9)}] [])
 (.seq (.rg 2 false [] [{i := .mv 10 (.t 5)}, {i := .bin 11 .neq (.t 10) (.c (.d true (.int .i64 0)))}] [])
 (.cond (.t 11) (.seq (.rg 3 false [] [{i := .mv 12 (.t 5)}, {i := .mv 4 (.t 12)}] [])
 .ret) .skip)))
 (.seq (.seq (.rg 4 false [] [{i := .mv 13 (.t 1)}, {i := .len 14 (.t 13)}, {i := .bin 15 .gtr (.t 14) (.c (.d true (.int .i64 1000)))}] [])
 (.cond (.t 15) (.seq (.rg 5 false [] [{i := .mv 4 (.c (.d true (.int .i64 4)))}] [])
 .ret) .skip))
 (.seq (.seq (.rg 6 false [] [{i := .mv 16 (.t 1)}, {i := .len 17 (.t 16)}, {i := .mv 18 (.c (.d true (.int .i64 0)))}] [])
 (.block 0 (.loop c_queue_Right_l1)))
 (.seq (.rg 12 false [] [{i := .mv 4 (.c (.d true (.int .i64 0)))}] [])
 .ret)))))
def n_queue_Right : Fn := ⟨c_queue_Right, [.s 4], (some [false, false])⟩
def c_ref13_Same_l1 : C :=
(.seq (.seq (.rg 4 false [] [{i := .mv 11 (.t 5)}, {i := .mv 12 (.t 0)}, {i := .len 13 (.t 12)}, {i := .bin 14 .lss (.t 11) (.t 13)}] [])
 (.cond (.t 14) .skip (.exit 0)))
 (.seq (.block 1 (.seq (.rg 6 true [] [{i := .mv 17 (.t 0)}, {i := .mv 18 (.t 5)}, {i := .ix 19 (.t 17) (.t 18) 1}, {i := .load 20 (.t 19) 0}, {i := .mv 21 (.t 1)}, {i := .mv 22 (.t 5)}, {i := .ix 23 (.t 21) (.t 22) 1}, {i := .load 24 (.t 23) 0}, {i := .bin 25 .neq (.t 20) (.t 24)}] [])
 (.cond (.t 25) (.seq (.rg 7 false [] [{i := .mv 4 (.c (.d true (.bool false)))}] [])
 .ret) .skip)))
 (.rg 5 false [] [{i := .mv 15 (.t 5)}, {i := .bin 16 .add (.t 15) (.c (.d true (.int .i64 1)))}, {i := .mv 5 (.t 16)}] [])))
def c_ref13_Same : C :=
(.seq (.rg 0 false [] [{i := .mv 4 (.c (.d true (.bool false)))}] [])
 (.seq (.seq (.rg 1 false [] [{i := .mv 6 (.t 0)}, {i := .len 7 (.t 6)}, {i := .mv 8 (.t 1)}, {i := .len 9 (.t 8)}, {i := .bin 10 .neq (.t 7) (.t 9)}] [])
 (.cond (.t 10) (.seq (.rg 2 false [] [{i := .mv 4 (.c (.d true (.bool false)))}] [])
 .ret) .skip))
 (.seq (.seq (.rg 3 false [] [{i := .mv 5 (.c (.d true (.int .i64 0)))}] [])
 (.block 0 (.loop c_ref13_Same_l1)))
 (.seq (.rg 8 false [] [{i := .mv 4 (.c (.d true (.bool true)))}] [])
 .ret))))
def n_ref13_Same : Fn := ⟨c_ref13_Same, [.s 4], (some [false, false])⟩
def c_ref06_Same_p1 : C :=
(.rg 1 false [] [{i := .fad 5 (.t 2) 0 0}, {i := .load 6 (.t 5) 0}, {i := .fad 7 (.t 3) 0 0}, {i := .load 8 (.t 7) 0}, {i := .call 9 k_ref04_Same [(.t 6), (.t 8)] none}, {i := .mv 10 (.t 9)}, ⟨(.fad 11 (.t 2) 1 0), (some (10, true))⟩, ⟨(.load 12 (.t 11) 0), (some (10, true))⟩, ⟨(.fad 13 (.t 3) 1 0), (some (10, true))⟩, ⟨(.load 14 (.t 13) 0), (some (10, true))⟩, ⟨(.call 15 k_ref06_SameAll [(.t 12), (.t 14)] none), (some (10, true))⟩, {i := .pick 16 (.t 10) (.t 15) (.c (.d true (.bool false)))}, {i := .mv 4 (.t 16)}] [])
def c_ref06_Same : C :=
(.seq (.rg 0 false [] [{i := .box 2 0 (.t 0) 3}, {i := .box 3 1 (.t 1) 3}, {i := .mv 4 (.c (.d true (.bool false)))}] [])
 (.seq c_ref06_Same_p1
 .ret))
def n_ref06_Same : Fn := ⟨c_ref06_Same, [.s 4], (some [false, false])⟩
def c_queue_Push_l1 : C :=
(.seq (.rg 10 false [] [{i := .bin 26 .lss (.t 25) (.t 24)}] [])
 (.seq (.cond (.t 26) .skip (.exit 0))
 (.seq (.block 1 (.seq (.rg 11 false [.kill 1 2] [{i := .mv 27 (.t 25)}, {i := .ix 28 (.t 23) (.t 25) 2}, {i := .load 29 (.t 28) 3}, {i := .alloc 9 1 [.k (.int .i64 0), .k (.int .i64 0)]}, {i := .mv 8 (.t 27)}, {i := .store (.t 9) (.t 29) 3}] [])
 (.seq (.rg 12 false [] [{i := .load 30 (.t 3) 3}, {i := .load 31 (.t 9) 3}, {i := .call 32 k_queue_order [(.t 30), (.t 31)] none}, {i := .bin 33 .lss (.t 32) (.c (.d true (.int .i64 0)))}] [])
 (.cond (.t 33) (.seq (.rg 13 false [] [{i := .mv 34 (.t 8)}, {i := .mv 7 (.t 34)}] [])
 (.exit 0)) .skip))))
 (.rg 14 false [] [{i := .bin 35 .add (.t 25) (.c (.d true (.int .i64 1)))}, {i := .mv 25 (.t 35)}] []))))
def c_queue_Push : C :=
(.seq (.rg 0 false [] [{i := .box 3 0 (.t 1) 3}, {i := .mv 4 (.c (.nil 2))}, {i := .mv 5 (.c (.d true (.int .i64 0)))}] [])
 (.seq .skip (.seq (.seq (.rg 1 false [] [{i := .mv 10 (.t 0)}, {i := .call 11 k_queue_Check [(.t 10)] none}, {i := .mv 6 (.t 11)}] [])
 (.seq (.rg 2 false [] [{i := .mv 12 (.t 6)}, {i := .bin 13 .neq (.t 12) (.c (.d true (.int .i64 0)))}] [])
 (.cond (.t 13) (.seq (.rg 3 false [] [{i := .mv 14 (.t 6)}, {i := .mv 4 (.c (.nil 2))}, {i := .mv 5 (.t 14)}] [])
 .ret) .skip)))
 (.seq (.seq (.rg 4 false [] [{i := .load 15 (.t 3) 3}, {i := .call 16 k_queue_may [(.t 15)] none}, {i := .un 17 .not (.t 16)}] [])
 (.cond (.t 17) (.seq (.rg 5 false [] [{i := .mv 4 (.c (.nil 2))}, {i := .mv 5 (.c (.d true (.int .i64 2)))}] [])
 .ret) .skip))
 (.seq (.seq (.rg 6 false [] [{i := .mv 18 (.t 0)}, {i := .len 19 (.t 18)}, {i := .bin 20 .eql (.t 19) (.c (.d true (.int .i64 1000)))}] [])
 (.cond (.t 20) (.seq (.rg 7 false [] [{i := .mv 4 (.c (.nil 2))}, {i := .mv 5 (.c (.d true (.int .i64 4)))}] [])
 .ret) .skip))
 (.seq (.rg 8 false [] [{i := .mv 21 (.t 0)}, {i := .len 22 (.t 21)}, {i := .mv 7 (.t 22)}] [])
 (.seq .skip
 (.seq (.seq (.rg 9 false [] [{i := .mv 23 (.t 0)}, {i := .len 24 (.t 23)}, {i := .mv 25 (.c (.d true (.int .i64 0)))}] [])
 (.block 0 (.loop c_queue_Push_l1)))
 (.seq (.rg 15 true [] [{i := .mv 36 (.t 0)}, {i := .call 37 k_slices_Clone_of_api_Wait [(.t 36)] (some 40)}, {i := .mv 38 (.t 7)}, {i := .load 39 (.t 3) 3}, {i := .bsl 40 2 2 1 (.k (.agg [(.int .i64 0), (.int .i64 0)])) [(0, (.t 39))]}, {i := .call 41 k_slices_Insert_of_api_Wait [(.t 37), (.t 38), (.t 40)] (some 44)}, {i := .mv 4 (.t 41)}, {i := .mv 5 (.c (.d true (.int .i64 0)))}] [[0, 2, 3, 1, 4, 5, 6, 7], [0, 2, 3, 4, 1, 5, 6, 7]])
 .ret)))))))))
def n_queue_Push : Fn := ⟨c_queue_Push, [.s 4, .s 5], (some [false, false])⟩
def c_queue_Pop : C :=
(.seq (.rg 0 false [] [{i := .alloc 2 0 [.k (.int .i64 0), .k (.int .i64 0)]}, {i := .mv 3 (.c (.nil 2))}, {i := .mv 4 (.c (.d true (.int .i64 0)))}] [])
 (.seq (.seq (.rg 1 false [] [{i := .mv 6 (.t 0)}, {i := .call 7 k_queue_Check [(.t 6)] none}, {i := .mv 5 (.t 7)}] [])
 (.seq (.rg 2 false [] [{i := .mv 8 (.t 5)}, {i := .bin 9 .neq (.t 8) (.c (.d true (.int .i64 0)))}] [])
 (.cond (.t 9) (.seq (.rg 3 false [] [{i := .bld 10 [.k (.int .i64 0), .k (.int .i64 0)] []}, {i := .mv 11 (.t 5)}, {i := .store (.t 2) (.t 10) 3}, {i := .mv 3 (.c (.nil 2))}, {i := .mv 4 (.t 11)}] [])
 .ret) .skip)))
 (.seq (.seq (.rg 4 false [] [{i := .mv 12 (.t 0)}, {i := .len 13 (.t 12)}, {i := .bin 14 .eql (.t 13) (.c (.d true (.int .i64 0)))}] [])
 (.cond (.t 14) (.seq (.rg 5 false [] [{i := .bld 15 [.k (.int .i64 0), .k (.int .i64 0)] []}, {i := .store (.t 2) (.t 15) 3}, {i := .mv 3 (.c (.nil 2))}, {i := .mv 4 (.c (.d true (.int .i64 6)))}] [])
 .ret) .skip))
 (.seq (.rg 6 true [] [{i := .mv 16 (.t 0)}, {i := .ix 17 (.t 16) (.c (.d true (.int .i64 0))) 2}, {i := .load 18 (.t 17) 3}, {i := .mv 19 (.t 0)}, {i := .slc 20 2 (.t 19) (some (.c (.d true (.int .i64 1)))) none none}, {i := .call 21 k_slices_Clone_of_api_Wait [(.t 20)] none}, {i := .store (.t 2) (.t 18) 3}, {i := .mv 3 (.t 21)}, {i := .mv 4 (.c (.d true (.int .i64 0)))}] [[0, 1, 3, 4, 5, 2, 6, 7, 8], [0, 3, 4, 5, 1, 2, 6, 7, 8]])
 .ret))))
def n_queue_Pop : Fn := ⟨c_queue_Pop, [.c 2 3, .s 3, .s 4], (some [false])⟩
def c_queue_Check_l1 : C :=
(.seq (.rg 4 false [] [{i := .bin 11 .lss (.t 10) (.t 9)}] [])
 (.seq (.cond (.t 11) .skip (.exit 0))
 (.seq (.block 1 (.seq (.rg 5 false [(.kill 0 1)] [{i := .ix 12 (.t 8) (.t 10) 2}, {i := .load 13 (.t 12) 3}, {i := .alloc 4 0 [(.k (.int .i64 0)), (.k (.int .i64 0))]}, {i := .store (.t 4) (.t 13) 3}] [])
 (.seq (.rg 6 false [] [{i := .load 14 (.t 4) 3}, {i := .call 15 k_queue_may [(.t 14)] none}, {i := .un 16 .not (.t 15)}] [])
 (.cond (.t 16) (.seq (.rg 7 false [] [{i := .mv 2 (.c (.d true (.int .i64 8)))}] [])
 .ret) .skip))))
 (.rg 8 false [] [{i := .bin 17 .add (.t 10) (.c (.d true (.int .i64 1)))}, {i := .mv 10 (.t 17)}] []))))
def c_queue_Check_p1 : C :=
(.rg 9 false [] [{i := .mv 18 (.t 0)}, {i := .call 19 k_slices_IsSortedFunc_of_api_Wait [(.t 18), (.c (.cl k_queue_order []))] none}, {i := .un 20 .not (.t 19)}] [])
def c_queue_Check : C :=
(.seq (.rg 0 false [] [{i := .mv 2 (.c (.d true (.int .i64 0)))}] [])
 (.seq (.seq (.rg 1 false [] [{i := .mv 5 (.t 0)}, {i := .len 6 (.t 5)}, {i := .bin 7 .gtr (.t 6) (.c (.d true (.int .i64 1000)))}] [])
 (.cond (.t 7) (.seq (.rg 2 false [] [{i := .mv 2 (.c (.d true (.int .i64 4)))}] [])
 .ret) .skip))
 (.seq (.seq (.rg 3 false [] [{i := .mv 8 (.t 0)}, {i := .len 9 (.t 8)}, {i := .mv 10 (.c (.d true (.int .i64 0)))}] [])
 (.block 0 (.loop c_queue_Check_l1)))
 (.seq (.seq c_queue_Check_p1
 (.cond (.t 20) (.seq (.rg 10 false [] [{i := .mv 2 (.c (.d true (.int .i64 8)))}] [])
 .ret) .skip))
 (.seq (.rg 11 false [] [{i := .mv 2 (.c (.d true (.int .i64 0)))}] [])
 .ret)))))
def n_queue_Check : Fn := ⟨c_queue_Check, [.s 2], (some [false])⟩
def c_ref38_Same_p1 : C :=
(.rg 6 true [] [{i := .mv 17 (.t 0)}, {i := .mv 18 (.t 5)}, {i := .ix 19 (.t 17) (.t 18) 2}, {i := .load 20 (.t 19) 3}, {i := .mv 21 (.t 1)}, {i := .mv 22 (.t 5)}, {i := .ix 23 (.t 21) (.t 22) 2}, {i := .load 24 (.t 23) 3}, {i := .eqs 25 true [true, true] (.t 20) (.t 24)}] [])
def c_ref38_Same_l1 : C :=
(.seq (.seq (.rg 4 false [] [{i := .mv 11 (.t 5)}, {i := .mv 12 (.t 0)}, {i := .len 13 (.t 12)}, {i := .bin 14 .lss (.t 11) (.t 13)}] [])
 (.cond (.t 14) .skip (.exit 0)))
 (.seq (.block 1 (.seq c_ref38_Same_p1
 (.cond (.t 25) (.seq (.rg 7 false [] [{i := .mv 4 (.c (.d true (.bool false)))}] [])
 .ret) .skip)))
 (.rg 5 false [] [{i := .mv 15 (.t 5)}, {i := .bin 16 .add (.t 15) (.c (.d true (.int .i64 1)))}, {i := .mv 5 (.t 16)}] [])))
def c_ref38_Same : C :=
(.seq (.rg 0 false [] [{i := .mv 4 (.c (.d true (.bool false)))}] [])
 (.seq (.seq (.rg 1 false [] [{i := .mv 6 (.t 0)}, {i := .len 7 (.t 6)}, {i := .mv 8 (.t 1)}, {i := .len 9 (.t 8)}, {i := .bin 10 .neq (.t 7) (.t 9)}] [])
 (.cond (.t 10) (.seq (.rg 2 false [] [{i := .mv 4 (.c (.d true (.bool false)))}] [])
 .ret) .skip))
 (.seq (.seq (.rg 3 false [] [{i := .mv 5 (.c (.d true (.int .i64 0)))}] [])
 (.block 0 (.loop c_ref38_Same_l1)))
 (.seq (.rg 8 false [] [{i := .mv 4 (.c (.d true (.bool true)))}] [])
 .ret))))
def n_ref38_Same : Fn := ⟨c_ref38_Same, [.s 4], (some [false, false])⟩
def c_law38_alive_p1 : C :=
(.rg 4 false [] [{i := .mv 29 (.t 2)}, {i := .bin 30 .eql (.t 29) (.c (.d true (.int .i64 0)))}, {i := .mv 31 (.t 30)}, ⟨(.mv 32 (.t 4)), (some (31, true))⟩, {i := .pick 33 (.t 31) (.t 32) (.c (.d true (.bool false)))}, {i := .mv 34 (.t 33)}, ⟨(.mv 35 (.t 3)), (some (34, true))⟩, ⟨(.bld 36 [(.k (.int .i64 0)), (.k (.int .i64 0))] [(0, 0, (.c (.d true (.int .i64 1))))]), (some (34, true))⟩, ⟨(.bld 37 [(.k (.int .i64 0)), (.k (.int .i64 0))] [(0, 0, (.c (.d true (.int .i64 1)))), (1, 0, (.c (.d true (.int .i64 3))))]), (some (34, true))⟩, ⟨(.bld 38 [(.k (.int .i64 0)), (.k (.int .i64 0))] [(0, 0, (.c (.d true (.int .i64 2)))), (1, 0, (.c (.d true (.int .i64 1))))]), (some (34, true))⟩, ⟨(.bsl 39 2 2 3 (.k (.agg [(.int .i64 0), (.int .i64 0)])) [(0, (.t 36)), (1, (.t 37)), (2, (.t 38))]), (some (34, true))⟩, ⟨(.call 40 k_ref38_Same [(.t 35), (.t 39)] none), (some (34, true))⟩, {i := .pick 41 (.t 34) (.t 40) (.c (.d true (.bool false)))}, {i := .mv 42 (.t 41)}, ⟨(.mv 43 (.t 6)), (some (42, true))⟩, ⟨(.bin 44 .eql (.t 43) (.c (.d true (.int .i64 0)))), (some (42, true))⟩, {i := .pick 45 (.t 42) (.t 44) (.c (.d true (.bool false)))}, {i := .mv 46 (.t 45)}, ⟨(.mv 47 (.t 5)), (some (46, true))⟩, ⟨(.bsl 48 3 1 3 (.k (.int .i64 0)) [(0, (.c (.d true (.int .i64 2)))), (1, (.c (.d true (.int .i64 1)))), (2, (.c (.d true (.int .i64 0))))]), (some (46, true))⟩, ⟨(.call 49 k_ref13_Same [(.t 47), (.t 48)] none), (some (46, true))⟩, {i := .pick 50 (.t 46) (.t 49) (.c (.d true (.bool false)))}, {i := .mv 0 (.t 50)}] [])
def c_law38_alive : C :=
(.seq (.rg 0 false [] [{i := .mv 0 (.c (.d true (.bool false)))}] [])
 (.seq (.rg 1 false [] [{i := .bld 8 [(.k (.int .i64 0)), (.k (.int .i64 0))] [(0, 0, (.c (.d true (.int .i64 2)))), (1, 0, (.c (.d true (.int .i64 1))))]}, {i := .bld 9 [(.k (.int .i64 0)), (.k (.int .i64 0))] [(0, 0, (.c (.d true (.int .i64 1))))]}, {i := .bld 10 [(.k (.int .i64 0)), (.k (.int .i64 0))] [(0, 0, (.c (.d true (.int .i64 1)))), (1, 0, (.c (.d true (.int .i64 3))))]}, {i := .bsl 11 0 2 3 (.k (.agg [(.int .i64 0), (.int .i64 0)])) [(0, (.t 8)), (1, (.t 9)), (2, (.t 10))]}, {i := .call 12 k_law38_pushed [(.t 11)] none}, {i := .mv 7 (.t 12)}, {i := .xt 13 (.t 7) 0}, {i := .xt 14 (.t 7) 1}, {i := .mv 1 (.t 13)}, {i := .mv 2 (.t 14)}] [])
 (.seq (.rg 2 false [] [{i := .mv 16 (.t 1)}, {i := .call 17 k_law38_popped [(.t 16)] none}, {i := .mv 15 (.t 17)}, {i := .xt 18 (.t 15) 0}, {i := .xt 19 (.t 15) 1}, {i := .mv 3 (.t 18)}, {i := .mv 4 (.t 19)}] [])
 (.seq (.rg 3 false [] [{i := .bld 21 [(.k (.int .i64 0)), (.n 2), (.n 2), (.n 1), (.n 1)] []}, {i := .bld 22 [(.n 1), (.n 1), (.k (.int .i64 0))] [(2, 0, (.c (.d true (.int .i64 (-1)))))]}, {i := .bld 23 [(.n 1), (.n 1), (.k (.int .i64 0))] []}, {i := .bld 24 [(.n 1), (.n 1), (.k (.int .i64 0))] [(2, 0, (.c (.d true (.int .i64 1))))]}, {i := .bsl 25 1 3 3 (.k (.agg [(.lst 1 []), (.lst 1 []), (.int .i64 0)])) [(0, (.t 22)), (1, (.t 23)), (2, (.t 24))]}, {i := .call 26 k_queue_Chain [(.t 21), (.t 25), (.c (.d true (.int .i64 2)))] none}, {i := .mv 20 (.t 26)}, {i := .xt 27 (.t 20) 0}, {i := .xt 28 (.t 20) 1}, {i := .mv 5 (.t 27)}, {i := .mv 6 (.t 28)}] [])
 (.seq c_law38_alive_p1
 .ret)))))
def n_law38_alive : Fn := ⟨c_law38_alive, [.s 0], (some [])⟩
def c_law38_pushed_l1 : C :=
(.seq (.seq (.rg 3 false [] [{i := .mv 8 (.t 5)}, {i := .mv 9 (.t 0)}, {i := .len 10 (.t 9)}, {i := .bin 11 .lss (.t 8) (.t 10)}] [])
 (.cond (.t 11) .skip (.exit 0)))
 (.seq (.block 1 (.seq (.rg 5 false [] [{i := .mv 15 (.t 4)}, {i := .mv 16 (.t 0)}, {i := .mv 17 (.t 5)}, {i := .ix 18 (.t 16) (.t 17) 2}, {i := .load 19 (.t 18) 3}, {i := .call 20 k_queue_Push [(.t 15), (.t 19)] none}, {i := .mv 14 (.t 20)}, {i := .xt 21 (.t 14) 0}, {i := .xt 22 (.t 14) 1}, {i := .mv 6 (.t 21)}, {i := .mv 7 (.t 22)}] [])
 (.seq (.seq (.rg 6 false [] [{i := .mv 23 (.t 7)}, {i := .bin 24 .neq (.t 23) (.c (.d true (.int .i64 0)))}] [])
 (.cond (.t 24) (.seq (.rg 7 false [] [{i := .mv 25 (.t 7)}, {i := .mv 2 (.c (.nil 2))}, {i := .mv 3 (.t 25)}] [])
 .ret) .skip))
 (.rg 8 false [] [{i := .mv 26 (.t 6)}, {i := .mv 4 (.t 26)}] []))))
 (.rg 4 false [] [{i := .mv 12 (.t 5)}, {i := .bin 13 .add (.t 12) (.c (.d true (.int .i64 1)))}, {i := .mv 5 (.t 13)}] [])))
def c_law38_pushed : C :=
(.seq (.rg 0 false [] [{i := .mv 2 (.c (.nil 2))}, {i := .mv 3 (.c (.d true (.int .i64 0)))}] [])
 (.seq (.rg 1 false [] [{i := .mv 4 (.c (.nil 2))}] [])
 (.seq (.seq (.rg 2 false [] [{i := .mv 5 (.c (.d true (.int .i64 0)))}] [])
 (.block 0 (.loop c_law38_pushed_l1)))
 (.seq (.rg 9 false [] [{i := .mv 27 (.t 4)}, {i := .mv 2 (.t 27)}, {i := .mv 3 (.c (.d true (.int .i64 0)))}] [])
 .ret))))
def n_law38_pushed : Fn := ⟨c_law38_pushed, [.s 2, .s 3], (some [false])⟩
def c_law38_popped_l1 : C :=
(.seq (.seq (.rg 3 false [] [{i := .mv 9 (.t 5)}, {i := .bin 10 .leq (.t 9) (.c (.d true (.int .i64 2000)))}] [])
 (.cond (.t 10) .skip (.exit 0)))
 (.seq (.block 1 (.seq (.rg 5 false [.kill 1 2] [{i := .mv 14 (.t 0)}, {i := .call 15 k_queue_Pop [(.t 14)] none}, {i := .mv 13 (.t 15)}, {i := .xt 16 (.t 13) 0}, {i := .xt 17 (.t 13) 1}, {i := .xt 18 (.t 13) 2}, {i := .alloc 6 1 [.k (.int .i64 0), .k (.int .i64 0)]}, {i := .store (.t 6) (.t 16) 3}, {i := .mv 7 (.t 17)}, {i := .mv 8 (.t 18)}] [])
 (.seq (.seq (.rg 6 false [] [{i := .mv 19 (.t 8)}, {i := .bin 20 .neq (.t 19) (.c (.d true (.int .i64 0)))}] [])
 (.cond (.t 20) (.seq (.rg 7 false [] [{i := .mv 21 (.t 4)}, {i := .mv 22 (.t 8)}, {i := .bin 23 .eql (.t 22) (.c (.d true (.int .i64 6)))}, {i := .mv 2 (.t 21)}, {i := .mv 3 (.t 23)}] [])
 .ret) .skip))
 (.rg 8 false [.kill 2 3] [{i := .mv 24 (.t 4)}, {i := .load 25 (.t 6) 3}, {i := .bsl 26 2 2 1 (.k (.agg [(.int .i64 0), (.int .i64 0)])) [(0, (.t 25))]}, {i := .app 27 3 2 (.t 24) (.t 26)}, {i := .mv 28 (.t 7)}, {i := .mv 4 (.t 27)}, {i := .mv 0 (.t 28)}] []))))
 (.rg 4 false [] [{i := .mv 11 (.t 5)}, {i := .bin 12 .add (.t 11) (.c (.d true (.int .i64 1)))}, {i := .mv 5 (.t 12)}] [])))
def c_law38_popped : C :=
(.seq (.rg 0 false [] [{i := .mv 2 (.c (.nil 2))}, {i := .mv 3 (.c (.d true (.bool false)))}] [])
 (.seq (.rg 1 false [] [{i := .nilr 4 0 2}] [])
 (.seq (.seq (.rg 2 false [] [{i := .mv 5 (.c (.d true (.int .i64 0)))}] [])
 (.block 0 (.loop c_law38_popped_l1)))
 (.seq (.rg 9 false [] [{i := .mv 29 (.t 4)}, {i := .mv 2 (.t 29)}, {i := .mv 3 (.c (.d true (.bool false)))}] [])
 .ret))))
def n_law38_popped : Fn := ⟨c_law38_popped, [.s 2, .s 3], (some [false])⟩
def c_slices_Collect_of_int : C :=
(.seq (.rg 0 false [] [{i := .mv 2 (.c (.nil 1))}] [])
 (.seq (.rg 1 false [] [{i := .mv 3 (.t 0)}, {i := .call 4 k_slices_AppendSeq_of_int [(.c (.nil 1)), (.t 3)] none}, {i := .mv 2 (.t 4)}] [])
 .ret))
def n_slices_Collect_of_int : Fn := ⟨c_slices_Collect_of_int, [.s 2], none⟩
def c_queue_chain : C :=
(.seq (.rg 0 false [] [{i := .box 2 0 (.t 0) 0}, {i := .box 3 1 (.t 1) 0}, {i := .mv 4 (.c .u)}] [])
 (.seq (.rg 1 false [] [{i := .fn 5 k_queue_chain_1 [(.t 3), (.t 2)]}, {i := .mv 4 (.t 5)}] [])
 .ret))
def n_queue_chain : Fn := ⟨c_queue_chain, [.s 4], none⟩
def c_gates_Check_p1 : C :=
(.rg 3 false [] [{i := .fad 11 (.t 1) 0 0}, {i := .load 12 (.t 11) 0}, {i := .bin 13 .gtr (.t 12) (.c (.d true (.int .i64 1000)))}, {i := .mv 14 (.t 13)}, ⟨(.load 15 (.t 1) 6), (some (14, false))⟩, ⟨(.call 16 k_gates_starts [(.t 15)] none), (some (14, false))⟩, ⟨(.ixa 17 (.t 16) (.c (.d true (.int .i64 3))) 4 0), (some (14, false))⟩, ⟨(.bin 18 .sub (.t 17) (.c (.d true (.int .i64 1)))), (some (14, false))⟩, ⟨(.bin 19 .gtr (.t 18) (.c (.d true (.int .i64 1000)))), (some (14, false))⟩, {i := .pick 20 (.t 14) (.c (.d true (.bool true))) (.t 19)}, {i := .mv 21 (.t 20)}, ⟨(.fad 22 (.t 1) 3 0), (some (21, false))⟩, ⟨(.load 23 (.t 22) 0), (some (21, false))⟩, ⟨(.len 24 (.t 23)), (some (21, false))⟩, ⟨(.fad 25 (.t 1) 4 0), (some (21, false))⟩, ⟨(.load 26 (.t 25) 0), (some (21, false))⟩, ⟨(.len 27 (.t 26)), (some (21, false))⟩, ⟨(.mx 28 (.t 24) [(.t 27)]), (some (21, false))⟩, ⟨(.bin 29 .gtr (.t 28) (.c (.d true (.int .i64 100)))), (some (21, false))⟩, {i := .pick 30 (.t 21) (.c (.d true (.bool true))) (.t 29)}] [])
def c_gates_Check_p2 : C :=
(.rg 8 false [] [{i := .fad 35 (.t 1) 3 0}, {i := .load 36 (.t 35) 0}, {i := .load 37 (.t 4) 0}, {i := .call 38 k_slices_ContainsFunc_of_int [(.t 36), (.t 37)] none}, {i := .mv 39 (.t 38)}, ⟨(.fad 40 (.t 1) 4 0), (some (39, false))⟩, ⟨(.load 41 (.t 40) 0), (some (39, false))⟩, ⟨(.load 42 (.t 4) 0), (some (39, false))⟩, ⟨(.call 43 k_slices_ContainsFunc_of_int [(.t 41), (.t 42)] none), (some (39, false))⟩, {i := .pick 44 (.t 39) (.c (.d true (.bool true))) (.t 43)}, {i := .mv 45 (.t 44)}, ⟨(.fad 46 (.t 1) 1 0), (some (45, false))⟩, ⟨(.load 47 (.t 46) 0), (some (45, false))⟩, ⟨(.mv 48 (.t 5)), (some (45, false))⟩, ⟨(.call 49 k_slices_ContainsFunc_of_api_Latch [(.t 47), (.t 48)] none), (some (45, false))⟩, {i := .pick 50 (.t 45) (.c (.d true (.bool true))) (.t 49)}] [])
def c_gates_Check_p3 : C :=
(.rg 13 false [] [{i := .fad 59 (.t 7) 1 0}, {i := .load 60 (.t 59) 0}, {i := .bin 61 .lss (.t 60) (.c (.d true (.int .i64 0)))}, {i := .mv 62 (.t 61)}, ⟨(.fad 63 (.t 7) 0 0), (some (62, false))⟩, ⟨(.load 64 (.t 63) 0), (some (62, false))⟩, ⟨(.fad 65 (.t 7) 1 0), (some (62, false))⟩, ⟨(.load 66 (.t 65) 0), (some (62, false))⟩, ⟨(.bin 67 .lss (.t 64) (.t 66)), (some (62, false))⟩, {i := .pick 68 (.t 62) (.c (.d true (.bool true))) (.t 67)}, {i := .mv 69 (.t 68)}, ⟨(.fad 70 (.t 7) 0 0), (some (69, false))⟩, ⟨(.load 71 (.t 70) 0), (some (69, false))⟩, ⟨(.ixb 72 (.t 3) (.c (.d true (.int .i64 2))) 4 1), (some (69, false))⟩, ⟨(.load 73 (.t 72) 0), (some (69, false))⟩, ⟨(.mv 74 (.t 6)), (some (69, false))⟩, ⟨(.bin 75 .add (.t 73) (.t 74)), (some (69, false))⟩, ⟨(.bin 76 .mul (.c (.d true (.int .i64 2))) (.t 75)), (some (69, false))⟩, ⟨(.bin 77 .geq (.t 71) (.t 76)), (some (69, false))⟩, {i := .pick 78 (.t 69) (.c (.d true (.bool true))) (.t 77)}] [])
def c_gates_Check_l1 : C :=
(.seq (.rg 11 false [] [{i := .bin 55 .lss (.t 54) (.t 53)}] [])
 (.seq (.cond (.t 55) .skip (.exit 0))
 (.seq (.block 1 (.seq (.rg 12 false [(.kill 3 4)] [{i := .mv 56 (.t 54)}, {i := .ix 57 (.t 52) (.t 54) 2}, {i := .load 58 (.t 57) 3}, {i := .alloc 7 3 [(.k (.int .i64 0)), (.k (.int .i64 0))]}, {i := .mv 6 (.t 56)}, {i := .store (.t 7) (.t 58) 3}] [])
 (.seq c_gates_Check_p3
 (.cond (.t 78) (.seq (.rg 14 false [] [{i := .mv 2 (.c (.d true (.int .i64 8)))}] [])
 .ret) .skip))))
 (.rg 15 false [] [{i := .bin 79 .add (.t 54) (.c (.d true (.int .i64 1)))}, {i := .mv 54 (.t 79)}] []))))
def c_gates_Check : C :=
(.seq (.rg 0 false [] [{i := .box 1 0 (.t 0) 6}, {i := .mv 2 (.c (.d true (.int .i64 0)))}] [])
 (.seq (.seq (.rg 1 false [] [{i := .fad 8 (.t 1) 0 0}, {i := .load 9 (.t 8) 0}, {i := .bin 10 .lss (.t 9) (.c (.d true (.int .i64 0)))}] [])
 (.cond (.t 10) (.seq (.rg 2 false [] [{i := .mv 2 (.c (.d true (.int .i64 8)))}] [])
 .ret) .skip))
 (.seq (.seq c_gates_Check_p1
 (.cond (.t 30) (.seq (.rg 4 false [] [{i := .mv 2 (.c (.d true (.int .i64 4)))}] [])
 .ret) .skip))
 (.seq (.rg 5 false [] [{i := .load 31 (.t 1) 6}, {i := .call 32 k_gates_starts [(.t 31)] none}, {i := .alloc 3 1 [(.k (.int .i64 0)), (.k (.int .i64 0)), (.k (.int .i64 0)), (.k (.int .i64 0))]}, {i := .store (.t 3) (.t 32) 5}] [])
 (.seq (.rg 6 false [] [{i := .fn 33 k_gates_Check_1 [(.t 3)]}, {i := .alloc 4 2 [.u]}, {i := .store (.t 4) (.t 33) 0}] [])
 (.seq (.rg 7 false [] [{i := .fn 34 k_gates_Check_2 [(.t 4)]}, {i := .mv 5 (.t 34)}] [])
 (.seq (.seq c_gates_Check_p2
 (.cond (.t 50) (.seq (.rg 9 false [] [{i := .mv 2 (.c (.d true (.int .i64 8)))}] [])
 .ret) .skip))
 (.seq (.seq (.rg 10 false [] [{i := .fad 51 (.t 1) 2 0}, {i := .load 52 (.t 51) 0}, {i := .len 53 (.t 52)}, {i := .mv 54 (.c (.d true (.int .i64 0)))}] [])
 (.block 0 (.loop c_gates_Check_l1)))
 (.seq (.rg 16 false [] [{i := .mv 2 (.c (.d true (.int .i64 0)))}] [])
 .ret)))))))))
def n_gates_Check : Fn := ⟨c_gates_Check, [.s 2], (some [false])⟩
def c_clause_Check_p1 : C :=
(.rg 1 false [] [{i := .mv 7 (.t 0)}, {i := .bin 8 .lss (.t 7) (.c (.d true (.int .i64 0)))}, {i := .mv 9 (.t 8)}, ⟨(.mv 10 (.t 0)), (some (9, false))⟩, ⟨(.bin 11 .gtr (.t 10) (.c (.d true (.int .i64 4000)))), (some (9, false))⟩, {i := .pick 12 (.t 9) (.c (.d true (.bool true))) (.t 11)}] [])
def c_clause_Check_p2 : C :=
(.rg 6 false [] [{i := .mv 20 (.t 0)}, {i := .mv 21 (.t 6)}, {i := .call 22 k_clause_known [(.t 20), (.t 21)] none}, {i := .un 23 .not (.t 22)}, {i := .mv 24 (.t 23)}, ⟨(.mv 25 (.t 5)), (some (24, false))⟩, ⟨(.bin 26 .gtr (.t 25) (.c (.d true (.int .i64 0)))), (some (24, false))⟩, ⟨(.mv 27 (.t 26)), (some (24, false))⟩, ⟨(.mv 28 (.t 6)), (some (27, true))⟩, ⟨(.mv 29 (.t 1)), (some (27, true))⟩, ⟨(.mv 30 (.t 5)), (some (27, true))⟩, ⟨(.bin 31 .sub (.t 30) (.c (.d true (.int .i64 1)))), (some (27, true))⟩, ⟨(.ix 32 (.t 29) (.t 31) 1), (some (27, true))⟩, ⟨(.load 33 (.t 32) 0), (some (27, true))⟩, ⟨(.bin 34 .leq (.t 28) (.t 33)), (some (27, true))⟩, ⟨(.mv 35 (.t 34)), (some (27, true))⟩, ⟨(.mv 36 (.t 6)), (some (35, false))⟩, ⟨(.bin 37 .quo (.t 36) (.c (.d true (.int .i64 2)))), (some (35, false))⟩, ⟨(.mv 38 (.t 1)), (some (35, false))⟩, ⟨(.mv 39 (.t 5)), (some (35, false))⟩, ⟨(.bin 40 .sub (.t 39) (.c (.d true (.int .i64 1)))), (some (35, false))⟩, ⟨(.ix 41 (.t 38) (.t 40) 1), (some (35, false))⟩, ⟨(.load 42 (.t 41) 0), (some (35, false))⟩, ⟨(.bin 43 .quo (.t 42) (.c (.d true (.int .i64 2)))), (some (35, false))⟩, ⟨(.bin 44 .eql (.t 37) (.t 43)), (some (35, false))⟩, ⟨(.pick 45 (.t 35) (.c (.d true (.bool true))) (.t 44)), (some (27, true))⟩, ⟨(.pick 46 (.t 27) (.t 45) (.c (.d true (.bool false)))), (some (24, false))⟩, {i := .pick 47 (.t 24) (.c (.d true (.bool true))) (.t 46)}] [])
def c_clause_Check_l1 : C :=
(.seq (.rg 4 false [] [{i := .bin 16 .lss (.t 15) (.t 14)}] [])
 (.seq (.cond (.t 16) .skip (.exit 0))
 (.seq (.block 1 (.seq (.rg 5 false [] [{i := .mv 17 (.t 15)}, {i := .ix 18 (.t 13) (.t 15) 1}, {i := .load 19 (.t 18) 0}, {i := .mv 5 (.t 17)}, {i := .mv 6 (.t 19)}] [])
 (.seq c_clause_Check_p2
 (.cond (.t 47) (.seq (.rg 7 false [] [{i := .mv 4 (.c (.d true (.int .i64 8)))}] [])
 .ret) .skip))))
 (.rg 8 false [] [{i := .bin 48 .add (.t 15) (.c (.d true (.int .i64 1)))}, {i := .mv 15 (.t 48)}] []))))
def c_clause_Check : C :=
(.seq (.rg 0 false [] [{i := .mv 4 (.c (.d true (.int .i64 0)))}] [])
 (.seq (.seq c_clause_Check_p1
 (.cond (.t 12) (.seq (.rg 2 false [] [{i := .mv 4 (.c (.d true (.int .i64 2)))}] [])
 .ret) .skip))
 (.seq (.seq (.rg 3 false [] [{i := .mv 13 (.t 1)}, {i := .len 14 (.t 13)}, {i := .mv 15 (.c (.d true (.int .i64 0)))}] [])
 (.block 0 (.loop c_clause_Check_l1)))
 (.seq (.rg 9 false [] [{i := .mv 4 (.c (.d true (.int .i64 0)))}] [])
 .ret))))
def n_clause_Check : Fn := ⟨c_clause_Check, [.s 4], (some [false, false])⟩
def c_ref04_Same_l1 : C :=
(.seq (.seq (.rg 4 false [] [{i := .mv 11 (.t 5)}, {i := .mv 12 (.t 0)}, {i := .len 13 (.t 12)}, {i := .bin 14 .lss (.t 11) (.t 13)}] [])
 (.cond (.t 14) .skip (.exit 0)))
 (.seq (.block 1 (.seq (.rg 6 true [] [{i := .mv 17 (.t 0)}, {i := .mv 18 (.t 5)}, {i := .ix 19 (.t 17) (.t 18) 1}, {i := .load 20 (.t 19) 0}, {i := .mv 21 (.t 1)}, {i := .mv 22 (.t 5)}, {i := .ix 23 (.t 21) (.t 22) 1}, {i := .load 24 (.t 23) 0}, {i := .beq 25 true (.t 20) (.t 24)}] [])
 (.cond (.t 25) (.seq (.rg 7 false [] [{i := .mv 4 (.c (.d true (.bool false)))}] [])
 .ret) .skip)))
 (.rg 5 false [] [{i := .mv 15 (.t 5)}, {i := .bin 16 .add (.t 15) (.c (.d true (.int .i64 1)))}, {i := .mv 5 (.t 16)}] [])))
def c_ref04_Same : C :=
(.seq (.rg 0 false [] [{i := .mv 4 (.c (.d true (.bool false)))}] [])
 (.seq (.seq (.rg 1 false [] [{i := .mv 6 (.t 0)}, {i := .len 7 (.t 6)}, {i := .mv 8 (.t 1)}, {i := .len 9 (.t 8)}, {i := .bin 10 .neq (.t 7) (.t 9)}] [])
 (.cond (.t 10) (.seq (.rg 2 false [] [{i := .mv 4 (.c (.d true (.bool false)))}] [])
 .ret) .skip))
 (.seq (.seq (.rg 3 false [] [{i := .mv 5 (.c (.d true (.int .i64 0)))}] [])
 (.block 0 (.loop c_ref04_Same_l1)))
 (.seq (.rg 8 false [] [{i := .mv 4 (.c (.d true (.bool true)))}] [])
 .ret))))
def n_ref04_Same : Fn := ⟨c_ref04_Same, [.s 4], (some [false, false])⟩
def c_ref06_SameAll_l1 : C :=
(.seq (.seq (.rg 4 false [] [{i := .mv 11 (.t 5)}, {i := .mv 12 (.t 0)}, {i := .len 13 (.t 12)}, {i := .bin 14 .lss (.t 11) (.t 13)}] [])
 (.cond (.t 14) .skip (.exit 0)))
 (.seq (.block 1 (.seq (.rg 6 true [] [{i := .mv 17 (.t 0)}, {i := .mv 18 (.t 5)}, {i := .ix 19 (.t 17) (.t 18) 1}, {i := .load 20 (.t 19) 0}, {i := .mv 21 (.t 1)}, {i := .mv 22 (.t 5)}, {i := .ix 23 (.t 21) (.t 22) 1}, {i := .load 24 (.t 23) 0}, {i := .call 25 k_ref04_Same [(.t 20), (.t 24)] none}, {i := .un 26 .not (.t 25)}] [])
 (.cond (.t 26) (.seq (.rg 7 false [] [{i := .mv 4 (.c (.d true (.bool false)))}] [])
 .ret) .skip)))
 (.rg 5 false [] [{i := .mv 15 (.t 5)}, {i := .bin 16 .add (.t 15) (.c (.d true (.int .i64 1)))}, {i := .mv 5 (.t 16)}] [])))
def c_ref06_SameAll : C :=
(.seq (.rg 0 false [] [{i := .mv 4 (.c (.d true (.bool false)))}] [])
 (.seq (.seq (.rg 1 false [] [{i := .mv 6 (.t 0)}, {i := .len 7 (.t 6)}, {i := .mv 8 (.t 1)}, {i := .len 9 (.t 8)}, {i := .bin 10 .neq (.t 7) (.t 9)}] [])
 (.cond (.t 10) (.seq (.rg 2 false [] [{i := .mv 4 (.c (.d true (.bool false)))}] [])
 .ret) .skip))
 (.seq (.seq (.rg 3 false [] [{i := .mv 5 (.c (.d true (.int .i64 0)))}] [])
 (.block 0 (.loop c_ref06_SameAll_l1)))
 (.seq (.rg 8 false [] [{i := .mv 4 (.c (.d true (.bool true)))}] [])
 .ret))))
def n_ref06_SameAll : Fn := ⟨c_ref06_SameAll, [.s 4], (some [false, false])⟩
def c_queue_may_p1 : C :=
(.rg 1 false [] [{i := .fad 3 (.t 1) 0 0}, {i := .load 4 (.t 3) 0}, {i := .bin 5 .geq (.t 4) (.c (.d true (.int .i64 0)))}, {i := .mv 6 (.t 5)}, ⟨(.fad 7 (.t 1) 0 0), (some (6, true))⟩, ⟨(.load 8 (.t 7) 0), (some (6, true))⟩, ⟨(.bin 9 .leq (.t 8) (.c (.d true (.int .i64 60)))), (some (6, true))⟩, {i := .pick 10 (.t 6) (.t 9) (.c (.d true (.bool false)))}, {i := .mv 11 (.t 10)}, ⟨(.fad 12 (.t 1) 1 0), (some (11, true))⟩, ⟨(.load 13 (.t 12) 0), (some (11, true))⟩, ⟨(.bin 14 .geq (.t 13) (.c (.d true (.int .i64 0)))), (some (11, true))⟩, {i := .pick 15 (.t 11) (.t 14) (.c (.d true (.bool false)))}, {i := .mv 16 (.t 15)}, ⟨(.fad 17 (.t 1) 1 0), (some (16, true))⟩, ⟨(.load 18 (.t 17) 0), (some (16, true))⟩, ⟨(.bin 19 .lss (.t 18) (.c (.d true (.int .i64 1000)))), (some (16, true))⟩, {i := .pick 20 (.t 16) (.t 19) (.c (.d true (.bool false)))}, {i := .mv 2 (.t 20)}] [])
def c_queue_may : C :=
(.seq (.rg 0 false [] [{i := .box 1 0 (.t 0) 3}, {i := .mv 2 (.c (.d true (.bool false)))}] [])
 (.seq c_queue_may_p1
 .ret))
def n_queue_may : Fn := ⟨c_queue_may, [.s 2], (some [false])⟩
def c_queue_order : C :=
(.seq (.rg 0 false [] [{i := .box 2 0 (.t 0) 3}, {i := .box 3 1 (.t 1) 3}, {i := .mv 4 (.c (.d true (.int .i64 0)))}] [])
 (.seq (.rg 1 true [] [{i := .fad 5 (.t 2) 0 0}, {i := .load 6 (.t 5) 0}, {i := .fad 7 (.t 3) 0 0}, {i := .load 8 (.t 7) 0}, {i := .call 9 k_cmp_Compare_of_int [(.t 6), (.t 8)] none}, {i := .fad 10 (.t 2) 1 0}, {i := .load 11 (.t 10) 0}, {i := .fad 12 (.t 3) 1 0}, {i := .load 13 (.t 12) 0}, {i := .call 14 k_cmp_Compare_of_int [(.t 11), (.t 13)] none}, {i := .bsl 15 2 1 2 (.k (.int .i64 0)) [(0, (.t 9)), (1, (.t 14))]}, {i := .call 16 k_cmp_Or_of_int [(.t 15)] none}, {i := .mv 4 (.t 16)}] [])
 .ret))
def n_queue_order : Fn := ⟨c_queue_order, [.s 4], none⟩
def c_slices_IsSortedFunc_of_api_Wait_l1 : C :=
(.seq (.seq (.rg 2 false [] [{i := .mv 9 (.t 5)}, {i := .bin 10 .gtr (.t 9) (.c (.d true (.int .i64 0)))}] [])
 (.cond (.t 10) .skip (.exit 0)))
 (.seq (.block 1 (.seq (.rg 4 true [] [{i := .mv 13 (.t 1)}, {i := .mv 14 (.t 0)}, {i := .mv 15 (.t 5)}, {i := .ix 16 (.t 14) (.t 15) 2}, {i := .load 17 (.t 16) 3}, {i := .mv 18 (.t 0)}, {i := .mv 19 (.t 5)}, {i := .bin 20 .sub (.t 19) (.c (.d true (.int .i64 1)))}, {i := .ix 21 (.t 18) (.t 20) 2}, {i := .load 22 (.t 21) 3}, {i := .callv 23 (.t 13) [(.t 17), (.t 22)] none}, {i := .bin 24 .lss (.t 23) (.c (.d true (.int .i64 0)))}] [])
 (.cond (.t 24) (.seq (.rg 5 false [] [{i := .mv 4 (.c (.d true (.bool false)))}] [])
 .ret) .skip)))
 (.rg 3 false [] [{i := .mv 11 (.t 5)}, {i := .bin 12 .sub (.t 11) (.c (.d true (.int .i64 1)))}, {i := .mv 5 (.t 12)}] [])))
def c_slices_IsSortedFunc_of_api_Wait : C :=
(.seq (.rg 0 false [] [{i := .mv 4 (.c (.d true (.bool false)))}] [])
 (.seq (.seq (.rg 1 false [] [{i := .mv 6 (.t 0)}, {i := .len 7 (.t 6)}, {i := .bin 8 .sub (.t 7) (.c (.d true (.int .i64 1)))}, {i := .mv 5 (.t 8)}] [])
 (.block 0 (.loop c_slices_IsSortedFunc_of_api_Wait_l1)))
 (.seq (.rg 6 false [] [{i := .mv 4 (.c (.d true (.bool true)))}] [])
 .ret)))
def n_slices_IsSortedFunc_of_api_Wait : Fn := ⟨c_slices_IsSortedFunc_of_api_Wait, [.s 4], none⟩
def c_slices_AppendSeq_of_int_r1 : C :=
.rfun (.t 6) [7]
 (.rg 2 false [] [{i := .mv 5 (.t 7)}] [])
 (.block 1 (.rg 3 false [] [{i := .load 8 (.t 2) 0}, {i := .mv 9 (.t 5)}, {i := .bsl 10 1 1 1 (.k (.int .i64 0)) [(0, (.t 9))]}, {i := .app 11 2 1 (.t 8) (.t 10)}, {i := .store (.t 2) (.t 11) 0}] []))
def c_slices_AppendSeq_of_int : C :=
(.seq (.rg 0 false [.nrw 0 30] [{i := .box 2 0 (.t 0) 0}, {i := .mv 4 (.c (.nil 1))}] [])
 (.seq (.seq (.rg 1 false [] [{i := .mv 6 (.t 1)}] [])
 (.block 0 c_slices_AppendSeq_of_int_r1))
 (.seq (.rg 4 false [] [{i := .load 12 (.t 2) 0}, {i := .mv 4 (.t 12)}] [])
 .ret)))
def n_slices_AppendSeq_of_int : Fn := ⟨c_slices_AppendSeq_of_int, [.s 4], none⟩
def c_queue_chain_1_l1 : C :=
(.seq (.seq (.rg 0 false [] [{i := .load 4 (.t 1) 0}, {i := .bin 5 .geq (.t 4) (.c (.d true (.int .i64 0)))}] [])
 (.cond (.t 5) .skip (.exit 0)))
 (.seq (.block 1 (.seq (.rg 2 false [] [{i := .mv 11 (.t 0)}, {i := .load 12 (.t 1) 0}, {i := .callv 13 (.t 11) [(.t 12)] none}, {i := .un 14 .not (.t 13)}] [])
 (.cond (.t 14) .ret .skip)))
 (.rg 1 false [] [{i := .load 6 (.t 2) 0}, {i := .load 7 (.t 1) 0}, {i := .ix 8 (.t 6) (.t 7) 3}, {i := .fad 9 (.t 8) 2 0}, {i := .load 10 (.t 9) 0}, {i := .store (.t 1) (.t 10) 0}] [])))
def c_queue_chain_1 : C :=
(.block 0 (.loop c_queue_chain_1_l1))
def n_queue_chain_1 : Fn := ⟨c_queue_chain_1, [], none⟩
def c_gates_starts : C :=
(.seq (.rg 0 false [] [{i := .box 1 0 (.t 0) 6}, {i := .alloc 2 1 [.k (.int .i64 0), .k (.int .i64 0), .k (.int .i64 0), .k (.int .i64 0)]}] [])
 (.seq (.rg 1 false [] [{i := .fad 5 (.t 1) 0 0}, {i := .load 6 (.t 5) 0}, {i := .bin 7 .add (.c (.d true (.int .i64 1))) (.t 6)}, {i := .mv 3 (.t 7)}] [])
 (.seq (.rg 2 false [] [{i := .mv 8 (.t 3)}, {i := .fad 9 (.t 1) 1 0}, {i := .load 10 (.t 9) 0}, {i := .len 11 (.t 10)}, {i := .bin 12 .add (.t 8) (.t 11)}, {i := .mv 4 (.t 12)}] [])
 (.seq (.rg 3 false [] [{i := .mv 13 (.t 3)}, {i := .mv 14 (.t 4)}, {i := .mv 15 (.t 4)}, {i := .fad 16 (.t 1) 2 0}, {i := .load 17 (.t 16) 0}, {i := .len 18 (.t 17)}, {i := .bin 19 .add (.t 15) (.t 18)}, {i := .bld 20 [.k (.int .i64 0), .k (.int .i64 0), .k (.int .i64 0), .k (.int .i64 0)] [(0, 0, (.c (.d true (.int .i64 1)))), (1, 0, (.t 13)), (2, 0, (.t 14)), (3, 0, (.t 19))]}, {i := .store (.t 2) (.t 20) 5}] [])
 .ret))))
def n_gates_starts : Fn := ⟨c_gates_starts, [.c 2 5], (some [false])⟩
def c_gates_Check_1_p1 : C :=
(.rg 1 false [] [{i := .mv 4 (.t 0)}, {i := .bin 5 .lss (.t 4) (.c (.d true (.int .i64 0)))}, {i := .mv 6 (.t 5)}, ⟨(.mv 7 (.t 0)), (some (6, false))⟩, ⟨(.bin 8 .shr (.t 7) (.c (.d true (.int .u64 1)))), (some (6, false))⟩, ⟨(.ixb 9 (.t 1) (.c (.d true (.int .i64 3))) 4 1), (some (6, false))⟩, ⟨(.load 10 (.t 9) 0), (some (6, false))⟩, ⟨(.bin 11 .geq (.t 8) (.t 10)), (some (6, false))⟩, {i := .pick 12 (.t 6) (.c (.d true (.bool true))) (.t 11)}, {i := .mv 3 (.t 12)}] [])
def c_gates_Check_1 : C :=
(.seq (.rg 0 false [] [{i := .mv 3 (.c (.d true (.bool false)))}] [])
 (.seq c_gates_Check_1_p1
 .ret))
def n_gates_Check_1 : Fn := ⟨c_gates_Check_1, [.s 3], none⟩
def c_gates_Check_2_p1 : C :=
(.rg 1 false [] [{i := .load 4 (.t 1) 0}, {i := .fad 5 (.t 2) 0 0}, {i := .load 6 (.t 5) 0}, {i := .callv 7 (.t 4) [(.t 6)] none}, {i := .mv 8 (.t 7)}, ⟨(.fad 9 (.t 2) 1 0), (some (8, false))⟩, ⟨(.load 10 (.t 9) 0), (some (8, false))⟩, ⟨(.bin 11 .lss (.t 10) (.c (.d true (.int .i64 0)))), (some (8, false))⟩, {i := .pick 12 (.t 8) (.c (.d true (.bool true))) (.t 11)}, {i := .mv 13 (.t 12)}, ⟨(.fad 14 (.t 2) 1 0), (some (13, false))⟩, ⟨(.load 15 (.t 14) 0), (some (13, false))⟩, ⟨(.bin 16 .gtr (.t 15) (.c (.d true (.int .i64 2)))), (some (13, false))⟩, {i := .pick 17 (.t 13) (.c (.d true (.bool true))) (.t 16)}, {i := .mv 3 (.t 17)}] [])
def c_gates_Check_2 : C :=
(.seq (.rg 0 false [] [{i := .box 2 0 (.t 0) 3}, {i := .mv 3 (.c (.d true (.bool false)))}] [])
 (.seq c_gates_Check_2_p1
 .ret))
def n_gates_Check_2 : Fn := ⟨c_gates_Check_2, [.s 3], none⟩
def c_slices_ContainsFunc_of_int_p1 : C :=
(.rg 1 false [] [{i := .mv 5 (.t 0)}, {i := .mv 6 (.t 1)}, {i := .call 7 k_slices_IndexFunc_of_int [(.t 5), (.t 6)] none}, {i := .bin 8 .geq (.t 7) (.c (.d true (.int .i64 0)))}, {i := .mv 4 (.t 8)}] [])
def c_slices_ContainsFunc_of_int : C :=
(.seq (.rg 0 false [] [{i := .mv 4 (.c (.d true (.bool false)))}] [])
 (.seq c_slices_ContainsFunc_of_int_p1
 .ret))
def n_slices_ContainsFunc_of_int : Fn := ⟨c_slices_ContainsFunc_of_int, [.s 4], none⟩
def c_slices_ContainsFunc_of_api_Latch_p1 : C :=
(.rg 1 false [] [{i := .mv 5 (.t 0)}, {i := .mv 6 (.t 1)}, {i := .call 7 k_slices_IndexFunc_of_api_Latch [(.t 5), (.t 6)] none}, {i := .bin 8 .geq (.t 7) (.c (.d true (.int .i64 0)))}, {i := .mv 4 (.t 8)}] [])
def c_slices_ContainsFunc_of_api_Latch : C :=
(.seq (.rg 0 false [] [{i := .mv 4 (.c (.d true (.bool false)))}] [])
 (.seq c_slices_ContainsFunc_of_api_Latch_p1
 .ret))
def n_slices_ContainsFunc_of_api_Latch : Fn := ⟨c_slices_ContainsFunc_of_api_Latch, [.s 4], none⟩
def c_clause_known_p1 : C :=
(.rg 1 false [] [{i := .mv 5 (.t 1)}, {i := .bin 6 .geq (.t 5) (.c (.d true (.int .i64 2)))}, {i := .mv 7 (.t 6)}, ⟨(.mv 8 (.t 1)), (some (7, true))⟩, ⟨(.bin 9 .quo (.t 8) (.c (.d true (.int .i64 2)))), (some (7, true))⟩, ⟨(.mv 10 (.t 0)), (some (7, true))⟩, ⟨(.bin 11 .leq (.t 9) (.t 10)), (some (7, true))⟩, {i := .pick 12 (.t 7) (.t 11) (.c (.d true (.bool false)))}, {i := .mv 4 (.t 12)}] [])
def c_clause_known : C :=
(.seq (.rg 0 false [] [{i := .mv 4 (.c (.d true (.bool false)))}] [])
 (.seq c_clause_known_p1
 .ret))
def n_clause_known : Fn := ⟨c_clause_known, [.s 4], (some [false, false])⟩
def c_cmp_Or_of_int_l1 : C :=
(.seq (.rg 3 false [] [{i := .bin 9 .lss (.t 8) (.t 7)}] [])
 (.seq (.cond (.t 9) .skip (.exit 0))
 (.seq (.block 1 (.seq (.rg 4 false [] [{i := .ix 10 (.t 6) (.t 8) 1}, {i := .load 11 (.t 10) 0}, {i := .mv 5 (.t 11)}] [])
 (.seq (.rg 5 false [] [{i := .mv 12 (.t 5)}, {i := .mv 13 (.t 3)}, {i := .bin 14 .neq (.t 12) (.t 13)}] [])
 (.cond (.t 14) (.seq (.rg 6 false [] [{i := .mv 15 (.t 5)}, {i := .mv 2 (.t 15)}] [])
 .ret) .skip))))
 (.rg 7 false [] [{i := .bin 16 .add (.t 8) (.c (.d true (.int .i64 1)))}, {i := .mv 8 (.t 16)}] []))))
def c_cmp_Or_of_int : C :=
(.seq (.rg 0 false [] [{i := .mv 2 (.c (.d true (.int .i64 0)))}] [])
 (.seq (.rg 1 false [] [{i := .mv 3 (.c (.d true (.int .i64 0)))}] [])
 (.seq (.seq (.rg 2 false [] [{i := .mv 6 (.t 0)}, {i := .len 7 (.t 6)}, {i := .mv 8 (.c (.d true (.int .i64 0)))}] [])
 (.block 0 (.loop c_cmp_Or_of_int_l1)))
 (.seq (.rg 8 false [] [{i := .mv 17 (.t 3)}, {i := .mv 2 (.t 17)}] [])
 .ret))))
def n_cmp_Or_of_int : Fn := ⟨c_cmp_Or_of_int, [.s 2], (some [false])⟩
def c_cmp_Compare_of_int : C :=
(.seq (.rg 0 false [] [{i := .mv 4 (.c (.d true (.int .i64 0)))}] [])
 (.seq (.rg 1 false [] [{i := .mv 7 (.t 0)}, {i := .call 8 k_cmp_isNaN_of_int [(.t 7)] none}, {i := .mv 5 (.t 8)}] [])
 (.seq (.rg 2 false [] [{i := .mv 9 (.t 1)}, {i := .call 10 k_cmp_isNaN_of_int [(.t 9)] none}, {i := .mv 6 (.t 10)}] [])
 (.seq (.seq (.rg 3 false [] [{i := .mv 11 (.t 5)}] [])
 (.cond (.t 11) (.seq (.seq (.rg 4 false [] [{i := .mv 12 (.t 6)}] [])
 (.cond (.t 12) (.seq (.rg 5 false [] [{i := .mv 4 (.c (.d true (.int .i64 0)))}] [])
 .ret) .skip))
 (.seq (.rg 6 false [] [{i := .mv 4 (.c (.d true (.int .i64 (-1))))}] [])
 .ret)) .skip))
 (.seq (.seq (.rg 7 false [] [{i := .mv 13 (.t 6)}] [])
 (.cond (.t 13) (.seq (.rg 8 false [] [{i := .mv 4 (.c (.d true (.int .i64 1)))}] [])
 .ret) .skip))
 (.seq (.seq (.rg 9 false [] [{i := .mv 14 (.t 0)}, {i := .mv 15 (.t 1)}, {i := .bin 16 .lss (.t 14) (.t 15)}] [])
 (.cond (.t 16) (.seq (.rg 10 false [] [{i := .mv 4 (.c (.d true (.int .i64 (-1))))}] [])
 .ret) .skip))
 (.seq (.seq (.rg 11 false [] [{i := .mv 17 (.t 0)}, {i := .mv 18 (.t 1)}, {i := .bin 19 .gtr (.t 17) (.t 18)}] [])
 (.cond (.t 19) (.seq (.rg 12 false [] [{i := .mv 4 (.c (.d true (.int .i64 1)))}] [])
 .ret) .skip))
 (.seq (.rg 13 false [] [{i := .mv 4 (.c (.d true (.int .i64 0)))}] [])
 .ret))))))))
def n_cmp_Compare_of_int : Fn := ⟨c_cmp_Compare_of_int, [.s 4], (some [false, false])⟩
def c_slices_IndexFunc_of_int_l1 : C :=
(.seq (.rg 2 false [] [{i := .bin 9 .lss (.t 8) (.t 7)}] [])
 (.seq (.cond (.t 9) .skip (.exit 0))
 (.seq (.block 1 (.seq (.rg 3 false [] [{i := .mv 10 (.t 8)}, {i := .mv 5 (.t 10)}] [])
 (.seq (.rg 4 false [] [{i := .mv 11 (.t 1)}, {i := .mv 12 (.t 0)}, {i := .mv 13 (.t 5)}, {i := .ix 14 (.t 12) (.t 13) 1}, {i := .load 15 (.t 14) 0}, {i := .callv 16 (.t 11) [(.t 15)] none}] [])
 (.cond (.t 16) (.seq (.rg 5 false [] [{i := .mv 17 (.t 5)}, {i := .mv 4 (.t 17)}] [])
 .ret) .skip))))
 (.rg 6 false [] [{i := .bin 18 .add (.t 8) (.c (.d true (.int .i64 1)))}, {i := .mv 8 (.t 18)}] []))))
def c_slices_IndexFunc_of_int : C :=
(.seq (.rg 0 false [] [{i := .mv 4 (.c (.d true (.int .i64 0)))}] [])
 (.seq (.seq (.rg 1 false [] [{i := .mv 6 (.t 0)}, {i := .len 7 (.t 6)}, {i := .mv 8 (.c (.d true (.int .i64 0)))}] [])
 (.block 0 (.loop c_slices_IndexFunc_of_int_l1)))
 (.seq (.rg 7 false [] [{i := .mv 4 (.c (.d true (.int .i64 (-1))))}] [])
 .ret)))
def n_slices_IndexFunc_of_int : Fn := ⟨c_slices_IndexFunc_of_int, [.s 4], none⟩
def c_slices_IndexFunc_of_api_Latch_l1 : C :=
(.seq (.rg 2 false [] [{i := .bin 9 .lss (.t 8) (.t 7)}] [])
 (.seq (.cond (.t 9) .skip (.exit 0))
 (.seq (.block 1 (.seq (.rg 3 false [] [{i := .mv 10 (.t 8)}, {i := .mv 5 (.t 10)}] [])
 (.seq (.rg 4 false [] [{i := .mv 11 (.t 1)}, {i := .mv 12 (.t 0)}, {i := .mv 13 (.t 5)}, {i := .ix 14 (.t 12) (.t 13) 2}, {i := .load 15 (.t 14) 3}, {i := .callv 16 (.t 11) [(.t 15)] none}] [])
 (.cond (.t 16) (.seq (.rg 5 false [] [{i := .mv 17 (.t 5)}, {i := .mv 4 (.t 17)}] [])
 .ret) .skip))))
 (.rg 6 false [] [{i := .bin 18 .add (.t 8) (.c (.d true (.int .i64 1)))}, {i := .mv 8 (.t 18)}] []))))
def c_slices_IndexFunc_of_api_Latch : C :=
(.seq (.rg 0 false [] [{i := .mv 4 (.c (.d true (.int .i64 0)))}] [])
 (.seq (.seq (.rg 1 false [] [{i := .mv 6 (.t 0)}, {i := .len 7 (.t 6)}, {i := .mv 8 (.c (.d true (.int .i64 0)))}] [])
 (.block 0 (.loop c_slices_IndexFunc_of_api_Latch_l1)))
 (.seq (.rg 7 false [] [{i := .mv 4 (.c (.d true (.int .i64 (-1))))}] [])
 .ret)))
def n_slices_IndexFunc_of_api_Latch : Fn := ⟨c_slices_IndexFunc_of_api_Latch, [.s 4], none⟩
def c_cmp_isNaN_of_int : C :=
(.seq (.rg 0 false [] [{i := .mv 2 (.c (.d true (.bool false)))}] [])
 (.seq (.rg 1 false [] [{i := .mv 3 (.t 0)}, {i := .mv 4 (.t 0)}, {i := .bin 5 .neq (.t 3) (.t 4)}, {i := .mv 2 (.t 5)}] [])
 .ret))
def n_cmp_isNaN_of_int : Fn := ⟨c_cmp_isNaN_of_int, [.s 2], (some [false])⟩
def fnList : List (Nat × Fn) := [(k_law38_QueueNames, n_law38_QueueNames),
 (k_queue_Chain, n_queue_Chain),
 (k_queue_Trace, n_queue_Trace),
 (k_queue_Right, n_queue_Right),
 (k_ref13_Same, n_ref13_Same),
 (k_ref06_Same, n_ref06_Same),
 (k_queue_Push, n_queue_Push),
 (k_queue_Pop, n_queue_Pop),
 (k_queue_Check, n_queue_Check),
 (k_ref38_Same, n_ref38_Same),
 (k_law38_alive, n_law38_alive),
 (k_law38_pushed, n_law38_pushed),
 (k_law38_popped, n_law38_popped),
 (k_slices_Collect_of_int, n_slices_Collect_of_int),
 (k_queue_chain, n_queue_chain),
 (k_gates_Check, n_gates_Check),
 (k_clause_Check, n_clause_Check),
 (k_ref04_Same, n_ref04_Same),
 (k_ref06_SameAll, n_ref06_SameAll),
 (k_queue_may, n_queue_may),
 (k_queue_order, n_queue_order),
 (k_slices_IsSortedFunc_of_api_Wait, n_slices_IsSortedFunc_of_api_Wait),
 (k_slices_AppendSeq_of_int, n_slices_AppendSeq_of_int),
 (k_queue_chain_1, n_queue_chain_1),
 (k_gates_starts, n_gates_starts),
 (k_gates_Check_1, n_gates_Check_1),
 (k_gates_Check_2, n_gates_Check_2),
 (k_slices_ContainsFunc_of_int, n_slices_ContainsFunc_of_int),
 (k_slices_ContainsFunc_of_api_Latch, n_slices_ContainsFunc_of_api_Latch),
 (k_clause_known, n_clause_known),
 (k_cmp_Or_of_int, n_cmp_Or_of_int),
 (k_cmp_Compare_of_int, n_cmp_Compare_of_int),
 (k_slices_IndexFunc_of_int, n_slices_IndexFunc_of_int),
 (k_slices_IndexFunc_of_api_Latch, n_slices_IndexFunc_of_api_Latch),
 (k_cmp_isNaN_of_int, n_cmp_isNaN_of_int)]
def fnOf (f : Nat) : Option Fn := lk fnList f
theorem fn_law38_QueueNames : fnOf k_law38_QueueNames = some n_law38_QueueNames := by kernel_rfl
theorem fn_queue_Chain : fnOf k_queue_Chain = some n_queue_Chain := by kernel_rfl
theorem fn_queue_Trace : fnOf k_queue_Trace = some n_queue_Trace := by kernel_rfl
theorem fn_queue_Right : fnOf k_queue_Right = some n_queue_Right := by kernel_rfl
theorem fn_ref13_Same : fnOf k_ref13_Same = some n_ref13_Same := by kernel_rfl
theorem fn_ref06_Same : fnOf k_ref06_Same = some n_ref06_Same := by kernel_rfl
theorem fn_queue_Push : fnOf k_queue_Push = some n_queue_Push := by kernel_rfl
theorem fn_queue_Pop : fnOf k_queue_Pop = some n_queue_Pop := by kernel_rfl
theorem fn_queue_Check : fnOf k_queue_Check = some n_queue_Check := by kernel_rfl
theorem fn_ref38_Same : fnOf k_ref38_Same = some n_ref38_Same := by kernel_rfl
theorem fn_law38_alive : fnOf k_law38_alive = some n_law38_alive := by kernel_rfl
theorem fn_law38_pushed : fnOf k_law38_pushed = some n_law38_pushed := by kernel_rfl
theorem fn_law38_popped : fnOf k_law38_popped = some n_law38_popped := by kernel_rfl
theorem fn_slices_Collect_of_int : fnOf k_slices_Collect_of_int = some n_slices_Collect_of_int := by kernel_rfl
theorem fn_queue_chain : fnOf k_queue_chain = some n_queue_chain := by kernel_rfl
theorem fn_gates_Check : fnOf k_gates_Check = some n_gates_Check := by kernel_rfl
theorem fn_clause_Check : fnOf k_clause_Check = some n_clause_Check := by kernel_rfl
theorem fn_ref04_Same : fnOf k_ref04_Same = some n_ref04_Same := by kernel_rfl
theorem fn_ref06_SameAll : fnOf k_ref06_SameAll = some n_ref06_SameAll := by kernel_rfl
theorem fn_queue_may : fnOf k_queue_may = some n_queue_may := by kernel_rfl
theorem fn_queue_order : fnOf k_queue_order = some n_queue_order := by kernel_rfl
theorem fn_slices_IsSortedFunc_of_api_Wait : fnOf k_slices_IsSortedFunc_of_api_Wait = some n_slices_IsSortedFunc_of_api_Wait := by kernel_rfl
theorem fn_slices_AppendSeq_of_int : fnOf k_slices_AppendSeq_of_int = some n_slices_AppendSeq_of_int := by kernel_rfl
theorem fn_queue_chain_1 : fnOf k_queue_chain_1 = some n_queue_chain_1 := by kernel_rfl
theorem fn_gates_starts : fnOf k_gates_starts = some n_gates_starts := by kernel_rfl
theorem fn_gates_Check_1 : fnOf k_gates_Check_1 = some n_gates_Check_1 := by kernel_rfl
theorem fn_gates_Check_2 : fnOf k_gates_Check_2 = some n_gates_Check_2 := by kernel_rfl
theorem fn_slices_ContainsFunc_of_int : fnOf k_slices_ContainsFunc_of_int = some n_slices_ContainsFunc_of_int := by kernel_rfl
theorem fn_slices_ContainsFunc_of_api_Latch : fnOf k_slices_ContainsFunc_of_api_Latch = some n_slices_ContainsFunc_of_api_Latch := by kernel_rfl
theorem fn_clause_known : fnOf k_clause_known = some n_clause_known := by kernel_rfl
theorem fn_cmp_Or_of_int : fnOf k_cmp_Or_of_int = some n_cmp_Or_of_int := by kernel_rfl
theorem fn_cmp_Compare_of_int : fnOf k_cmp_Compare_of_int = some n_cmp_Compare_of_int := by kernel_rfl
theorem fn_slices_IndexFunc_of_int : fnOf k_slices_IndexFunc_of_int = some n_slices_IndexFunc_of_int := by kernel_rfl
theorem fn_slices_IndexFunc_of_api_Latch : fnOf k_slices_IndexFunc_of_api_Latch = some n_slices_IndexFunc_of_api_Latch := by kernel_rfl
theorem fn_cmp_isNaN_of_int : fnOf k_cmp_isNaN_of_int = some n_cmp_isNaN_of_int := by kernel_rfl
theorem fn_slices_Clone_of_bool : fnOf k_slices_Clone_of_bool = none := by kernel_rfl
theorem fn_slices_Insert_of_api_Wait : fnOf k_slices_Insert_of_api_Wait = none := by kernel_rfl
theorem fn_slices_Clone_of_api_Wait : fnOf k_slices_Clone_of_api_Wait = none := by kernel_rfl
end Go.Proofs.Ytkhgnkfdpabflaa.Vm
