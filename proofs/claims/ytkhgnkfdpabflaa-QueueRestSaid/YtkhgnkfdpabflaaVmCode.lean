/- The functions, as the machine's code. Printed. -/
import Derived.Test.YtkhgnkfdpabflaaVmP1
import Derived.KernelRfl
namespace Go.Proofs.Ytkhgnkfdpabflaa.Vm
open Go
def k_law38_QueueRest : Nat := 7
def k_ref36_Great : Nat := 9
def k_queue_Chain : Nat := 11
def k_queue_Right : Nat := 15
def k_ref38_Right : Nat := 16
def k_ref13_Same : Nat := 17
def k_queue_Push : Nat := 19
def k_queue_Pop : Nat := 21
def k_queue_Check : Nat := 23
def k_ref38_Same : Nat := 25
def k_law38_alive : Nat := 26
def k_law38_pushed : Nat := 28
def k_law38_popped : Nat := 29
def k_ref02_Great : Nat := 31
def k_ref02_Check : Nat := 32
def k_ref02_Size : Nat := 33
def k_slices_Collect_of_int : Nat := 34
def k_queue_chain : Nat := 35
def k_gates_Check : Nat := 39
def k_clause_Check : Nat := 40
def k_ref13_Valid : Nat := 41
def k_queue_may : Nat := 44
def k_queue_order : Nat := 45
def k_slices_Insert_of_api_Wait : Nat := 46
def k_slices_Clone_of_api_Wait : Nat := 47
def k_slices_IsSortedFunc_of_api_Wait : Nat := 49
def k_ref02_literals : Nat := 50
def k_slices_AppendSeq_of_int : Nat := 51
def k_queue_chain_1 : Nat := 52
def k_gates_starts : Nat := 53
def k_gates_Check_1 : Nat := 54
def k_gates_Check_2 : Nat := 55
def k_slices_ContainsFunc_of_int : Nat := 56
def k_slices_ContainsFunc_of_api_Latch : Nat := 57
def k_clause_known : Nat := 58
def k_ref13_Lit : Nat := 59
def k_cmp_Or_of_int : Nat := 60
def k_cmp_Compare_of_int : Nat := 61
def k_slices_IndexFunc_of_int : Nat := 64
def k_slices_IndexFunc_of_api_Latch : Nat := 65
def k_cmp_isNaN_of_int : Nat := 66
def c_law38_QueueRest_p1 : C :=
(.rg 2 false [] [{i := .load 15 (.t 3) 6}, {i := .call 16 k_ref36_Great [(.t 15)] none}, {i := .mv 17 (.t 16)}, ⟨(.mv 18 (.t 1)), (some (17, false))⟩, ⟨(.len 19 (.t 18)), (some (17, false))⟩, ⟨(.bin 20 .gtr (.t 19) (.c (.d true (.int .i64 130)))), (some (17, false))⟩, {i := .pick 21 (.t 17) (.c (.d true (.bool true))) (.t 20)}, {i := .mv 22 (.t 21)}, ⟨(.load 23 (.t 3) 6), (some (22, false))⟩, ⟨(.mv 24 (.t 1)), (some (22, false))⟩, ⟨(.call 25 k_ref38_Right [(.t 23), (.t 24)] none), (some (22, false))⟩, ⟨(.bin 26 .neq (.t 25) (.c (.d true (.int .i64 0)))), (some (22, false))⟩, {i := .pick 27 (.t 22) (.c (.d true (.bool true))) (.t 26)}, {i := .mv 28 (.t 27)}, ⟨(.mv 29 (.t 2)), (some (28, false))⟩, ⟨(.bin 30 .lss (.t 29) (.c (.d true (.int .i64 0)))), (some (28, false))⟩, {i := .pick 31 (.t 28) (.c (.d true (.bool true))) (.t 30)}, {i := .mv 32 (.t 31)}, ⟨(.mv 33 (.t 2)), (some (32, false))⟩, ⟨(.mv 34 (.t 1)), (some (32, false))⟩, ⟨(.len 35 (.t 34)), (some (32, false))⟩, ⟨(.bin 36 .geq (.t 33) (.t 35)), (some (32, false))⟩, {i := .pick 37 (.t 32) (.c (.d true (.bool true))) (.t 36)}, {i := .mv 38 (.t 37)}, ⟨(.mv 39 (.t 7)), (some (38, false))⟩, ⟨(.un 40 .not (.t 39)), (some (38, false))⟩, {i := .pick 41 (.t 38) (.c (.d true (.bool true))) (.t 40)}] [])
def c_law38_QueueRest_p2 : C :=
(.rg 5 false [] [{i := .mv 50 (.t 9)}, {i := .bin 51 .neq (.t 50) (.c (.d true (.int .i64 0)))}, {i := .mv 52 (.t 51)}, ⟨(.mv 53 (.t 8)), (some (52, false))⟩, ⟨(.len 54 (.t 53)), (some (52, false))⟩, ⟨(.bin 55 .eql (.t 54) (.c (.d true (.int .i64 0)))), (some (52, false))⟩, {i := .pick 56 (.t 52) (.c (.d true (.bool true))) (.t 55)}, {i := .mv 57 (.t 56)}, ⟨(.mv 58 (.t 8)), (some (57, false))⟩, ⟨(.ix 59 (.t 58) (.c (.d true (.int .i64 0))) 1), (some (57, false))⟩, ⟨(.load 60 (.t 59) 0), (some (57, false))⟩, ⟨(.mv 61 (.t 2)), (some (57, false))⟩, ⟨(.bin 62 .neq (.t 60) (.t 61)), (some (57, false))⟩, {i := .pick 63 (.t 57) (.c (.d true (.bool true))) (.t 62)}] [])
def c_law38_QueueRest_p3 : C :=
(.rg 10 true [] [{i := .mv 70 (.t 8)}, {i := .mv 71 (.t 10)}, {i := .ix 72 (.t 70) (.t 71) 1}, {i := .load 73 (.t 72) 0}, {i := .mv 74 (.t 8)}, {i := .mv 75 (.t 10)}, {i := .bin 76 .sub (.t 75) (.c (.d true (.int .i64 1)))}, {i := .ix 77 (.t 74) (.t 76) 1}, {i := .load 78 (.t 77) 0}, {i := .bin 79 .geq (.t 73) (.t 78)}, {i := .mv 80 (.t 79)}, ⟨(.mv 81 (.t 8)), (some (80, false))⟩, ⟨(.mv 82 (.t 10)), (some (80, false))⟩, ⟨(.ix 83 (.t 81) (.t 82) 1), (some (80, false))⟩, ⟨(.load 84 (.t 83) 0), (some (80, false))⟩, ⟨(.bin 85 .lss (.t 84) (.c (.d true (.int .i64 0)))), (some (80, false))⟩, {i := .pick 86 (.t 80) (.c (.d true (.bool true))) (.t 85)}] [])
def c_law38_QueueRest_l1 : C :=
(.seq (.seq (.rg 8 false [] [{i := .mv 64 (.t 10)}, {i := .mv 65 (.t 8)}, {i := .len 66 (.t 65)}, {i := .bin 67 .lss (.t 64) (.t 66)}] [])
 (.cond (.t 67) .skip (.exit 0)))
 (.seq (.block 1 (.seq c_law38_QueueRest_p3
 (.cond (.t 86) (.seq (.rg 11 false [] [{i := .mv 6 (.c (.d true (.bool false)))}] [])
 .ret) .skip)))
 (.rg 9 false [] [{i := .mv 68 (.t 10)}, {i := .bin 69 .add (.t 68) (.c (.d true (.int .i64 1)))}, {i := .mv 10 (.t 69)}] [])))
def c_law38_QueueRest_p4 : C :=
(.rg 14 false [] [{i := .mv 99 (.t 7)}, {i := .mv 100 (.t 99)}, ⟨(.mv 101 (.t 8)), (some (100, true))⟩, ⟨(.len 102 (.t 101)), (some (100, true))⟩, ⟨(.bin 103 .eql (.t 102) (.c (.d true (.int .i64 1)))), (some (100, true))⟩, {i := .pick 104 (.t 100) (.t 103) (.c (.d true (.bool false)))}, {i := .mv 6 (.t 104)}] [])
def c_law38_QueueRest_p5 : C :=
(.rg 16 false [] [{i := .mv 116 (.t 7)}, {i := .mv 117 (.t 116)}, ⟨(.mv 118 (.t 13)), (some (117, true))⟩, ⟨(.bin 119 .eql (.t 118) (.c (.d true (.int .i64 0)))), (some (117, true))⟩, {i := .pick 120 (.t 117) (.t 119) (.c (.d true (.bool false)))}, {i := .mv 121 (.t 120)}, ⟨(.mv 122 (.t 1)), (some (121, true))⟩, ⟨(.mv 123 (.t 11)), (some (121, true))⟩, ⟨(.ix 124 (.t 122) (.t 123) 3), (some (121, true))⟩, ⟨(.fad 125 (.t 124) 2 0), (some (121, true))⟩, ⟨(.load 126 (.t 125) 0), (some (121, true))⟩, ⟨(.bin 127 .eql (.t 126) (.c (.d true (.int .i64 (-1))))), (some (121, true))⟩, {i := .pick 128 (.t 121) (.t 127) (.c (.d true (.bool false)))}, {i := .mv 129 (.t 128)}, ⟨(.mv 130 (.t 12)), (some (129, true))⟩, ⟨(.mv 131 (.t 8)), (some (129, true))⟩, ⟨(.slc 132 1 (.t 131) (some (.c (.d true (.int .i64 1)))) none none), (some (129, true))⟩, ⟨(.call 133 k_ref13_Same [(.t 130), (.t 132)] none), (some (129, true))⟩, {i := .pick 134 (.t 129) (.t 133) (.c (.d true (.bool false)))}, {i := .mv 6 (.t 134)}] [])
def c_law38_QueueRest : C :=
(.seq (.rg 0 false [] [{i := .box 3 0 (.t 0) 6}, {i := .mv 6 (.c (.d true (.bool false)))}] [])
 (.seq (.rg 1 false [] [{i := .call 14 k_law38_alive [] none}, {i := .mv 7 (.t 14)}] [])
 (.seq (.seq c_law38_QueueRest_p1
 (.cond (.t 41) (.seq (.rg 3 false [] [{i := .mv 42 (.t 7)}, {i := .mv 6 (.t 42)}] [])
 .ret) .skip))
 (.seq (.rg 4 false [] [{i := .load 44 (.t 3) 6}, {i := .mv 45 (.t 1)}, {i := .mv 46 (.t 2)}, {i := .call 47 k_queue_Chain [(.t 44), (.t 45), (.t 46)] none}, {i := .mv 43 (.t 47)}, {i := .xt 48 (.t 43) 0}, {i := .xt 49 (.t 43) 1}, {i := .mv 8 (.t 48)}, {i := .mv 9 (.t 49)}] [])
 (.seq (.seq c_law38_QueueRest_p2
 (.cond (.t 63) (.seq (.rg 6 false [] [{i := .mv 6 (.c (.d true (.bool false)))}] [])
 .ret) .skip))
 (.seq (.seq (.rg 7 false [] [{i := .mv 10 (.c (.d true (.int .i64 1)))}] [])
 (.block 0 (.loop c_law38_QueueRest_l1)))
 (.seq (.rg 12 false [] [{i := .mv 87 (.t 8)}, {i := .mv 88 (.t 8)}, {i := .len 89 (.t 88)}, {i := .bin 90 .sub (.t 89) (.c (.d true (.int .i64 1)))}, {i := .ix 91 (.t 87) (.t 90) 1}, {i := .load 92 (.t 91) 0}, {i := .mv 11 (.t 92)}] [])
 (.seq (.seq (.rg 13 false [] [{i := .mv 93 (.t 1)}, {i := .mv 94 (.t 2)}, {i := .ix 95 (.t 93) (.t 94) 3}, {i := .fad 96 (.t 95) 2 0}, {i := .load 97 (.t 96) 0}, {i := .bin 98 .lss (.t 97) (.c (.d true (.int .i64 0)))}] [])
 (.cond (.t 98) (.seq c_law38_QueueRest_p4
 .ret) .skip))
 (.seq (.rg 15 true [] [{i := .load 106 (.t 3) 6}, {i := .mv 107 (.t 1)}, {i := .mv 108 (.t 1)}, {i := .mv 109 (.t 2)}, {i := .ix 110 (.t 108) (.t 109) 3}, {i := .fad 111 (.t 110) 2 0}, {i := .load 112 (.t 111) 0}, {i := .call 113 k_queue_Chain [(.t 106), (.t 107), (.t 112)] none}, {i := .mv 105 (.t 113)}, {i := .xt 114 (.t 105) 0}, {i := .xt 115 (.t 105) 1}, {i := .mv 12 (.t 114)}, {i := .mv 13 (.t 115)}] [])
 (.seq c_law38_QueueRest_p5
 .ret))))))))))
def n_law38_QueueRest : Fn := ⟨c_law38_QueueRest, [.s 6], (some [false, false, false])⟩
def c_ref36_Great_p1 : C :=
(.rg 3 false [] [{i := .load 5 (.t 1) 6}, {i := .call 6 k_ref02_Check [(.t 5)] none}, {i := .bin 7 .eql (.t 6) (.c (.d true (.int .i64 0)))}, {i := .mv 8 (.t 7)}, ⟨(.load 9 (.t 1) 6), (some (8, true))⟩, ⟨(.call 10 k_ref02_Size [(.t 9)] none), (some (8, true))⟩, ⟨(.bin 11 .gtr (.t 10) (.c (.d true (.int .i64 40)))), (some (8, true))⟩, ⟨(.mv 12 (.t 11)), (some (8, true))⟩, ⟨(.fad 13 (.t 1) 3 0), (some (12, false))⟩, ⟨(.load 14 (.t 13) 0), (some (12, false))⟩, ⟨(.len 15 (.t 14)), (some (12, false))⟩, ⟨(.bin 16 .gtr (.t 15) (.c (.d true (.int .i64 10)))), (some (12, false))⟩, ⟨(.pick 17 (.t 12) (.c (.d true (.bool true))) (.t 16)), (some (8, true))⟩, ⟨(.mv 18 (.t 17)), (some (8, true))⟩, ⟨(.fad 19 (.t 1) 4 0), (some (18, false))⟩, ⟨(.load 20 (.t 19) 0), (some (18, false))⟩, ⟨(.len 21 (.t 20)), (some (18, false))⟩, ⟨(.bin 22 .gtr (.t 21) (.c (.d true (.int .i64 10)))), (some (18, false))⟩, ⟨(.pick 23 (.t 18) (.c (.d true (.bool true))) (.t 22)), (some (8, true))⟩, {i := .pick 24 (.t 8) (.t 23) (.c (.d true (.bool false)))}, {i := .mv 2 (.t 24)}] [])
def c_ref36_Great : C :=
(.seq (.rg 0 false [] [{i := .box 1 0 (.t 0) 6}, {i := .mv 2 (.c (.d true (.bool false)))}] [])
 (.seq (.seq (.rg 1 false [] [{i := .load 3 (.t 1) 6}, {i := .call 4 k_ref02_Great [(.t 3)] none}] [])
 (.cond (.t 4) (.seq (.rg 2 false [] [{i := .mv 2 (.c (.d true (.bool true)))}] [])
 .ret) .skip))
 (.seq c_ref36_Great_p1
 .ret)))
def n_ref36_Great : Fn := ⟨c_ref36_Great, [.s 2], (some [false])⟩
def c_queue_Chain_p1 : C :=
(.rg 4 false [] [{i := .mv 15 (.t 2)}, {i := .bin 16 .lss (.t 15) (.c (.d true (.int .i64 0)))}, {i := .mv 17 (.t 16)}, ⟨(.mv 18 (.t 2)), (some (17, false))⟩, ⟨(.mv 19 (.t 1)), (some (17, false))⟩, ⟨(.len 20 (.t 19)), (some (17, false))⟩, ⟨(.bin 21 .geq (.t 18) (.t 20)), (some (17, false))⟩, {i := .pick 22 (.t 17) (.c (.d true (.bool true))) (.t 21)}] [])
def c_queue_Chain : C :=
(.seq (.rg 0 false [] [{i := .box 3 0 (.t 0) 6}, {i := .mv 6 (.c (.nil 1))}, {i := .mv 7 (.c (.d true (.int .i64 0)))}] [])
 (.seq (.seq (.rg 1 false [] [{i := .load 9 (.t 3) 6}, {i := .mv 10 (.t 1)}, {i := .call 11 k_queue_Right [(.t 9), (.t 10)] none}, {i := .mv 8 (.t 11)}] [])
 (.seq (.rg 2 false [] [{i := .mv 12 (.t 8)}, {i := .bin 13 .neq (.t 12) (.c (.d true (.int .i64 0)))}] [])
 (.cond (.t 13) (.seq (.rg 3 false [] [{i := .mv 14 (.t 8)}, {i := .mv 6 (.c (.nil 1))}, {i := .mv 7 (.t 14)}] [])
 .ret) .skip)))
 (.seq (.seq c_queue_Chain_p1
 (.cond (.t 22) (.seq (.rg 5 false [] [{i := .mv 6 (.c (.nil 1))}, {i := .mv 7 (.c (.d true (.int .i64 2)))}] [])
 .ret) .skip))
 (.seq (.rg 6 false [] [{i := .mv 23 (.t 1)}, {i := .mv 24 (.t 2)}, {i := .call 25 k_queue_chain [(.t 23), (.t 24)] (some 21)}, {i := .call 26 k_slices_Collect_of_int [(.t 25)] none}, {i := .mv 6 (.t 26)}, {i := .mv 7 (.c (.d true (.int .i64 0)))}] [])
 .ret))))
def n_queue_Chain : Fn := ⟨c_queue_Chain, [.s 6, .s 7], (some [false, false, false])⟩
def c_queue_Right_p1 : C :=
(.rg 9 false [] [{i := .fad 23 (.t 2) 1 0}, {i := .load 24 (.t 23) 0}, {i := .len 25 (.t 24)}, {i := .fad 26 (.t 7) 0 0}, {i := .load 27 (.t 26) 0}, {i := .call 28 k_clause_Check [(.t 25), (.t 27)] none}, {i := .bin 29 .neq (.t 28) (.c (.d true (.int .i64 0)))}, {i := .mv 30 (.t 29)}, ⟨(.fad 31 (.t 7) 1 0), (some (30, false))⟩, ⟨(.load 32 (.t 31) 0), (some (30, false))⟩, ⟨(.len 33 (.t 32)), (some (30, false))⟩, ⟨(.fad 34 (.t 2) 0 0), (some (30, false))⟩, ⟨(.load 35 (.t 34) 0), (some (30, false))⟩, ⟨(.bin 36 .neq (.t 33) (.t 35)), (some (30, false))⟩, {i := .pick 37 (.t 30) (.c (.d true (.bool true))) (.t 36)}, {i := .mv 38 (.t 37)}, ⟨(.fad 39 (.t 7) 2 0), (some (38, false))⟩, ⟨(.load 40 (.t 39) 0), (some (38, false))⟩, ⟨(.bin 41 .lss (.t 40) (.c (.d true (.int .i64 (-1))))), (some (38, false))⟩, {i := .pick 42 (.t 38) (.c (.d true (.bool true))) (.t 41)}, {i := .mv 43 (.t 42)}, ⟨(.fad 44 (.t 7) 2 0), (some (43, false))⟩, ⟨(.load 45 (.t 44) 0), (some (43, false))⟩, ⟨(.mv 46 (.t 6)), (some (43, false))⟩, ⟨(.bin 47 .geq (.t 45) (.t 46)), (some (43, false))⟩, {i := .pick 48 (.t 43) (.c (.d true (.bool true))) (.t 47)}] [])
def c_queue_Right_l1 : C :=
(.seq (.rg 7 false [] [{i := .bin 19 .lss (.t 18) (.t 17)}] [])
 (.seq (.cond (.t 19) .skip (.exit 0))
 (.seq (.block 1 (.seq (.rg 8 false [(.kill 1 2)] [{i := .mv 20 (.t 18)}, {i := .ix 21 (.t 16) (.t 18) 3}, {i := .load 22 (.t 21) 4}, {i := .alloc 7 1 [(.n 1), (.n 1), (.k (.int .i64 0))]}, {i := .mv 6 (.t 20)}, {i := .store (.t 7) (.t 22) 4}] [])
 (.seq c_queue_Right_p1
 (.cond (.t 48) (.seq (.rg 10 false [] [{i := .mv 4 (.c (.d true (.int .i64 8)))}] [])
 .ret) .skip))))
 (.rg 11 false [] [{i := .bin 49 .add (.t 18) (.c (.d true (.int .i64 1)))}, {i := .mv 18 (.t 49)}] []))))
def c_queue_Right : C :=
(.seq (.rg 0 false [] [{i := .box 2 0 (.t 0) 6}, {i := .mv 4 (.c (.d true (.int .i64 0)))}] [])
 (.seq (.seq (.rg 1 false [] [{i := .load 8 (.t 2) 6}, {i := .call 9 k_gates_Check [(.t 8)] none}, {i := .mv 5 (.t 9)}] [])
 (.seq (.rg 2 false [] [{i := .mv 10 (.t 5)}, {i := .bin 11 .neq (.t 10) (.c (.d true (.int .i64 0)))}] [])
 (.cond (.t 11) (.seq (.rg 3 false [] [{i := .mv 12 (.t 5)}, {i := .mv 4 (.t 12)}] [])
 .ret) .skip)))
 (.seq (.seq (.rg 4 false [] [{i := .mv 13 (.t 1)}, {i := .len 14 (.t 13)}, {i := .bin 15 .gtr (.t 14) (.c (.d true (.int .i64 1000)))}] [])
 (.cond (.t 15) (.seq (.rg 5 false [] [{i := .mv 4 (.c (.d true (.int .i64 4)))}] [])
 .ret) .skip))
 (.seq (.seq (.rg 6 false [] [{i := .mv 16 (.t 1)}, {i := .len 17 (.t 16)}, {i := .mv 18 (.c (.d true (.int .i64 0)))}] [])
 (.block 0 (.loop c_queue_Right_l1)))
 (.seq (.rg 12 false [] [{i := .mv 4 (.c (.d true (.int .i64 0)))}] [])
 .ret)))))
def n_queue_Right : Fn := ⟨c_queue_Right, [.s 4], (some [false, false])⟩
def c_ref38_Right_p1 : C :=
(.rg 9 true [] [{i := .fad 21 (.t 2) 1 0}, {i := .load 22 (.t 21) 0}, {i := .len 23 (.t 22)}, {i := .mv 24 (.t 1)}, {i := .mv 25 (.t 6)}, {i := .ix 26 (.t 24) (.t 25) 3}, {i := .fad 27 (.t 26) 0 0}, {i := .load 28 (.t 27) 0}, {i := .call 29 k_ref13_Valid [(.t 23), (.t 28)] none}, {i := .un 30 .not (.t 29)}, {i := .mv 31 (.t 30)}, ⟨(.mv 32 (.t 1)), (some (31, false))⟩, ⟨(.mv 33 (.t 6)), (some (31, false))⟩, ⟨(.ix 34 (.t 32) (.t 33) 3), (some (31, false))⟩, ⟨(.fad 35 (.t 34) 1 0), (some (31, false))⟩, ⟨(.load 36 (.t 35) 0), (some (31, false))⟩, ⟨(.len 37 (.t 36)), (some (31, false))⟩, ⟨(.fad 38 (.t 2) 0 0), (some (31, false))⟩, ⟨(.load 39 (.t 38) 0), (some (31, false))⟩, ⟨(.bin 40 .neq (.t 37) (.t 39)), (some (31, false))⟩, {i := .pick 41 (.t 31) (.c (.d true (.bool true))) (.t 40)}, {i := .mv 42 (.t 41)}, ⟨(.mv 43 (.t 1)), (some (42, false))⟩, ⟨(.mv 44 (.t 6)), (some (42, false))⟩, ⟨(.ix 45 (.t 43) (.t 44) 3), (some (42, false))⟩, ⟨(.fad 46 (.t 45) 2 0), (some (42, false))⟩, ⟨(.load 47 (.t 46) 0), (some (42, false))⟩, ⟨(.bin 48 .lss (.t 47) (.c (.d true (.int .i64 (-1))))), (some (42, false))⟩, {i := .pick 49 (.t 42) (.c (.d true (.bool true))) (.t 48)}, {i := .mv 50 (.t 49)}, ⟨(.mv 51 (.t 1)), (some (50, false))⟩, ⟨(.mv 52 (.t 6)), (some (50, false))⟩, ⟨(.ix 53 (.t 51) (.t 52) 3), (some (50, false))⟩, ⟨(.fad 54 (.t 53) 2 0), (some (50, false))⟩, ⟨(.load 55 (.t 54) 0), (some (50, false))⟩, ⟨(.mv 56 (.t 6)), (some (50, false))⟩, ⟨(.bin 57 .geq (.t 55) (.t 56)), (some (50, false))⟩, {i := .pick 58 (.t 50) (.c (.d true (.bool true))) (.t 57)}] [])
def c_ref38_Right_l1 : C :=
(.seq (.seq (.rg 7 false [] [{i := .mv 15 (.t 6)}, {i := .mv 16 (.t 1)}, {i := .len 17 (.t 16)}, {i := .bin 18 .lss (.t 15) (.t 17)}] [])
 (.cond (.t 18) .skip (.exit 0)))
 (.seq (.block 1 (.seq c_ref38_Right_p1
 (.cond (.t 58) (.seq (.rg 10 false [] [{i := .mv 4 (.c (.d true (.int .i64 8)))}] [])
 .ret) .skip)))
 (.rg 8 false [] [{i := .mv 19 (.t 6)}, {i := .bin 20 .add (.t 19) (.c (.d true (.int .i64 1)))}, {i := .mv 6 (.t 20)}] [])))
def c_ref38_Right : C :=
(.seq (.rg 0 false [] [{i := .box 2 0 (.t 0) 6}, {i := .mv 4 (.c (.d true (.int .i64 0)))}] [])
 (.seq (.seq (.rg 1 false [] [{i := .load 7 (.t 2) 6}, {i := .call 8 k_ref02_Check [(.t 7)] none}, {i := .mv 5 (.t 8)}] [])
 (.seq (.rg 2 false [] [{i := .mv 9 (.t 5)}, {i := .bin 10 .neq (.t 9) (.c (.d true (.int .i64 0)))}] [])
 (.cond (.t 10) (.seq (.rg 3 false [] [{i := .mv 11 (.t 5)}, {i := .mv 4 (.t 11)}] [])
 .ret) .skip)))
 (.seq (.seq (.rg 4 false [] [{i := .mv 12 (.t 1)}, {i := .len 13 (.t 12)}, {i := .bin 14 .gtr (.t 13) (.c (.d true (.int .i64 1000)))}] [])
 (.cond (.t 14) (.seq (.rg 5 false [] [{i := .mv 4 (.c (.d true (.int .i64 4)))}] [])
 .ret) .skip))
 (.seq (.seq (.rg 6 false [] [{i := .mv 6 (.c (.d true (.int .i64 0)))}] [])
 (.block 0 (.loop c_ref38_Right_l1)))
 (.seq (.rg 11 false [] [{i := .mv 4 (.c (.d true (.int .i64 0)))}] [])
 .ret)))))
def n_ref38_Right : Fn := ⟨c_ref38_Right, [.s 4], (some [false, false])⟩
def c_ref13_Same_l1 : C :=
(.seq (.seq (.rg 4 false [] [{i := .mv 11 (.t 5)}, {i := .mv 12 (.t 0)}, {i := .len 13 (.t 12)}, {i := .bin 14 .lss (.t 11) (.t 13)}] [])
 (.cond (.t 14) .skip (.exit 0)))
 (.seq (.block 1 (.seq (.rg 6 true [] [{i := .mv 17 (.t 0)}, {i := .mv 18 (.t 5)}, {i := .ix 19 (.t 17) (.t 18) 1}, {i := .load 20 (.t 19) 0}, {i := .mv 21 (.t 1)}, {i := .mv 22 (.t 5)}, {i := .ix 23 (.t 21) (.t 22) 1}, {i := .load 24 (.t 23) 0}, {i := .bin 25 .neq (.t 20) (.t 24)}] [])
 (.cond (.t 25) (.seq (.rg 7 false [] [{i := .mv 4 (.c (.d true (.bool false)))}] [])
 .ret) .skip)))
 (.rg 5 false [] [{i := .mv 15 (.t 5)}, {i := .bin 16 .add (.t 15) (.c (.d true (.int .i64 1)))}, {i := .mv 5 (.t 16)}] [])))
def c_ref13_Same : C :=
(.seq (.rg 0 false [] [{i := .mv 4 (.c (.d true (.bool false)))}] [])
 (.seq (.seq (.rg 1 false [] [{i := .mv 6 (.t 0)}, {i := .len 7 (.t 6)}, {i := .mv 8 (.t 1)}, {i := .len 9 (.t 8)}, {i := .bin 10 .neq (.t 7) (.t 9)}] [])
 (.cond (.t 10) (.seq (.rg 2 false [] [{i := .mv 4 (.c (.d true (.bool false)))}] [])
 .ret) .skip))
 (.seq (.seq (.rg 3 false [] [{i := .mv 5 (.c (.d true (.int .i64 0)))}] [])
 (.block 0 (.loop c_ref13_Same_l1)))
 (.seq (.rg 8 false [] [{i := .mv 4 (.c (.d true (.bool true)))}] [])
 .ret))))
def n_ref13_Same : Fn := ⟨c_ref13_Same, [.s 4], (some [false, false])⟩
def c_queue_Push_l1 : C :=
(.seq (.rg 10 false [] [{i := .bin 26 .lss (.t 25) (.t 24)}] [])
 (.seq (.cond (.t 26) .skip (.exit 0))
 (.seq (.block 1 (.seq (.rg 11 false [.kill 1 2] [{i := .mv 27 (.t 25)}, {i := .ix 28 (.t 23) (.t 25) 2}, {i := .load 29 (.t 28) 3}, {i := .alloc 9 1 [.k (.int .i64 0), .k (.int .i64 0)]}, {i := .mv 8 (.t 27)}, {i := .store (.t 9) (.t 29) 3}] [])
 (.seq (.rg 12 false [] [{i := .load 30 (.t 3) 3}, {i := .load 31 (.t 9) 3}, {i := .call 32 k_queue_order [(.t 30), (.t 31)] none}, {i := .bin 33 .lss (.t 32) (.c (.d true (.int .i64 0)))}] [])
 (.cond (.t 33) (.seq (.rg 13 false [] [{i := .mv 34 (.t 8)}, {i := .mv 7 (.t 34)}] [])
 (.exit 0)) .skip))))
 (.rg 14 false [] [{i := .bin 35 .add (.t 25) (.c (.d true (.int .i64 1)))}, {i := .mv 25 (.t 35)}] []))))
def c_queue_Push : C :=
(.seq (.rg 0 false [] [{i := .box 3 0 (.t 1) 3}, {i := .mv 4 (.c (.nil 2))}, {i := .mv 5 (.c (.d true (.int .i64 0)))}] [])
 (.seq .skip (.seq (.seq (.rg 1 false [] [{i := .mv 10 (.t 0)}, {i := .call 11 k_queue_Check [(.t 10)] none}, {i := .mv 6 (.t 11)}] [])
 (.seq (.rg 2 false [] [{i := .mv 12 (.t 6)}, {i := .bin 13 .neq (.t 12) (.c (.d true (.int .i64 0)))}] [])
 (.cond (.t 13) (.seq (.rg 3 false [] [{i := .mv 14 (.t 6)}, {i := .mv 4 (.c (.nil 2))}, {i := .mv 5 (.t 14)}] [])
 .ret) .skip)))
 (.seq (.seq (.rg 4 false [] [{i := .load 15 (.t 3) 3}, {i := .call 16 k_queue_may [(.t 15)] none}, {i := .un 17 .not (.t 16)}] [])
 (.cond (.t 17) (.seq (.rg 5 false [] [{i := .mv 4 (.c (.nil 2))}, {i := .mv 5 (.c (.d true (.int .i64 2)))}] [])
 .ret) .skip))
 (.seq (.seq (.rg 6 false [] [{i := .mv 18 (.t 0)}, {i := .len 19 (.t 18)}, {i := .bin 20 .eql (.t 19) (.c (.d true (.int .i64 1000)))}] [])
 (.cond (.t 20) (.seq (.rg 7 false [] [{i := .mv 4 (.c (.nil 2))}, {i := .mv 5 (.c (.d true (.int .i64 4)))}] [])
 .ret) .skip))
 (.seq (.rg 8 false [] [{i := .mv 21 (.t 0)}, {i := .len 22 (.t 21)}, {i := .mv 7 (.t 22)}] [])
 (.seq .skip
 (.seq (.seq (.rg 9 false [] [{i := .mv 23 (.t 0)}, {i := .len 24 (.t 23)}, {i := .mv 25 (.c (.d true (.int .i64 0)))}] [])
 (.block 0 (.loop c_queue_Push_l1)))
 (.seq (.rg 15 true [] [{i := .mv 36 (.t 0)}, {i := .call 37 k_slices_Clone_of_api_Wait [(.t 36)] (some 40)}, {i := .mv 38 (.t 7)}, {i := .load 39 (.t 3) 3}, {i := .bsl 40 2 2 1 (.k (.agg [(.int .i64 0), (.int .i64 0)])) [(0, (.t 39))]}, {i := .call 41 k_slices_Insert_of_api_Wait [(.t 37), (.t 38), (.t 40)] (some 44)}, {i := .mv 4 (.t 41)}, {i := .mv 5 (.c (.d true (.int .i64 0)))}] [[0, 2, 3, 1, 4, 5, 6, 7], [0, 2, 3, 4, 1, 5, 6, 7]])
 .ret)))))))))
def n_queue_Push : Fn := ⟨c_queue_Push, [.s 4, .s 5], (some [false, false])⟩
def c_queue_Pop : C :=
(.seq (.rg 0 false [] [{i := .alloc 2 0 [.k (.int .i64 0), .k (.int .i64 0)]}, {i := .mv 3 (.c (.nil 2))}, {i := .mv 4 (.c (.d true (.int .i64 0)))}] [])
 (.seq (.seq (.rg 1 false [] [{i := .mv 6 (.t 0)}, {i := .call 7 k_queue_Check [(.t 6)] none}, {i := .mv 5 (.t 7)}] [])
 (.seq (.rg 2 false [] [{i := .mv 8 (.t 5)}, {i := .bin 9 .neq (.t 8) (.c (.d true (.int .i64 0)))}] [])
 (.cond (.t 9) (.seq (.rg 3 false [] [{i := .bld 10 [.k (.int .i64 0), .k (.int .i64 0)] []}, {i := .mv 11 (.t 5)}, {i := .store (.t 2) (.t 10) 3}, {i := .mv 3 (.c (.nil 2))}, {i := .mv 4 (.t 11)}] [])
 .ret) .skip)))
 (.seq (.seq (.rg 4 false [] [{i := .mv 12 (.t 0)}, {i := .len 13 (.t 12)}, {i := .bin 14 .eql (.t 13) (.c (.d true (.int .i64 0)))}] [])
 (.cond (.t 14) (.seq (.rg 5 false [] [{i := .bld 15 [.k (.int .i64 0), .k (.int .i64 0)] []}, {i := .store (.t 2) (.t 15) 3}, {i := .mv 3 (.c (.nil 2))}, {i := .mv 4 (.c (.d true (.int .i64 6)))}] [])
 .ret) .skip))
 (.seq (.rg 6 true [] [{i := .mv 16 (.t 0)}, {i := .ix 17 (.t 16) (.c (.d true (.int .i64 0))) 2}, {i := .load 18 (.t 17) 3}, {i := .mv 19 (.t 0)}, {i := .slc 20 2 (.t 19) (some (.c (.d true (.int .i64 1)))) none none}, {i := .call 21 k_slices_Clone_of_api_Wait [(.t 20)] none}, {i := .store (.t 2) (.t 18) 3}, {i := .mv 3 (.t 21)}, {i := .mv 4 (.c (.d true (.int .i64 0)))}] [[0, 1, 3, 4, 5, 2, 6, 7, 8], [0, 3, 4, 5, 1, 2, 6, 7, 8]])
 .ret))))
def n_queue_Pop : Fn := ⟨c_queue_Pop, [.c 2 3, .s 3, .s 4], (some [false])⟩
def c_queue_Check_l1 : C :=
(.seq (.rg 4 false [] [{i := .bin 11 .lss (.t 10) (.t 9)}] [])
 (.seq (.cond (.t 11) .skip (.exit 0))
 (.seq (.block 1 (.seq (.rg 5 false [(.kill 0 1)] [{i := .ix 12 (.t 8) (.t 10) 2}, {i := .load 13 (.t 12) 3}, {i := .alloc 4 0 [(.k (.int .i64 0)), (.k (.int .i64 0))]}, {i := .store (.t 4) (.t 13) 3}] [])
 (.seq (.rg 6 false [] [{i := .load 14 (.t 4) 3}, {i := .call 15 k_queue_may [(.t 14)] none}, {i := .un 16 .not (.t 15)}] [])
 (.cond (.t 16) (.seq (.rg 7 false [] [{i := .mv 2 (.c (.d true (.int .i64 8)))}] [])
 .ret) .skip))))
 (.rg 8 false [] [{i := .bin 17 .add (.t 10) (.c (.d true (.int .i64 1)))}, {i := .mv 10 (.t 17)}] []))))
def c_queue_Check_p1 : C :=
(.rg 9 false [] [{i := .mv 18 (.t 0)}, {i := .call 19 k_slices_IsSortedFunc_of_api_Wait [(.t 18), (.c (.cl k_queue_order []))] none}, {i := .un 20 .not (.t 19)}] [])
def c_queue_Check : C :=
(.seq (.rg 0 false [] [{i := .mv 2 (.c (.d true (.int .i64 0)))}] [])
 (.seq (.seq (.rg 1 false [] [{i := .mv 5 (.t 0)}, {i := .len 6 (.t 5)}, {i := .bin 7 .gtr (.t 6) (.c (.d true (.int .i64 1000)))}] [])
 (.cond (.t 7) (.seq (.rg 2 false [] [{i := .mv 2 (.c (.d true (.int .i64 4)))}] [])
 .ret) .skip))
 (.seq (.seq (.rg 3 false [] [{i := .mv 8 (.t 0)}, {i := .len 9 (.t 8)}, {i := .mv 10 (.c (.d true (.int .i64 0)))}] [])
 (.block 0 (.loop c_queue_Check_l1)))
 (.seq (.seq c_queue_Check_p1
 (.cond (.t 20) (.seq (.rg 10 false [] [{i := .mv 2 (.c (.d true (.int .i64 8)))}] [])
 .ret) .skip))
 (.seq (.rg 11 false [] [{i := .mv 2 (.c (.d true (.int .i64 0)))}] [])
 .ret)))))
def n_queue_Check : Fn := ⟨c_queue_Check, [.s 2], (some [false])⟩
def c_ref38_Same_p1 : C :=
(.rg 6 true [] [{i := .mv 17 (.t 0)}, {i := .mv 18 (.t 5)}, {i := .ix 19 (.t 17) (.t 18) 2}, {i := .load 20 (.t 19) 3}, {i := .mv 21 (.t 1)}, {i := .mv 22 (.t 5)}, {i := .ix 23 (.t 21) (.t 22) 2}, {i := .load 24 (.t 23) 3}, {i := .eqs 25 true [true, true] (.t 20) (.t 24)}] [])
def c_ref38_Same_l1 : C :=
(.seq (.seq (.rg 4 false [] [{i := .mv 11 (.t 5)}, {i := .mv 12 (.t 0)}, {i := .len 13 (.t 12)}, {i := .bin 14 .lss (.t 11) (.t 13)}] [])
 (.cond (.t 14) .skip (.exit 0)))
 (.seq (.block 1 (.seq c_ref38_Same_p1
 (.cond (.t 25) (.seq (.rg 7 false [] [{i := .mv 4 (.c (.d true (.bool false)))}] [])
 .ret) .skip)))
 (.rg 5 false [] [{i := .mv 15 (.t 5)}, {i := .bin 16 .add (.t 15) (.c (.d true (.int .i64 1)))}, {i := .mv 5 (.t 16)}] [])))
def c_ref38_Same : C :=
(.seq (.rg 0 false [] [{i := .mv 4 (.c (.d true (.bool false)))}] [])
 (.seq (.seq (.rg 1 false [] [{i := .mv 6 (.t 0)}, {i := .len 7 (.t 6)}, {i := .mv 8 (.t 1)}, {i := .len 9 (.t 8)}, {i := .bin 10 .neq (.t 7) (.t 9)}] [])
 (.cond (.t 10) (.seq (.rg 2 false [] [{i := .mv 4 (.c (.d true (.bool false)))}] [])
 .ret) .skip))
 (.seq (.seq (.rg 3 false [] [{i := .mv 5 (.c (.d true (.int .i64 0)))}] [])
 (.block 0 (.loop c_ref38_Same_l1)))
 (.seq (.rg 8 false [] [{i := .mv 4 (.c (.d true (.bool true)))}] [])
 .ret))))
def n_ref38_Same : Fn := ⟨c_ref38_Same, [.s 4], (some [false, false])⟩
def c_law38_alive_p1 : C :=
(.rg 4 false [] [{i := .mv 29 (.t 2)}, {i := .bin 30 .eql (.t 29) (.c (.d true (.int .i64 0)))}, {i := .mv 31 (.t 30)}, ⟨(.mv 32 (.t 4)), (some (31, true))⟩, {i := .pick 33 (.t 31) (.t 32) (.c (.d true (.bool false)))}, {i := .mv 34 (.t 33)}, ⟨(.mv 35 (.t 3)), (some (34, true))⟩, ⟨(.bld 36 [(.k (.int .i64 0)), (.k (.int .i64 0))] [(0, 0, (.c (.d true (.int .i64 1))))]), (some (34, true))⟩, ⟨(.bld 37 [(.k (.int .i64 0)), (.k (.int .i64 0))] [(0, 0, (.c (.d true (.int .i64 1)))), (1, 0, (.c (.d true (.int .i64 3))))]), (some (34, true))⟩, ⟨(.bld 38 [(.k (.int .i64 0)), (.k (.int .i64 0))] [(0, 0, (.c (.d true (.int .i64 2)))), (1, 0, (.c (.d true (.int .i64 1))))]), (some (34, true))⟩, ⟨(.bsl 39 2 2 3 (.k (.agg [(.int .i64 0), (.int .i64 0)])) [(0, (.t 36)), (1, (.t 37)), (2, (.t 38))]), (some (34, true))⟩, ⟨(.call 40 k_ref38_Same [(.t 35), (.t 39)] none), (some (34, true))⟩, {i := .pick 41 (.t 34) (.t 40) (.c (.d true (.bool false)))}, {i := .mv 42 (.t 41)}, ⟨(.mv 43 (.t 6)), (some (42, true))⟩, ⟨(.bin 44 .eql (.t 43) (.c (.d true (.int .i64 0)))), (some (42, true))⟩, {i := .pick 45 (.t 42) (.t 44) (.c (.d true (.bool false)))}, {i := .mv 46 (.t 45)}, ⟨(.mv 47 (.t 5)), (some (46, true))⟩, ⟨(.bsl 48 3 1 3 (.k (.int .i64 0)) [(0, (.c (.d true (.int .i64 2)))), (1, (.c (.d true (.int .i64 1)))), (2, (.c (.d true (.int .i64 0))))]), (some (46, true))⟩, ⟨(.call 49 k_ref13_Same [(.t 47), (.t 48)] none), (some (46, true))⟩, {i := .pick 50 (.t 46) (.t 49) (.c (.d true (.bool false)))}, {i := .mv 0 (.t 50)}] [])
def c_law38_alive : C :=
(.seq (.rg 0 false [] [{i := .mv 0 (.c (.d true (.bool false)))}] [])
 (.seq (.rg 1 false [] [{i := .bld 8 [(.k (.int .i64 0)), (.k (.int .i64 0))] [(0, 0, (.c (.d true (.int .i64 2)))), (1, 0, (.c (.d true (.int .i64 1))))]}, {i := .bld 9 [(.k (.int .i64 0)), (.k (.int .i64 0))] [(0, 0, (.c (.d true (.int .i64 1))))]}, {i := .bld 10 [(.k (.int .i64 0)), (.k (.int .i64 0))] [(0, 0, (.c (.d true (.int .i64 1)))), (1, 0, (.c (.d true (.int .i64 3))))]}, {i := .bsl 11 0 2 3 (.k (.agg [(.int .i64 0), (.int .i64 0)])) [(0, (.t 8)), (1, (.t 9)), (2, (.t 10))]}, {i := .call 12 k_law38_pushed [(.t 11)] none}, {i := .mv 7 (.t 12)}, {i := .xt 13 (.t 7) 0}, {i := .xt 14 (.t 7) 1}, {i := .mv 1 (.t 13)}, {i := .mv 2 (.t 14)}] [])
 (.seq (.rg 2 false [] [{i := .mv 16 (.t 1)}, {i := .call 17 k_law38_popped [(.t 16)] none}, {i := .mv 15 (.t 17)}, {i := .xt 18 (.t 15) 0}, {i := .xt 19 (.t 15) 1}, {i := .mv 3 (.t 18)}, {i := .mv 4 (.t 19)}] [])
 (.seq (.rg 3 false [] [{i := .bld 21 [(.k (.int .i64 0)), (.n 2), (.n 2), (.n 1), (.n 1)] []}, {i := .bld 22 [(.n 1), (.n 1), (.k (.int .i64 0))] [(2, 0, (.c (.d true (.int .i64 (-1)))))]}, {i := .bld 23 [(.n 1), (.n 1), (.k (.int .i64 0))] []}, {i := .bld 24 [(.n 1), (.n 1), (.k (.int .i64 0))] [(2, 0, (.c (.d true (.int .i64 1))))]}, {i := .bsl 25 1 3 3 (.k (.agg [(.lst 1 []), (.lst 1 []), (.int .i64 0)])) [(0, (.t 22)), (1, (.t 23)), (2, (.t 24))]}, {i := .call 26 k_queue_Chain [(.t 21), (.t 25), (.c (.d true (.int .i64 2)))] none}, {i := .mv 20 (.t 26)}, {i := .xt 27 (.t 20) 0}, {i := .xt 28 (.t 20) 1}, {i := .mv 5 (.t 27)}, {i := .mv 6 (.t 28)}] [])
 (.seq c_law38_alive_p1
 .ret)))))
def n_law38_alive : Fn := ⟨c_law38_alive, [.s 0], (some [])⟩
def c_law38_pushed_l1 : C :=
(.seq (.seq (.rg 3 false [] [{i := .mv 8 (.t 5)}, {i := .mv 9 (.t 0)}, {i := .len 10 (.t 9)}, {i := .bin 11 .lss (.t 8) (.t 10)}] [])
 (.cond (.t 11) .skip (.exit 0)))
 (.seq (.block 1 (.seq (.rg 5 false [] [{i := .mv 15 (.t 4)}, {i := .mv 16 (.t 0)}, {i := .mv 17 (.t 5)}, {i := .ix 18 (.t 16) (.t 17) 2}, {i := .load 19 (.t 18) 3}, {i := .call 20 k_queue_Push [(.t 15), (.t 19)] none}, {i := .mv 14 (.t 20)}, {i := .xt 21 (.t 14) 0}, {i := .xt 22 (.t 14) 1}, {i := .mv 6 (.t 21)}, {i := .mv 7 (.t 22)}] [])
 (.seq (.seq (.rg 6 false [] [{i := .mv 23 (.t 7)}, {i := .bin 24 .neq (.t 23) (.c (.d true (.int .i64 0)))}] [])
 (.cond (.t 24) (.seq (.rg 7 false [] [{i := .mv 25 (.t 7)}, {i := .mv 2 (.c (.nil 2))}, {i := .mv 3 (.t 25)}] [])
 .ret) .skip))
 (.rg 8 false [] [{i := .mv 26 (.t 6)}, {i := .mv 4 (.t 26)}] []))))
 (.rg 4 false [] [{i := .mv 12 (.t 5)}, {i := .bin 13 .add (.t 12) (.c (.d true (.int .i64 1)))}, {i := .mv 5 (.t 13)}] [])))
def c_law38_pushed : C :=
(.seq (.rg 0 false [] [{i := .mv 2 (.c (.nil 2))}, {i := .mv 3 (.c (.d true (.int .i64 0)))}] [])
 (.seq (.rg 1 false [] [{i := .mv 4 (.c (.nil 2))}] [])
 (.seq (.seq (.rg 2 false [] [{i := .mv 5 (.c (.d true (.int .i64 0)))}] [])
 (.block 0 (.loop c_law38_pushed_l1)))
 (.seq (.rg 9 false [] [{i := .mv 27 (.t 4)}, {i := .mv 2 (.t 27)}, {i := .mv 3 (.c (.d true (.int .i64 0)))}] [])
 .ret))))
def n_law38_pushed : Fn := ⟨c_law38_pushed, [.s 2, .s 3], (some [false])⟩
def c_law38_popped_l1 : C :=
(.seq (.seq (.rg 3 false [] [{i := .mv 9 (.t 5)}, {i := .bin 10 .leq (.t 9) (.c (.d true (.int .i64 2000)))}] [])
 (.cond (.t 10) .skip (.exit 0)))
 (.seq (.block 1 (.seq (.rg 5 false [.kill 1 2] [{i := .mv 14 (.t 0)}, {i := .call 15 k_queue_Pop [(.t 14)] none}, {i := .mv 13 (.t 15)}, {i := .xt 16 (.t 13) 0}, {i := .xt 17 (.t 13) 1}, {i := .xt 18 (.t 13) 2}, {i := .alloc 6 1 [.k (.int .i64 0), .k (.int .i64 0)]}, {i := .store (.t 6) (.t 16) 3}, {i := .mv 7 (.t 17)}, {i := .mv 8 (.t 18)}] [])
 (.seq (.seq (.rg 6 false [] [{i := .mv 19 (.t 8)}, {i := .bin 20 .neq (.t 19) (.c (.d true (.int .i64 0)))}] [])
 (.cond (.t 20) (.seq (.rg 7 false [] [{i := .mv 21 (.t 4)}, {i := .mv 22 (.t 8)}, {i := .bin 23 .eql (.t 22) (.c (.d true (.int .i64 6)))}, {i := .mv 2 (.t 21)}, {i := .mv 3 (.t 23)}] [])
 .ret) .skip))
 (.rg 8 false [.kill 2 3] [{i := .mv 24 (.t 4)}, {i := .load 25 (.t 6) 3}, {i := .bsl 26 2 2 1 (.k (.agg [(.int .i64 0), (.int .i64 0)])) [(0, (.t 25))]}, {i := .app 27 3 2 (.t 24) (.t 26)}, {i := .mv 28 (.t 7)}, {i := .mv 4 (.t 27)}, {i := .mv 0 (.t 28)}] []))))
 (.rg 4 false [] [{i := .mv 11 (.t 5)}, {i := .bin 12 .add (.t 11) (.c (.d true (.int .i64 1)))}, {i := .mv 5 (.t 12)}] [])))
def c_law38_popped : C :=
(.seq (.rg 0 false [] [{i := .mv 2 (.c (.nil 2))}, {i := .mv 3 (.c (.d true (.bool false)))}] [])
 (.seq (.rg 1 false [] [{i := .nilr 4 0 2}] [])
 (.seq (.seq (.rg 2 false [] [{i := .mv 5 (.c (.d true (.int .i64 0)))}] [])
 (.block 0 (.loop c_law38_popped_l1)))
 (.seq (.rg 9 false [] [{i := .mv 29 (.t 4)}, {i := .mv 2 (.t 29)}, {i := .mv 3 (.c (.d true (.bool false)))}] [])
 .ret))))
def n_law38_popped : Fn := ⟨c_law38_popped, [.s 2, .s 3], (some [false])⟩
def c_ref02_Great_p1 : C :=
(.rg 1 false [] [{i := .fad 3 (.t 1) 1 0}, {i := .load 4 (.t 3) 0}, {i := .len 5 (.t 4)}, {i := .bin 6 .gtr (.t 5) (.c (.d true (.int .i64 60)))}, {i := .mv 7 (.t 6)}, ⟨(.fad 8 (.t 1) 2 0), (some (7, false))⟩, ⟨(.load 9 (.t 8) 0), (some (7, false))⟩, ⟨(.len 10 (.t 9)), (some (7, false))⟩, ⟨(.bin 11 .gtr (.t 10) (.c (.d true (.int .i64 120)))), (some (7, false))⟩, {i := .pick 12 (.t 7) (.c (.d true (.bool true))) (.t 11)}, {i := .mv 13 (.t 12)}, ⟨(.fad 14 (.t 1) 3 0), (some (13, false))⟩, ⟨(.load 15 (.t 14) 0), (some (13, false))⟩, ⟨(.len 16 (.t 15)), (some (13, false))⟩, ⟨(.bin 17 .gtr (.t 16) (.c (.d true (.int .i64 110)))), (some (13, false))⟩, {i := .pick 18 (.t 13) (.c (.d true (.bool true))) (.t 17)}, {i := .mv 19 (.t 18)}, ⟨(.fad 20 (.t 1) 4 0), (some (19, false))⟩, ⟨(.load 21 (.t 20) 0), (some (19, false))⟩, ⟨(.len 22 (.t 21)), (some (19, false))⟩, ⟨(.bin 23 .gtr (.t 22) (.c (.d true (.int .i64 110)))), (some (19, false))⟩, {i := .pick 24 (.t 19) (.c (.d true (.bool true))) (.t 23)}, {i := .mv 25 (.t 24)}, ⟨(.fad 26 (.t 1) 0 0), (some (25, false))⟩, ⟨(.load 27 (.t 26) 0), (some (25, false))⟩, ⟨(.bin 28 .gtr (.t 27) (.c (.d true (.int .i64 40)))), (some (25, false))⟩, ⟨(.mv 29 (.t 28)), (some (25, false))⟩, ⟨(.fad 30 (.t 1) 0 0), (some (29, true))⟩, ⟨(.load 31 (.t 30) 0), (some (29, true))⟩, ⟨(.bin 32 .lss (.t 31) (.c (.d true (.int .i64 996)))), (some (29, true))⟩, ⟨(.pick 33 (.t 29) (.t 32) (.c (.d true (.bool false)))), (some (25, false))⟩, {i := .pick 34 (.t 25) (.c (.d true (.bool true))) (.t 33)}, {i := .mv 2 (.t 34)}] [])
def c_ref02_Great : C :=
(.seq (.rg 0 false [] [{i := .box 1 0 (.t 0) 6}, {i := .mv 2 (.c (.d true (.bool false)))}] [])
 (.seq c_ref02_Great_p1
 .ret))
def n_ref02_Great : Fn := ⟨c_ref02_Great, [.s 2], (some [false])⟩
def c_ref02_Check_p1 : C :=
(.rg 3 false [] [{i := .fad 10 (.t 1) 0 0}, {i := .load 11 (.t 10) 0}, {i := .bin 12 .gtr (.t 11) (.c (.d true (.int .i64 1000)))}, {i := .mv 13 (.t 12)}, ⟨(.load 14 (.t 1) 6), (some (13, false))⟩, ⟨(.call 15 k_ref02_Size [(.t 14)] none), (some (13, false))⟩, ⟨(.bin 16 .gtr (.t 15) (.c (.d true (.int .i64 1000)))), (some (13, false))⟩, {i := .pick 17 (.t 13) (.c (.d true (.bool true))) (.t 16)}, {i := .mv 18 (.t 17)}, ⟨(.fad 19 (.t 1) 3 0), (some (18, false))⟩, ⟨(.load 20 (.t 19) 0), (some (18, false))⟩, ⟨(.len 21 (.t 20)), (some (18, false))⟩, ⟨(.bin 22 .gtr (.t 21) (.c (.d true (.int .i64 100)))), (some (18, false))⟩, {i := .pick 23 (.t 18) (.c (.d true (.bool true))) (.t 22)}, {i := .mv 24 (.t 23)}, ⟨(.fad 25 (.t 1) 4 0), (some (24, false))⟩, ⟨(.load 26 (.t 25) 0), (some (24, false))⟩, ⟨(.len 27 (.t 26)), (some (24, false))⟩, ⟨(.bin 28 .gtr (.t 27) (.c (.d true (.int .i64 100)))), (some (24, false))⟩, {i := .pick 29 (.t 24) (.c (.d true (.bool true))) (.t 28)}] [])
def c_ref02_Check_p2 : C :=
(.rg 6 false [] [{i := .fad 32 (.t 1) 3 0}, {i := .load 33 (.t 32) 0}, {i := .mv 34 (.t 3)}, {i := .call 35 k_ref02_literals [(.t 33), (.t 34)] none}, {i := .un 36 .not (.t 35)}, {i := .mv 37 (.t 36)}, ⟨(.fad 38 (.t 1) 4 0), (some (37, false))⟩, ⟨(.load 39 (.t 38) 0), (some (37, false))⟩, ⟨(.mv 40 (.t 3)), (some (37, false))⟩, ⟨(.call 41 k_ref02_literals [(.t 39), (.t 40)] none), (some (37, false))⟩, ⟨(.un 42 .not (.t 41)), (some (37, false))⟩, {i := .pick 43 (.t 37) (.c (.d true (.bool true))) (.t 42)}] [])
def c_ref02_Check_p3 : C :=
(.rg 11 false [(.kill 1 2)] [{i := .fad 51 (.t 1) 1 0}, {i := .load 52 (.t 51) 0}, {i := .mv 53 (.t 4)}, {i := .ix 54 (.t 52) (.t 53) 2}, {i := .fad 55 (.t 54) 0 0}, {i := .load 56 (.t 55) 0}, {i := .bsl 57 1 1 1 (.k (.int .i64 0)) [(0, (.t 56))]}, {i := .mv 58 (.t 3)}, {i := .call 59 k_ref02_literals [(.t 57), (.t 58)] none}, {i := .un 60 .not (.t 59)}, {i := .mv 61 (.t 60)}, ⟨(.fad 62 (.t 1) 1 0), (some (61, false))⟩, ⟨(.load 63 (.t 62) 0), (some (61, false))⟩, ⟨(.mv 64 (.t 4)), (some (61, false))⟩, ⟨(.ix 65 (.t 63) (.t 64) 2), (some (61, false))⟩, ⟨(.fad 66 (.t 65) 1 0), (some (61, false))⟩, ⟨(.load 67 (.t 66) 0), (some (61, false))⟩, ⟨(.bin 68 .lss (.t 67) (.c (.d true (.int .i64 0)))), (some (61, false))⟩, {i := .pick 69 (.t 61) (.c (.d true (.bool true))) (.t 68)}, {i := .mv 70 (.t 69)}, ⟨(.fad 71 (.t 1) 1 0), (some (70, false))⟩, ⟨(.load 72 (.t 71) 0), (some (70, false))⟩, ⟨(.mv 73 (.t 4)), (some (70, false))⟩, ⟨(.ix 74 (.t 72) (.t 73) 2), (some (70, false))⟩, ⟨(.fad 75 (.t 74) 1 0), (some (70, false))⟩, ⟨(.load 76 (.t 75) 0), (some (70, false))⟩, ⟨(.bin 77 .gtr (.t 76) (.c (.d true (.int .i64 2)))), (some (70, false))⟩, {i := .pick 78 (.t 70) (.c (.d true (.bool true))) (.t 77)}] [])
def c_ref02_Check_l1 : C :=
(.seq (.seq (.rg 9 false [] [{i := .mv 44 (.t 4)}, {i := .fad 45 (.t 1) 1 0}, {i := .load 46 (.t 45) 0}, {i := .len 47 (.t 46)}, {i := .bin 48 .lss (.t 44) (.t 47)}] [])
 (.cond (.t 48) .skip (.exit 0)))
 (.seq (.block 1 (.seq c_ref02_Check_p3
 (.cond (.t 78) (.seq (.rg 12 false [] [{i := .mv 2 (.c (.d true (.int .i64 8)))}] [])
 .ret) .skip)))
 (.rg 10 false [] [{i := .mv 49 (.t 4)}, {i := .bin 50 .add (.t 49) (.c (.d true (.int .i64 1)))}, {i := .mv 4 (.t 50)}] [])))
def c_ref02_Check_p4 : C :=
(.rg 17 false [] [{i := .fad 91 (.t 6) 1 0}, {i := .load 92 (.t 91) 0}, {i := .bin 93 .lss (.t 92) (.c (.d true (.int .i64 0)))}, {i := .mv 94 (.t 93)}, ⟨(.fad 95 (.t 6) 0 0), (some (94, false))⟩, ⟨(.load 96 (.t 95) 0), (some (94, false))⟩, ⟨(.fad 97 (.t 6) 1 0), (some (94, false))⟩, ⟨(.load 98 (.t 97) 0), (some (94, false))⟩, ⟨(.bin 99 .lss (.t 96) (.t 98)), (some (94, false))⟩, {i := .pick 100 (.t 94) (.c (.d true (.bool true))) (.t 99)}, {i := .mv 101 (.t 100)}, ⟨(.fad 102 (.t 6) 0 0), (some (101, false))⟩, ⟨(.load 103 (.t 102) 0), (some (101, false))⟩, ⟨(.bin 104 .quo (.t 103) (.c (.d true (.int .i64 2)))), (some (101, false))⟩, ⟨(.fad 105 (.t 1) 0 0), (some (101, false))⟩, ⟨(.load 106 (.t 105) 0), (some (101, false))⟩, ⟨(.fad 107 (.t 1) 1 0), (some (101, false))⟩, ⟨(.load 108 (.t 107) 0), (some (101, false))⟩, ⟨(.len 109 (.t 108)), (some (101, false))⟩, ⟨(.bin 110 .add (.t 106) (.t 109)), (some (101, false))⟩, ⟨(.mv 111 (.t 5)), (some (101, false))⟩, ⟨(.bin 112 .add (.t 110) (.t 111)), (some (101, false))⟩, ⟨(.bin 113 .gtr (.t 104) (.t 112)), (some (101, false))⟩, {i := .pick 114 (.t 101) (.c (.d true (.bool true))) (.t 113)}] [])
def c_ref02_Check_l2 : C :=
(.seq (.seq (.rg 14 false [] [{i := .mv 79 (.t 5)}, {i := .fad 80 (.t 1) 2 0}, {i := .load 81 (.t 80) 0}, {i := .len 82 (.t 81)}, {i := .bin 83 .lss (.t 79) (.t 82)}] [])
 (.cond (.t 83) .skip (.exit 2)))
 (.seq (.block 3 (.seq (.rg 16 false [(.kill 2 3)] [{i := .fad 86 (.t 1) 2 0}, {i := .load 87 (.t 86) 0}, {i := .mv 88 (.t 5)}, {i := .ix 89 (.t 87) (.t 88) 2}, {i := .load 90 (.t 89) 3}, {i := .alloc 6 2 [(.k (.int .i64 0)), (.k (.int .i64 0))]}, {i := .store (.t 6) (.t 90) 3}] [])
 (.seq c_ref02_Check_p4
 (.cond (.t 114) (.seq (.rg 18 false [] [{i := .mv 2 (.c (.d true (.int .i64 8)))}] [])
 .ret) .skip))))
 (.rg 15 false [] [{i := .mv 84 (.t 5)}, {i := .bin 85 .add (.t 84) (.c (.d true (.int .i64 1)))}, {i := .mv 5 (.t 85)}] [])))
def c_ref02_Check : C :=
(.seq (.rg 0 false [] [{i := .box 1 0 (.t 0) 6}, {i := .mv 2 (.c (.d true (.int .i64 0)))}] [])
 (.seq (.seq (.rg 1 false [] [{i := .fad 7 (.t 1) 0 0}, {i := .load 8 (.t 7) 0}, {i := .bin 9 .lss (.t 8) (.c (.d true (.int .i64 0)))}] [])
 (.cond (.t 9) (.seq (.rg 2 false [] [{i := .mv 2 (.c (.d true (.int .i64 8)))}] [])
 .ret) .skip))
 (.seq (.seq c_ref02_Check_p1
 (.cond (.t 29) (.seq (.rg 4 false [] [{i := .mv 2 (.c (.d true (.int .i64 4)))}] [])
 .ret) .skip))
 (.seq (.rg 5 false [] [{i := .load 30 (.t 1) 6}, {i := .call 31 k_ref02_Size [(.t 30)] none}, {i := .mv 3 (.t 31)}] [])
 (.seq (.seq c_ref02_Check_p2
 (.cond (.t 43) (.seq (.rg 7 false [] [{i := .mv 2 (.c (.d true (.int .i64 8)))}] [])
 .ret) .skip))
 (.seq (.seq (.rg 8 false [] [{i := .mv 4 (.c (.d true (.int .i64 0)))}] [])
 (.block 0 (.loop c_ref02_Check_l1)))
 (.seq (.seq (.rg 13 false [] [{i := .mv 5 (.c (.d true (.int .i64 0)))}] [])
 (.block 2 (.loop c_ref02_Check_l2)))
 (.seq (.rg 19 false [] [{i := .mv 2 (.c (.d true (.int .i64 0)))}] [])
 .ret))))))))
def n_ref02_Check : Fn := ⟨c_ref02_Check, [.s 2], (some [false])⟩
def c_ref02_Size : C :=
(.seq (.rg 0 false [] [{i := .box 1 0 (.t 0) 6}, {i := .mv 2 (.c (.d true (.int .i64 0)))}] [])
 (.seq (.rg 1 false [] [{i := .fad 3 (.t 1) 0 0}, {i := .load 4 (.t 3) 0}, {i := .fad 5 (.t 1) 1 0}, {i := .load 6 (.t 5) 0}, {i := .len 7 (.t 6)}, {i := .bin 8 .add (.t 4) (.t 7)}, {i := .fad 9 (.t 1) 2 0}, {i := .load 10 (.t 9) 0}, {i := .len 11 (.t 10)}, {i := .bin 12 .add (.t 8) (.t 11)}, {i := .mv 2 (.t 12)}] [])
 .ret))
def n_ref02_Size : Fn := ⟨c_ref02_Size, [.s 2], (some [false])⟩
def c_slices_Collect_of_int : C :=
(.seq (.rg 0 false [] [{i := .mv 2 (.c (.nil 1))}] [])
 (.seq (.rg 1 false [] [{i := .mv 3 (.t 0)}, {i := .call 4 k_slices_AppendSeq_of_int [(.c (.nil 1)), (.t 3)] none}, {i := .mv 2 (.t 4)}] [])
 .ret))
def n_slices_Collect_of_int : Fn := ⟨c_slices_Collect_of_int, [.s 2], none⟩
def c_queue_chain : C :=
(.seq (.rg 0 false [] [{i := .box 2 0 (.t 0) 0}, {i := .box 3 1 (.t 1) 0}, {i := .mv 4 (.c .u)}] [])
 (.seq (.rg 1 false [] [{i := .fn 5 k_queue_chain_1 [(.t 3), (.t 2)]}, {i := .mv 4 (.t 5)}] [])
 .ret))
def n_queue_chain : Fn := ⟨c_queue_chain, [.s 4], none⟩
def c_gates_Check_p1 : C :=
(.rg 3 false [] [{i := .fad 11 (.t 1) 0 0}, {i := .load 12 (.t 11) 0}, {i := .bin 13 .gtr (.t 12) (.c (.d true (.int .i64 1000)))}, {i := .mv 14 (.t 13)}, ⟨(.load 15 (.t 1) 6), (some (14, false))⟩, ⟨(.call 16 k_gates_starts [(.t 15)] none), (some (14, false))⟩, ⟨(.ixa 17 (.t 16) (.c (.d true (.int .i64 3))) 4 0), (some (14, false))⟩, ⟨(.bin 18 .sub (.t 17) (.c (.d true (.int .i64 1)))), (some (14, false))⟩, ⟨(.bin 19 .gtr (.t 18) (.c (.d true (.int .i64 1000)))), (some (14, false))⟩, {i := .pick 20 (.t 14) (.c (.d true (.bool true))) (.t 19)}, {i := .mv 21 (.t 20)}, ⟨(.fad 22 (.t 1) 3 0), (some (21, false))⟩, ⟨(.load 23 (.t 22) 0), (some (21, false))⟩, ⟨(.len 24 (.t 23)), (some (21, false))⟩, ⟨(.fad 25 (.t 1) 4 0), (some (21, false))⟩, ⟨(.load 26 (.t 25) 0), (some (21, false))⟩, ⟨(.len 27 (.t 26)), (some (21, false))⟩, ⟨(.mx 28 (.t 24) [(.t 27)]), (some (21, false))⟩, ⟨(.bin 29 .gtr (.t 28) (.c (.d true (.int .i64 100)))), (some (21, false))⟩, {i := .pick 30 (.t 21) (.c (.d true (.bool true))) (.t 29)}] [])
def c_gates_Check_p2 : C :=
(.rg 8 false [] [{i := .fad 35 (.t 1) 3 0}, {i := .load 36 (.t 35) 0}, {i := .load 37 (.t 4) 0}, {i := .call 38 k_slices_ContainsFunc_of_int [(.t 36), (.t 37)] none}, {i := .mv 39 (.t 38)}, ⟨(.fad 40 (.t 1) 4 0), (some (39, false))⟩, ⟨(.load 41 (.t 40) 0), (some (39, false))⟩, ⟨(.load 42 (.t 4) 0), (some (39, false))⟩, ⟨(.call 43 k_slices_ContainsFunc_of_int [(.t 41), (.t 42)] none), (some (39, false))⟩, {i := .pick 44 (.t 39) (.c (.d true (.bool true))) (.t 43)}, {i := .mv 45 (.t 44)}, ⟨(.fad 46 (.t 1) 1 0), (some (45, false))⟩, ⟨(.load 47 (.t 46) 0), (some (45, false))⟩, ⟨(.mv 48 (.t 5)), (some (45, false))⟩, ⟨(.call 49 k_slices_ContainsFunc_of_api_Latch [(.t 47), (.t 48)] none), (some (45, false))⟩, {i := .pick 50 (.t 45) (.c (.d true (.bool true))) (.t 49)}] [])
def c_gates_Check_p3 : C :=
(.rg 13 false [] [{i := .fad 59 (.t 7) 1 0}, {i := .load 60 (.t 59) 0}, {i := .bin 61 .lss (.t 60) (.c (.d true (.int .i64 0)))}, {i := .mv 62 (.t 61)}, ⟨(.fad 63 (.t 7) 0 0), (some (62, false))⟩, ⟨(.load 64 (.t 63) 0), (some (62, false))⟩, ⟨(.fad 65 (.t 7) 1 0), (some (62, false))⟩, ⟨(.load 66 (.t 65) 0), (some (62, false))⟩, ⟨(.bin 67 .lss (.t 64) (.t 66)), (some (62, false))⟩, {i := .pick 68 (.t 62) (.c (.d true (.bool true))) (.t 67)}, {i := .mv 69 (.t 68)}, ⟨(.fad 70 (.t 7) 0 0), (some (69, false))⟩, ⟨(.load 71 (.t 70) 0), (some (69, false))⟩, ⟨(.ixb 72 (.t 3) (.c (.d true (.int .i64 2))) 4 1), (some (69, false))⟩, ⟨(.load 73 (.t 72) 0), (some (69, false))⟩, ⟨(.mv 74 (.t 6)), (some (69, false))⟩, ⟨(.bin 75 .add (.t 73) (.t 74)), (some (69, false))⟩, ⟨(.bin 76 .mul (.c (.d true (.int .i64 2))) (.t 75)), (some (69, false))⟩, ⟨(.bin 77 .geq (.t 71) (.t 76)), (some (69, false))⟩, {i := .pick 78 (.t 69) (.c (.d true (.bool true))) (.t 77)}] [])
def c_gates_Check_l1 : C :=
(.seq (.rg 11 false [] [{i := .bin 55 .lss (.t 54) (.t 53)}] [])
 (.seq (.cond (.t 55) .skip (.exit 0))
 (.seq (.block 1 (.seq (.rg 12 false [(.kill 3 4)] [{i := .mv 56 (.t 54)}, {i := .ix 57 (.t 52) (.t 54) 2}, {i := .load 58 (.t 57) 3}, {i := .alloc 7 3 [(.k (.int .i64 0)), (.k (.int .i64 0))]}, {i := .mv 6 (.t 56)}, {i := .store (.t 7) (.t 58) 3}] [])
 (.seq c_gates_Check_p3
 (.cond (.t 78) (.seq (.rg 14 false [] [{i := .mv 2 (.c (.d true (.int .i64 8)))}] [])
 .ret) .skip))))
 (.rg 15 false [] [{i := .bin 79 .add (.t 54) (.c (.d true (.int .i64 1)))}, {i := .mv 54 (.t 79)}] []))))
def c_gates_Check : C :=
(.seq (.rg 0 false [] [{i := .box 1 0 (.t 0) 6}, {i := .mv 2 (.c (.d true (.int .i64 0)))}] [])
 (.seq (.seq (.rg 1 false [] [{i := .fad 8 (.t 1) 0 0}, {i := .load 9 (.t 8) 0}, {i := .bin 10 .lss (.t 9) (.c (.d true (.int .i64 0)))}] [])
 (.cond (.t 10) (.seq (.rg 2 false [] [{i := .mv 2 (.c (.d true (.int .i64 8)))}] [])
 .ret) .skip))
 (.seq (.seq c_gates_Check_p1
 (.cond (.t 30) (.seq (.rg 4 false [] [{i := .mv 2 (.c (.d true (.int .i64 4)))}] [])
 .ret) .skip))
 (.seq (.rg 5 false [] [{i := .load 31 (.t 1) 6}, {i := .call 32 k_gates_starts [(.t 31)] none}, {i := .alloc 3 1 [(.k (.int .i64 0)), (.k (.int .i64 0)), (.k (.int .i64 0)), (.k (.int .i64 0))]}, {i := .store (.t 3) (.t 32) 5}] [])
 (.seq (.rg 6 false [] [{i := .fn 33 k_gates_Check_1 [(.t 3)]}, {i := .alloc 4 2 [.u]}, {i := .store (.t 4) (.t 33) 0}] [])
 (.seq (.rg 7 false [] [{i := .fn 34 k_gates_Check_2 [(.t 4)]}, {i := .mv 5 (.t 34)}] [])
 (.seq (.seq c_gates_Check_p2
 (.cond (.t 50) (.seq (.rg 9 false [] [{i := .mv 2 (.c (.d true (.int .i64 8)))}] [])
 .ret) .skip))
 (.seq (.seq (.rg 10 false [] [{i := .fad 51 (.t 1) 2 0}, {i := .load 52 (.t 51) 0}, {i := .len 53 (.t 52)}, {i := .mv 54 (.c (.d true (.int .i64 0)))}] [])
 (.block 0 (.loop c_gates_Check_l1)))
 (.seq (.rg 16 false [] [{i := .mv 2 (.c (.d true (.int .i64 0)))}] [])
 .ret)))))))))
def n_gates_Check : Fn := ⟨c_gates_Check, [.s 2], (some [false])⟩
def c_clause_Check_p1 : C :=
(.rg 1 false [] [{i := .mv 7 (.t 0)}, {i := .bin 8 .lss (.t 7) (.c (.d true (.int .i64 0)))}, {i := .mv 9 (.t 8)}, ⟨(.mv 10 (.t 0)), (some (9, false))⟩, ⟨(.bin 11 .gtr (.t 10) (.c (.d true (.int .i64 4000)))), (some (9, false))⟩, {i := .pick 12 (.t 9) (.c (.d true (.bool true))) (.t 11)}] [])
def c_clause_Check_p2 : C :=
(.rg 6 false [] [{i := .mv 20 (.t 0)}, {i := .mv 21 (.t 6)}, {i := .call 22 k_clause_known [(.t 20), (.t 21)] none}, {i := .un 23 .not (.t 22)}, {i := .mv 24 (.t 23)}, ⟨(.mv 25 (.t 5)), (some (24, false))⟩, ⟨(.bin 26 .gtr (.t 25) (.c (.d true (.int .i64 0)))), (some (24, false))⟩, ⟨(.mv 27 (.t 26)), (some (24, false))⟩, ⟨(.mv 28 (.t 6)), (some (27, true))⟩, ⟨(.mv 29 (.t 1)), (some (27, true))⟩, ⟨(.mv 30 (.t 5)), (some (27, true))⟩, ⟨(.bin 31 .sub (.t 30) (.c (.d true (.int .i64 1)))), (some (27, true))⟩, ⟨(.ix 32 (.t 29) (.t 31) 1), (some (27, true))⟩, ⟨(.load 33 (.t 32) 0), (some (27, true))⟩, ⟨(.bin 34 .leq (.t 28) (.t 33)), (some (27, true))⟩, ⟨(.mv 35 (.t 34)), (some (27, true))⟩, ⟨(.mv 36 (.t 6)), (some (35, false))⟩, ⟨(.bin 37 .quo (.t 36) (.c (.d true (.int .i64 2)))), (some (35, false))⟩, ⟨(.mv 38 (.t 1)), (some (35, false))⟩, ⟨(.mv 39 (.t 5)), (some (35, false))⟩, ⟨(.bin 40 .sub (.t 39) (.c (.d true (.int .i64 1)))), (some (35, false))⟩, ⟨(.ix 41 (.t 38) (.t 40) 1), (some (35, false))⟩, ⟨(.load 42 (.t 41) 0), (some (35, false))⟩, ⟨(.bin 43 .quo (.t 42) (.c (.d true (.int .i64 2)))), (some (35, false))⟩, ⟨(.bin 44 .eql (.t 37) (.t 43)), (some (35, false))⟩, ⟨(.pick 45 (.t 35) (.c (.d true (.bool true))) (.t 44)), (some (27, true))⟩, ⟨(.pick 46 (.t 27) (.t 45) (.c (.d true (.bool false)))), (some (24, false))⟩, {i := .pick 47 (.t 24) (.c (.d true (.bool true))) (.t 46)}] [])
def c_clause_Check_l1 : C :=
(.seq (.rg 4 false [] [{i := .bin 16 .lss (.t 15) (.t 14)}] [])
 (.seq (.cond (.t 16) .skip (.exit 0))
 (.seq (.block 1 (.seq (.rg 5 false [] [{i := .mv 17 (.t 15)}, {i := .ix 18 (.t 13) (.t 15) 1}, {i := .load 19 (.t 18) 0}, {i := .mv 5 (.t 17)}, {i := .mv 6 (.t 19)}] [])
 (.seq c_clause_Check_p2
 (.cond (.t 47) (.seq (.rg 7 false [] [{i := .mv 4 (.c (.d true (.int .i64 8)))}] [])
 .ret) .skip))))
 (.rg 8 false [] [{i := .bin 48 .add (.t 15) (.c (.d true (.int .i64 1)))}, {i := .mv 15 (.t 48)}] []))))
def c_clause_Check : C :=
(.seq (.rg 0 false [] [{i := .mv 4 (.c (.d true (.int .i64 0)))}] [])
 (.seq (.seq c_clause_Check_p1
 (.cond (.t 12) (.seq (.rg 2 false [] [{i := .mv 4 (.c (.d true (.int .i64 2)))}] [])
 .ret) .skip))
 (.seq (.seq (.rg 3 false [] [{i := .mv 13 (.t 1)}, {i := .len 14 (.t 13)}, {i := .mv 15 (.c (.d true (.int .i64 0)))}] [])
 (.block 0 (.loop c_clause_Check_l1)))
 (.seq (.rg 9 false [] [{i := .mv 4 (.c (.d true (.int .i64 0)))}] [])
 .ret))))
def n_clause_Check : Fn := ⟨c_clause_Check, [.s 4], (some [false, false])⟩
def c_ref13_Valid_p1 : C :=
(.rg 4 true [] [{i := .mv 12 (.t 0)}, {i := .mv 13 (.t 1)}, {i := .mv 14 (.t 5)}, {i := .ix 15 (.t 13) (.t 14) 1}, {i := .load 16 (.t 15) 0}, {i := .call 17 k_ref13_Lit [(.t 12), (.t 16)] none}, {i := .un 18 .not (.t 17)}, {i := .mv 19 (.t 18)}, ⟨(.mv 20 (.t 5)), (some (19, false))⟩, ⟨(.bin 21 .gtr (.t 20) (.c (.d true (.int .i64 0)))), (some (19, false))⟩, ⟨(.mv 22 (.t 21)), (some (19, false))⟩, ⟨(.mv 23 (.t 1)), (some (22, true))⟩, ⟨(.mv 24 (.t 5)), (some (22, true))⟩, ⟨(.ix 25 (.t 23) (.t 24) 1), (some (22, true))⟩, ⟨(.load 26 (.t 25) 0), (some (22, true))⟩, ⟨(.mv 27 (.t 1)), (some (22, true))⟩, ⟨(.mv 28 (.t 5)), (some (22, true))⟩, ⟨(.bin 29 .sub (.t 28) (.c (.d true (.int .i64 1)))), (some (22, true))⟩, ⟨(.ix 30 (.t 27) (.t 29) 1), (some (22, true))⟩, ⟨(.load 31 (.t 30) 0), (some (22, true))⟩, ⟨(.bin 32 .sub (.t 26) (.t 31)), (some (22, true))⟩, ⟨(.bin 33 .lss (.t 32) (.c (.d true (.int .i64 1)))), (some (22, true))⟩, ⟨(.pick 34 (.t 22) (.t 33) (.c (.d true (.bool false)))), (some (19, false))⟩, {i := .pick 35 (.t 19) (.c (.d true (.bool true))) (.t 34)}, {i := .mv 36 (.t 35)}, ⟨(.mv 37 (.t 5)), (some (36, false))⟩, ⟨(.bin 38 .gtr (.t 37) (.c (.d true (.int .i64 0)))), (some (36, false))⟩, ⟨(.mv 39 (.t 38)), (some (36, false))⟩, ⟨(.mv 40 (.t 1)), (some (39, true))⟩, ⟨(.mv 41 (.t 5)), (some (39, true))⟩, ⟨(.bin 42 .sub (.t 41) (.c (.d true (.int .i64 1)))), (some (39, true))⟩, ⟨(.ix 43 (.t 40) (.t 42) 1), (some (39, true))⟩, ⟨(.load 44 (.t 43) 0), (some (39, true))⟩, ⟨(.bin 45 .rem (.t 44) (.c (.d true (.int .i64 2)))), (some (39, true))⟩, ⟨(.bin 46 .eql (.t 45) (.c (.d true (.int .i64 0)))), (some (39, true))⟩, ⟨(.pick 47 (.t 39) (.t 46) (.c (.d true (.bool false)))), (some (36, false))⟩, ⟨(.mv 48 (.t 47)), (some (36, false))⟩, ⟨(.mv 49 (.t 1)), (some (48, true))⟩, ⟨(.mv 50 (.t 5)), (some (48, true))⟩, ⟨(.ix 51 (.t 49) (.t 50) 1), (some (48, true))⟩, ⟨(.load 52 (.t 51) 0), (some (48, true))⟩, ⟨(.mv 53 (.t 1)), (some (48, true))⟩, ⟨(.mv 54 (.t 5)), (some (48, true))⟩, ⟨(.bin 55 .sub (.t 54) (.c (.d true (.int .i64 1)))), (some (48, true))⟩, ⟨(.ix 56 (.t 53) (.t 55) 1), (some (48, true))⟩, ⟨(.load 57 (.t 56) 0), (some (48, true))⟩, ⟨(.bin 58 .add (.t 57) (.c (.d true (.int .i64 1)))), (some (48, true))⟩, ⟨(.bin 59 .eql (.t 52) (.t 58)), (some (48, true))⟩, ⟨(.pick 60 (.t 48) (.t 59) (.c (.d true (.bool false)))), (some (36, false))⟩, {i := .pick 61 (.t 36) (.c (.d true (.bool true))) (.t 60)}] [])
def c_ref13_Valid_l1 : C :=
(.seq (.seq (.rg 2 false [] [{i := .mv 6 (.t 5)}, {i := .mv 7 (.t 1)}, {i := .len 8 (.t 7)}, {i := .bin 9 .lss (.t 6) (.t 8)}] [])
 (.cond (.t 9) .skip (.exit 0)))
 (.seq (.block 1 (.seq c_ref13_Valid_p1
 (.cond (.t 61) (.seq (.rg 5 false [] [{i := .mv 4 (.c (.d true (.bool false)))}] [])
 .ret) .skip)))
 (.rg 3 false [] [{i := .mv 10 (.t 5)}, {i := .bin 11 .add (.t 10) (.c (.d true (.int .i64 1)))}, {i := .mv 5 (.t 11)}] [])))
def c_ref13_Valid : C :=
(.seq (.rg 0 false [] [{i := .mv 4 (.c (.d true (.bool false)))}] [])
 (.seq (.seq (.rg 1 false [] [{i := .mv 5 (.c (.d true (.int .i64 0)))}] [])
 (.block 0 (.loop c_ref13_Valid_l1)))
 (.seq (.rg 6 false [] [{i := .mv 4 (.c (.d true (.bool true)))}] [])
 .ret)))
def n_ref13_Valid : Fn := ⟨c_ref13_Valid, [.s 4], (some [false, false])⟩
def c_queue_may_p1 : C :=
(.rg 1 false [] [{i := .fad 3 (.t 1) 0 0}, {i := .load 4 (.t 3) 0}, {i := .bin 5 .geq (.t 4) (.c (.d true (.int .i64 0)))}, {i := .mv 6 (.t 5)}, ⟨(.fad 7 (.t 1) 0 0), (some (6, true))⟩, ⟨(.load 8 (.t 7) 0), (some (6, true))⟩, ⟨(.bin 9 .leq (.t 8) (.c (.d true (.int .i64 60)))), (some (6, true))⟩, {i := .pick 10 (.t 6) (.t 9) (.c (.d true (.bool false)))}, {i := .mv 11 (.t 10)}, ⟨(.fad 12 (.t 1) 1 0), (some (11, true))⟩, ⟨(.load 13 (.t 12) 0), (some (11, true))⟩, ⟨(.bin 14 .geq (.t 13) (.c (.d true (.int .i64 0)))), (some (11, true))⟩, {i := .pick 15 (.t 11) (.t 14) (.c (.d true (.bool false)))}, {i := .mv 16 (.t 15)}, ⟨(.fad 17 (.t 1) 1 0), (some (16, true))⟩, ⟨(.load 18 (.t 17) 0), (some (16, true))⟩, ⟨(.bin 19 .lss (.t 18) (.c (.d true (.int .i64 1000)))), (some (16, true))⟩, {i := .pick 20 (.t 16) (.t 19) (.c (.d true (.bool false)))}, {i := .mv 2 (.t 20)}] [])
def c_queue_may : C :=
(.seq (.rg 0 false [] [{i := .box 1 0 (.t 0) 3}, {i := .mv 2 (.c (.d true (.bool false)))}] [])
 (.seq c_queue_may_p1
 .ret))
def n_queue_may : Fn := ⟨c_queue_may, [.s 2], (some [false])⟩
def c_queue_order : C :=
(.seq (.rg 0 false [] [{i := .box 2 0 (.t 0) 3}, {i := .box 3 1 (.t 1) 3}, {i := .mv 4 (.c (.d true (.int .i64 0)))}] [])
 (.seq (.rg 1 true [] [{i := .fad 5 (.t 2) 0 0}, {i := .load 6 (.t 5) 0}, {i := .fad 7 (.t 3) 0 0}, {i := .load 8 (.t 7) 0}, {i := .call 9 k_cmp_Compare_of_int [(.t 6), (.t 8)] none}, {i := .fad 10 (.t 2) 1 0}, {i := .load 11 (.t 10) 0}, {i := .fad 12 (.t 3) 1 0}, {i := .load 13 (.t 12) 0}, {i := .call 14 k_cmp_Compare_of_int [(.t 11), (.t 13)] none}, {i := .bsl 15 2 1 2 (.k (.int .i64 0)) [(0, (.t 9)), (1, (.t 14))]}, {i := .call 16 k_cmp_Or_of_int [(.t 15)] none}, {i := .mv 4 (.t 16)}] [])
 .ret))
def n_queue_order : Fn := ⟨c_queue_order, [.s 4], none⟩
def c_slices_IsSortedFunc_of_api_Wait_l1 : C :=
(.seq (.seq (.rg 2 false [] [{i := .mv 9 (.t 5)}, {i := .bin 10 .gtr (.t 9) (.c (.d true (.int .i64 0)))}] [])
 (.cond (.t 10) .skip (.exit 0)))
 (.seq (.block 1 (.seq (.rg 4 true [] [{i := .mv 13 (.t 1)}, {i := .mv 14 (.t 0)}, {i := .mv 15 (.t 5)}, {i := .ix 16 (.t 14) (.t 15) 2}, {i := .load 17 (.t 16) 3}, {i := .mv 18 (.t 0)}, {i := .mv 19 (.t 5)}, {i := .bin 20 .sub (.t 19) (.c (.d true (.int .i64 1)))}, {i := .ix 21 (.t 18) (.t 20) 2}, {i := .load 22 (.t 21) 3}, {i := .callv 23 (.t 13) [(.t 17), (.t 22)] none}, {i := .bin 24 .lss (.t 23) (.c (.d true (.int .i64 0)))}] [])
 (.cond (.t 24) (.seq (.rg 5 false [] [{i := .mv 4 (.c (.d true (.bool false)))}] [])
 .ret) .skip)))
 (.rg 3 false [] [{i := .mv 11 (.t 5)}, {i := .bin 12 .sub (.t 11) (.c (.d true (.int .i64 1)))}, {i := .mv 5 (.t 12)}] [])))
def c_slices_IsSortedFunc_of_api_Wait : C :=
(.seq (.rg 0 false [] [{i := .mv 4 (.c (.d true (.bool false)))}] [])
 (.seq (.seq (.rg 1 false [] [{i := .mv 6 (.t 0)}, {i := .len 7 (.t 6)}, {i := .bin 8 .sub (.t 7) (.c (.d true (.int .i64 1)))}, {i := .mv 5 (.t 8)}] [])
 (.block 0 (.loop c_slices_IsSortedFunc_of_api_Wait_l1)))
 (.seq (.rg 6 false [] [{i := .mv 4 (.c (.d true (.bool true)))}] [])
 .ret)))
def n_slices_IsSortedFunc_of_api_Wait : Fn := ⟨c_slices_IsSortedFunc_of_api_Wait, [.s 4], none⟩
def c_ref02_literals_p1 : C :=
(.rg 4 false [] [{i := .mv 12 (.t 0)}, {i := .mv 13 (.t 5)}, {i := .ix 14 (.t 12) (.t 13) 1}, {i := .load 15 (.t 14) 0}, {i := .bin 16 .lss (.t 15) (.c (.d true (.int .i64 0)))}, {i := .mv 17 (.t 16)}, ⟨(.mv 18 (.t 0)), (some (17, false))⟩, ⟨(.mv 19 (.t 5)), (some (17, false))⟩, ⟨(.ix 20 (.t 18) (.t 19) 1), (some (17, false))⟩, ⟨(.load 21 (.t 20) 0), (some (17, false))⟩, ⟨(.bin 22 .quo (.t 21) (.c (.d true (.int .i64 2)))), (some (17, false))⟩, ⟨(.mv 23 (.t 1)), (some (17, false))⟩, ⟨(.bin 24 .gtr (.t 22) (.t 23)), (some (17, false))⟩, {i := .pick 25 (.t 17) (.c (.d true (.bool true))) (.t 24)}] [])
def c_ref02_literals_l1 : C :=
(.seq (.seq (.rg 2 false [] [{i := .mv 6 (.t 5)}, {i := .mv 7 (.t 0)}, {i := .len 8 (.t 7)}, {i := .bin 9 .lss (.t 6) (.t 8)}] [])
 (.cond (.t 9) .skip (.exit 0)))
 (.seq (.block 1 (.seq c_ref02_literals_p1
 (.cond (.t 25) (.seq (.rg 5 false [] [{i := .mv 4 (.c (.d true (.bool false)))}] [])
 .ret) .skip)))
 (.rg 3 false [] [{i := .mv 10 (.t 5)}, {i := .bin 11 .add (.t 10) (.c (.d true (.int .i64 1)))}, {i := .mv 5 (.t 11)}] [])))
def c_ref02_literals : C :=
(.seq (.rg 0 false [] [{i := .mv 4 (.c (.d true (.bool false)))}] [])
 (.seq (.seq (.rg 1 false [] [{i := .mv 5 (.c (.d true (.int .i64 0)))}] [])
 (.block 0 (.loop c_ref02_literals_l1)))
 (.seq (.rg 6 false [] [{i := .mv 4 (.c (.d true (.bool true)))}] [])
 .ret)))
def n_ref02_literals : Fn := ⟨c_ref02_literals, [.s 4], (some [false, false])⟩
def c_slices_AppendSeq_of_int_r1 : C :=
.rfun (.t 6) [7]
 (.rg 2 false [] [{i := .mv 5 (.t 7)}] [])
 (.block 1 (.rg 3 false [] [{i := .load 8 (.t 2) 0}, {i := .mv 9 (.t 5)}, {i := .bsl 10 1 1 1 (.k (.int .i64 0)) [(0, (.t 9))]}, {i := .app 11 2 1 (.t 8) (.t 10)}, {i := .store (.t 2) (.t 11) 0}] []))
def c_slices_AppendSeq_of_int : C :=
(.seq (.rg 0 false [.nrw 0 30] [{i := .box 2 0 (.t 0) 0}, {i := .mv 4 (.c (.nil 1))}] [])
 (.seq (.seq (.rg 1 false [] [{i := .mv 6 (.t 1)}] [])
 (.block 0 c_slices_AppendSeq_of_int_r1))
 (.seq (.rg 4 false [] [{i := .load 12 (.t 2) 0}, {i := .mv 4 (.t 12)}] [])
 .ret)))
def n_slices_AppendSeq_of_int : Fn := ⟨c_slices_AppendSeq_of_int, [.s 4], none⟩
def c_queue_chain_1_l1 : C :=
(.seq (.seq (.rg 0 false [] [{i := .load 4 (.t 1) 0}, {i := .bin 5 .geq (.t 4) (.c (.d true (.int .i64 0)))}] [])
 (.cond (.t 5) .skip (.exit 0)))
 (.seq (.block 1 (.seq (.rg 2 false [] [{i := .mv 11 (.t 0)}, {i := .load 12 (.t 1) 0}, {i := .callv 13 (.t 11) [(.t 12)] none}, {i := .un 14 .not (.t 13)}] [])
 (.cond (.t 14) .ret .skip)))
 (.rg 1 false [] [{i := .load 6 (.t 2) 0}, {i := .load 7 (.t 1) 0}, {i := .ix 8 (.t 6) (.t 7) 3}, {i := .fad 9 (.t 8) 2 0}, {i := .load 10 (.t 9) 0}, {i := .store (.t 1) (.t 10) 0}] [])))
def c_queue_chain_1 : C :=
(.block 0 (.loop c_queue_chain_1_l1))
def n_queue_chain_1 : Fn := ⟨c_queue_chain_1, [], none⟩
def c_gates_starts : C :=
(.seq (.rg 0 false [] [{i := .box 1 0 (.t 0) 6}, {i := .alloc 2 1 [.k (.int .i64 0), .k (.int .i64 0), .k (.int .i64 0), .k (.int .i64 0)]}] [])
 (.seq (.rg 1 false [] [{i := .fad 5 (.t 1) 0 0}, {i := .load 6 (.t 5) 0}, {i := .bin 7 .add (.c (.d true (.int .i64 1))) (.t 6)}, {i := .mv 3 (.t 7)}] [])
 (.seq (.rg 2 false [] [{i := .mv 8 (.t 3)}, {i := .fad 9 (.t 1) 1 0}, {i := .load 10 (.t 9) 0}, {i := .len 11 (.t 10)}, {i := .bin 12 .add (.t 8) (.t 11)}, {i := .mv 4 (.t 12)}] [])
 (.seq (.rg 3 false [] [{i := .mv 13 (.t 3)}, {i := .mv 14 (.t 4)}, {i := .mv 15 (.t 4)}, {i := .fad 16 (.t 1) 2 0}, {i := .load 17 (.t 16) 0}, {i := .len 18 (.t 17)}, {i := .bin 19 .add (.t 15) (.t 18)}, {i := .bld 20 [.k (.int .i64 0), .k (.int .i64 0), .k (.int .i64 0), .k (.int .i64 0)] [(0, 0, (.c (.d true (.int .i64 1)))), (1, 0, (.t 13)), (2, 0, (.t 14)), (3, 0, (.t 19))]}, {i := .store (.t 2) (.t 20) 5}] [])
 .ret))))
def n_gates_starts : Fn := ⟨c_gates_starts, [.c 2 5], (some [false])⟩
def c_gates_Check_1_p1 : C :=
(.rg 1 false [] [{i := .mv 4 (.t 0)}, {i := .bin 5 .lss (.t 4) (.c (.d true (.int .i64 0)))}, {i := .mv 6 (.t 5)}, ⟨(.mv 7 (.t 0)), (some (6, false))⟩, ⟨(.bin 8 .shr (.t 7) (.c (.d true (.int .u64 1)))), (some (6, false))⟩, ⟨(.ixb 9 (.t 1) (.c (.d true (.int .i64 3))) 4 1), (some (6, false))⟩, ⟨(.load 10 (.t 9) 0), (some (6, false))⟩, ⟨(.bin 11 .geq (.t 8) (.t 10)), (some (6, false))⟩, {i := .pick 12 (.t 6) (.c (.d true (.bool true))) (.t 11)}, {i := .mv 3 (.t 12)}] [])
def c_gates_Check_1 : C :=
(.seq (.rg 0 false [] [{i := .mv 3 (.c (.d true (.bool false)))}] [])
 (.seq c_gates_Check_1_p1
 .ret))
def n_gates_Check_1 : Fn := ⟨c_gates_Check_1, [.s 3], none⟩
def c_gates_Check_2_p1 : C :=
(.rg 1 false [] [{i := .load 4 (.t 1) 0}, {i := .fad 5 (.t 2) 0 0}, {i := .load 6 (.t 5) 0}, {i := .callv 7 (.t 4) [(.t 6)] none}, {i := .mv 8 (.t 7)}, ⟨(.fad 9 (.t 2) 1 0), (some (8, false))⟩, ⟨(.load 10 (.t 9) 0), (some (8, false))⟩, ⟨(.bin 11 .lss (.t 10) (.c (.d true (.int .i64 0)))), (some (8, false))⟩, {i := .pick 12 (.t 8) (.c (.d true (.bool true))) (.t 11)}, {i := .mv 13 (.t 12)}, ⟨(.fad 14 (.t 2) 1 0), (some (13, false))⟩, ⟨(.load 15 (.t 14) 0), (some (13, false))⟩, ⟨(.bin 16 .gtr (.t 15) (.c (.d true (.int .i64 2)))), (some (13, false))⟩, {i := .pick 17 (.t 13) (.c (.d true (.bool true))) (.t 16)}, {i := .mv 3 (.t 17)}] [])
def c_gates_Check_2 : C :=
(.seq (.rg 0 false [] [{i := .box 2 0 (.t 0) 3}, {i := .mv 3 (.c (.d true (.bool false)))}] [])
 (.seq c_gates_Check_2_p1
 .ret))
def n_gates_Check_2 : Fn := ⟨c_gates_Check_2, [.s 3], none⟩
def c_slices_ContainsFunc_of_int_p1 : C :=
(.rg 1 false [] [{i := .mv 5 (.t 0)}, {i := .mv 6 (.t 1)}, {i := .call 7 k_slices_IndexFunc_of_int [(.t 5), (.t 6)] none}, {i := .bin 8 .geq (.t 7) (.c (.d true (.int .i64 0)))}, {i := .mv 4 (.t 8)}] [])
def c_slices_ContainsFunc_of_int : C :=
(.seq (.rg 0 false [] [{i := .mv 4 (.c (.d true (.bool false)))}] [])
 (.seq c_slices_ContainsFunc_of_int_p1
 .ret))
def n_slices_ContainsFunc_of_int : Fn := ⟨c_slices_ContainsFunc_of_int, [.s 4], none⟩
def c_slices_ContainsFunc_of_api_Latch_p1 : C :=
(.rg 1 false [] [{i := .mv 5 (.t 0)}, {i := .mv 6 (.t 1)}, {i := .call 7 k_slices_IndexFunc_of_api_Latch [(.t 5), (.t 6)] none}, {i := .bin 8 .geq (.t 7) (.c (.d true (.int .i64 0)))}, {i := .mv 4 (.t 8)}] [])
def c_slices_ContainsFunc_of_api_Latch : C :=
(.seq (.rg 0 false [] [{i := .mv 4 (.c (.d true (.bool false)))}] [])
 (.seq c_slices_ContainsFunc_of_api_Latch_p1
 .ret))
def n_slices_ContainsFunc_of_api_Latch : Fn := ⟨c_slices_ContainsFunc_of_api_Latch, [.s 4], none⟩
def c_clause_known_p1 : C :=
(.rg 1 false [] [{i := .mv 5 (.t 1)}, {i := .bin 6 .geq (.t 5) (.c (.d true (.int .i64 2)))}, {i := .mv 7 (.t 6)}, ⟨(.mv 8 (.t 1)), (some (7, true))⟩, ⟨(.bin 9 .quo (.t 8) (.c (.d true (.int .i64 2)))), (some (7, true))⟩, ⟨(.mv 10 (.t 0)), (some (7, true))⟩, ⟨(.bin 11 .leq (.t 9) (.t 10)), (some (7, true))⟩, {i := .pick 12 (.t 7) (.t 11) (.c (.d true (.bool false)))}, {i := .mv 4 (.t 12)}] [])
def c_clause_known : C :=
(.seq (.rg 0 false [] [{i := .mv 4 (.c (.d true (.bool false)))}] [])
 (.seq c_clause_known_p1
 .ret))
def n_clause_known : Fn := ⟨c_clause_known, [.s 4], (some [false, false])⟩
def c_ref13_Lit_p1 : C :=
(.rg 1 false [] [{i := .mv 5 (.t 1)}, {i := .bin 6 .geq (.t 5) (.c (.d true (.int .i64 2)))}, {i := .mv 7 (.t 6)}, ⟨(.mv 8 (.t 1)), (some (7, true))⟩, ⟨(.mv 9 (.t 0)), (some (7, true))⟩, ⟨(.bin 10 .mul (.c (.d true (.int .i64 2))) (.t 9)), (some (7, true))⟩, ⟨(.bin 11 .add (.t 10) (.c (.d true (.int .i64 1)))), (some (7, true))⟩, ⟨(.bin 12 .leq (.t 8) (.t 11)), (some (7, true))⟩, {i := .pick 13 (.t 7) (.t 12) (.c (.d true (.bool false)))}, {i := .mv 4 (.t 13)}] [])
def c_ref13_Lit : C :=
(.seq (.rg 0 false [] [{i := .mv 4 (.c (.d true (.bool false)))}] [])
 (.seq c_ref13_Lit_p1
 .ret))
def n_ref13_Lit : Fn := ⟨c_ref13_Lit, [.s 4], (some [false, false])⟩
def c_cmp_Or_of_int_l1 : C :=
(.seq (.rg 3 false [] [{i := .bin 9 .lss (.t 8) (.t 7)}] [])
 (.seq (.cond (.t 9) .skip (.exit 0))
 (.seq (.block 1 (.seq (.rg 4 false [] [{i := .ix 10 (.t 6) (.t 8) 1}, {i := .load 11 (.t 10) 0}, {i := .mv 5 (.t 11)}] [])
 (.seq (.rg 5 false [] [{i := .mv 12 (.t 5)}, {i := .mv 13 (.t 3)}, {i := .bin 14 .neq (.t 12) (.t 13)}] [])
 (.cond (.t 14) (.seq (.rg 6 false [] [{i := .mv 15 (.t 5)}, {i := .mv 2 (.t 15)}] [])
 .ret) .skip))))
 (.rg 7 false [] [{i := .bin 16 .add (.t 8) (.c (.d true (.int .i64 1)))}, {i := .mv 8 (.t 16)}] []))))
def c_cmp_Or_of_int : C :=
(.seq (.rg 0 false [] [{i := .mv 2 (.c (.d true (.int .i64 0)))}] [])
 (.seq (.rg 1 false [] [{i := .mv 3 (.c (.d true (.int .i64 0)))}] [])
 (.seq (.seq (.rg 2 false [] [{i := .mv 6 (.t 0)}, {i := .len 7 (.t 6)}, {i := .mv 8 (.c (.d true (.int .i64 0)))}] [])
 (.block 0 (.loop c_cmp_Or_of_int_l1)))
 (.seq (.rg 8 false [] [{i := .mv 17 (.t 3)}, {i := .mv 2 (.t 17)}] [])
 .ret))))
def n_cmp_Or_of_int : Fn := ⟨c_cmp_Or_of_int, [.s 2], (some [false])⟩
def c_cmp_Compare_of_int : C :=
(.seq (.rg 0 false [] [{i := .mv 4 (.c (.d true (.int .i64 0)))}] [])
 (.seq (.rg 1 false [] [{i := .mv 7 (.t 0)}, {i := .call 8 k_cmp_isNaN_of_int [(.t 7)] none}, {i := .mv 5 (.t 8)}] [])
 (.seq (.rg 2 false [] [{i := .mv 9 (.t 1)}, {i := .call 10 k_cmp_isNaN_of_int [(.t 9)] none}, {i := .mv 6 (.t 10)}] [])
 (.seq (.seq (.rg 3 false [] [{i := .mv 11 (.t 5)}] [])
 (.cond (.t 11) (.seq (.seq (.rg 4 false [] [{i := .mv 12 (.t 6)}] [])
 (.cond (.t 12) (.seq (.rg 5 false [] [{i := .mv 4 (.c (.d true (.int .i64 0)))}] [])
 .ret) .skip))
 (.seq (.rg 6 false [] [{i := .mv 4 (.c (.d true (.int .i64 (-1))))}] [])
 .ret)) .skip))
 (.seq (.seq (.rg 7 false [] [{i := .mv 13 (.t 6)}] [])
 (.cond (.t 13) (.seq (.rg 8 false [] [{i := .mv 4 (.c (.d true (.int .i64 1)))}] [])
 .ret) .skip))
 (.seq (.seq (.rg 9 false [] [{i := .mv 14 (.t 0)}, {i := .mv 15 (.t 1)}, {i := .bin 16 .lss (.t 14) (.t 15)}] [])
 (.cond (.t 16) (.seq (.rg 10 false [] [{i := .mv 4 (.c (.d true (.int .i64 (-1))))}] [])
 .ret) .skip))
 (.seq (.seq (.rg 11 false [] [{i := .mv 17 (.t 0)}, {i := .mv 18 (.t 1)}, {i := .bin 19 .gtr (.t 17) (.t 18)}] [])
 (.cond (.t 19) (.seq (.rg 12 false [] [{i := .mv 4 (.c (.d true (.int .i64 1)))}] [])
 .ret) .skip))
 (.seq (.rg 13 false [] [{i := .mv 4 (.c (.d true (.int .i64 0)))}] [])
 .ret))))))))
def n_cmp_Compare_of_int : Fn := ⟨c_cmp_Compare_of_int, [.s 4], (some [false, false])⟩
def c_slices_IndexFunc_of_int_l1 : C :=
(.seq (.rg 2 false [] [{i := .bin 9 .lss (.t 8) (.t 7)}] [])
 (.seq (.cond (.t 9) .skip (.exit 0))
 (.seq (.block 1 (.seq (.rg 3 false [] [{i := .mv 10 (.t 8)}, {i := .mv 5 (.t 10)}] [])
 (.seq (.rg 4 false [] [{i := .mv 11 (.t 1)}, {i := .mv 12 (.t 0)}, {i := .mv 13 (.t 5)}, {i := .ix 14 (.t 12) (.t 13) 1}, {i := .load 15 (.t 14) 0}, {i := .callv 16 (.t 11) [(.t 15)] none}] [])
 (.cond (.t 16) (.seq (.rg 5 false [] [{i := .mv 17 (.t 5)}, {i := .mv 4 (.t 17)}] [])
 .ret) .skip))))
 (.rg 6 false [] [{i := .bin 18 .add (.t 8) (.c (.d true (.int .i64 1)))}, {i := .mv 8 (.t 18)}] []))))
def c_slices_IndexFunc_of_int : C :=
(.seq (.rg 0 false [] [{i := .mv 4 (.c (.d true (.int .i64 0)))}] [])
 (.seq (.seq (.rg 1 false [] [{i := .mv 6 (.t 0)}, {i := .len 7 (.t 6)}, {i := .mv 8 (.c (.d true (.int .i64 0)))}] [])
 (.block 0 (.loop c_slices_IndexFunc_of_int_l1)))
 (.seq (.rg 7 false [] [{i := .mv 4 (.c (.d true (.int .i64 (-1))))}] [])
 .ret)))
def n_slices_IndexFunc_of_int : Fn := ⟨c_slices_IndexFunc_of_int, [.s 4], none⟩
def c_slices_IndexFunc_of_api_Latch_l1 : C :=
(.seq (.rg 2 false [] [{i := .bin 9 .lss (.t 8) (.t 7)}] [])
 (.seq (.cond (.t 9) .skip (.exit 0))
 (.seq (.block 1 (.seq (.rg 3 false [] [{i := .mv 10 (.t 8)}, {i := .mv 5 (.t 10)}] [])
 (.seq (.rg 4 false [] [{i := .mv 11 (.t 1)}, {i := .mv 12 (.t 0)}, {i := .mv 13 (.t 5)}, {i := .ix 14 (.t 12) (.t 13) 2}, {i := .load 15 (.t 14) 3}, {i := .callv 16 (.t 11) [(.t 15)] none}] [])
 (.cond (.t 16) (.seq (.rg 5 false [] [{i := .mv 17 (.t 5)}, {i := .mv 4 (.t 17)}] [])
 .ret) .skip))))
 (.rg 6 false [] [{i := .bin 18 .add (.t 8) (.c (.d true (.int .i64 1)))}, {i := .mv 8 (.t 18)}] []))))
def c_slices_IndexFunc_of_api_Latch : C :=
(.seq (.rg 0 false [] [{i := .mv 4 (.c (.d true (.int .i64 0)))}] [])
 (.seq (.seq (.rg 1 false [] [{i := .mv 6 (.t 0)}, {i := .len 7 (.t 6)}, {i := .mv 8 (.c (.d true (.int .i64 0)))}] [])
 (.block 0 (.loop c_slices_IndexFunc_of_api_Latch_l1)))
 (.seq (.rg 7 false [] [{i := .mv 4 (.c (.d true (.int .i64 (-1))))}] [])
 .ret)))
def n_slices_IndexFunc_of_api_Latch : Fn := ⟨c_slices_IndexFunc_of_api_Latch, [.s 4], none⟩
def c_cmp_isNaN_of_int : C :=
(.seq (.rg 0 false [] [{i := .mv 2 (.c (.d true (.bool false)))}] [])
 (.seq (.rg 1 false [] [{i := .mv 3 (.t 0)}, {i := .mv 4 (.t 0)}, {i := .bin 5 .neq (.t 3) (.t 4)}, {i := .mv 2 (.t 5)}] [])
 .ret))
def n_cmp_isNaN_of_int : Fn := ⟨c_cmp_isNaN_of_int, [.s 2], (some [false])⟩
def fnList : List (Nat × Fn) := [(k_law38_QueueRest, n_law38_QueueRest),
 (k_ref36_Great, n_ref36_Great),
 (k_queue_Chain, n_queue_Chain),
 (k_queue_Right, n_queue_Right),
 (k_ref38_Right, n_ref38_Right),
 (k_ref13_Same, n_ref13_Same),
 (k_queue_Push, n_queue_Push),
 (k_queue_Pop, n_queue_Pop),
 (k_queue_Check, n_queue_Check),
 (k_ref38_Same, n_ref38_Same),
 (k_law38_alive, n_law38_alive),
 (k_law38_pushed, n_law38_pushed),
 (k_law38_popped, n_law38_popped),
 (k_ref02_Great, n_ref02_Great),
 (k_ref02_Check, n_ref02_Check),
 (k_ref02_Size, n_ref02_Size),
 (k_slices_Collect_of_int, n_slices_Collect_of_int),
 (k_queue_chain, n_queue_chain),
 (k_gates_Check, n_gates_Check),
 (k_clause_Check, n_clause_Check),
 (k_ref13_Valid, n_ref13_Valid),
 (k_queue_may, n_queue_may),
 (k_queue_order, n_queue_order),
 (k_slices_IsSortedFunc_of_api_Wait, n_slices_IsSortedFunc_of_api_Wait),
 (k_ref02_literals, n_ref02_literals),
 (k_slices_AppendSeq_of_int, n_slices_AppendSeq_of_int),
 (k_queue_chain_1, n_queue_chain_1),
 (k_gates_starts, n_gates_starts),
 (k_gates_Check_1, n_gates_Check_1),
 (k_gates_Check_2, n_gates_Check_2),
 (k_slices_ContainsFunc_of_int, n_slices_ContainsFunc_of_int),
 (k_slices_ContainsFunc_of_api_Latch, n_slices_ContainsFunc_of_api_Latch),
 (k_clause_known, n_clause_known),
 (k_ref13_Lit, n_ref13_Lit),
 (k_cmp_Or_of_int, n_cmp_Or_of_int),
 (k_cmp_Compare_of_int, n_cmp_Compare_of_int),
 (k_slices_IndexFunc_of_int, n_slices_IndexFunc_of_int),
 (k_slices_IndexFunc_of_api_Latch, n_slices_IndexFunc_of_api_Latch),
 (k_cmp_isNaN_of_int, n_cmp_isNaN_of_int)]
def fnOf (f : Nat) : Option Fn := lk fnList f
theorem fn_law38_QueueRest : fnOf k_law38_QueueRest = some n_law38_QueueRest := by kernel_rfl
theorem fn_ref36_Great : fnOf k_ref36_Great = some n_ref36_Great := by kernel_rfl
theorem fn_queue_Chain : fnOf k_queue_Chain = some n_queue_Chain := by kernel_rfl
theorem fn_queue_Right : fnOf k_queue_Right = some n_queue_Right := by kernel_rfl
theorem fn_ref38_Right : fnOf k_ref38_Right = some n_ref38_Right := by kernel_rfl
theorem fn_ref13_Same : fnOf k_ref13_Same = some n_ref13_Same := by kernel_rfl
theorem fn_queue_Push : fnOf k_queue_Push = some n_queue_Push := by kernel_rfl
theorem fn_queue_Pop : fnOf k_queue_Pop = some n_queue_Pop := by kernel_rfl
theorem fn_queue_Check : fnOf k_queue_Check = some n_queue_Check := by kernel_rfl
theorem fn_ref38_Same : fnOf k_ref38_Same = some n_ref38_Same := by kernel_rfl
theorem fn_law38_alive : fnOf k_law38_alive = some n_law38_alive := by kernel_rfl
theorem fn_law38_pushed : fnOf k_law38_pushed = some n_law38_pushed := by kernel_rfl
theorem fn_law38_popped : fnOf k_law38_popped = some n_law38_popped := by kernel_rfl
theorem fn_ref02_Great : fnOf k_ref02_Great = some n_ref02_Great := by kernel_rfl
theorem fn_ref02_Check : fnOf k_ref02_Check = some n_ref02_Check := by kernel_rfl
theorem fn_ref02_Size : fnOf k_ref02_Size = some n_ref02_Size := by kernel_rfl
theorem fn_slices_Collect_of_int : fnOf k_slices_Collect_of_int = some n_slices_Collect_of_int := by kernel_rfl
theorem fn_queue_chain : fnOf k_queue_chain = some n_queue_chain := by kernel_rfl
theorem fn_gates_Check : fnOf k_gates_Check = some n_gates_Check := by kernel_rfl
theorem fn_clause_Check : fnOf k_clause_Check = some n_clause_Check := by kernel_rfl
theorem fn_ref13_Valid : fnOf k_ref13_Valid = some n_ref13_Valid := by kernel_rfl
theorem fn_queue_may : fnOf k_queue_may = some n_queue_may := by kernel_rfl
theorem fn_queue_order : fnOf k_queue_order = some n_queue_order := by kernel_rfl
theorem fn_slices_IsSortedFunc_of_api_Wait : fnOf k_slices_IsSortedFunc_of_api_Wait = some n_slices_IsSortedFunc_of_api_Wait := by kernel_rfl
theorem fn_ref02_literals : fnOf k_ref02_literals = some n_ref02_literals := by kernel_rfl
theorem fn_slices_AppendSeq_of_int : fnOf k_slices_AppendSeq_of_int = some n_slices_AppendSeq_of_int := by kernel_rfl
theorem fn_queue_chain_1 : fnOf k_queue_chain_1 = some n_queue_chain_1 := by kernel_rfl
theorem fn_gates_starts : fnOf k_gates_starts = some n_gates_starts := by kernel_rfl
theorem fn_gates_Check_1 : fnOf k_gates_Check_1 = some n_gates_Check_1 := by kernel_rfl
theorem fn_gates_Check_2 : fnOf k_gates_Check_2 = some n_gates_Check_2 := by kernel_rfl
theorem fn_slices_ContainsFunc_of_int : fnOf k_slices_ContainsFunc_of_int = some n_slices_ContainsFunc_of_int := by kernel_rfl
theorem fn_slices_ContainsFunc_of_api_Latch : fnOf k_slices_ContainsFunc_of_api_Latch = some n_slices_ContainsFunc_of_api_Latch := by kernel_rfl
theorem fn_clause_known : fnOf k_clause_known = some n_clause_known := by kernel_rfl
theorem fn_ref13_Lit : fnOf k_ref13_Lit = some n_ref13_Lit := by kernel_rfl
theorem fn_cmp_Or_of_int : fnOf k_cmp_Or_of_int = some n_cmp_Or_of_int := by kernel_rfl
theorem fn_cmp_Compare_of_int : fnOf k_cmp_Compare_of_int = some n_cmp_Compare_of_int := by kernel_rfl
theorem fn_slices_IndexFunc_of_int : fnOf k_slices_IndexFunc_of_int = some n_slices_IndexFunc_of_int := by kernel_rfl
theorem fn_slices_IndexFunc_of_api_Latch : fnOf k_slices_IndexFunc_of_api_Latch = some n_slices_IndexFunc_of_api_Latch := by kernel_rfl
theorem fn_cmp_isNaN_of_int : fnOf k_cmp_isNaN_of_int = some n_cmp_isNaN_of_int := by kernel_rfl
theorem fn_slices_Insert_of_api_Wait : fnOf k_slices_Insert_of_api_Wait = none := by kernel_rfl
theorem fn_slices_Clone_of_api_Wait : fnOf k_slices_Clone_of_api_Wait = none := by kernel_rfl
end Go.Proofs.Ytkhgnkfdpabflaa.Vm
