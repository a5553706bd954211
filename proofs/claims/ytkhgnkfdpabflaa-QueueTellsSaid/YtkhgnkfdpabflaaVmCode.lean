/- The functions, as the machine's code. Printed. -/
import Derived.Test.YtkhgnkfdpabflaaVmP1
import Derived.KernelRfl
namespace Go.Proofs.Ytkhgnkfdpabflaa.Vm
open Go
def k_law38_QueueTells : Nat := 4
def k_ref38_Great : Nat := 10
def k_queue_Push : Nat := 19
def k_ref38_Push : Nat := 20
def k_queue_Pop : Nat := 21
def k_ref38_Pop : Nat := 22
def k_queue_Check : Nat := 23
def k_ref38_Check : Nat := 24
def k_ref38_Same : Nat := 25
def k_ref38_May : Nat := 27
def k_ref38_Less : Nat := 30
def k_queue_may : Nat := 44
def k_queue_order : Nat := 45
def k_slices_Insert_of_api_Wait : Nat := 46
def k_slices_Clone_of_api_Wait : Nat := 47
def k_ref38_With : Nat := 48
def k_slices_IsSortedFunc_of_api_Wait : Nat := 49
def k_cmp_Or_of_int : Nat := 60
def k_cmp_Compare_of_int : Nat := 61
def k_cmp_isNaN_of_int : Nat := 66
def c_law38_QueueTells_p1 : C :=
(.rg 8 false [] [{i := .mv 46 (.t 5)}, {i := .call 47 k_queue_Check [(.t 46)] none}, {i := .mv 48 (.t 0)}, {i := .call 49 k_ref38_Check [(.t 48)] none}, {i := .bin 50 .eql (.t 47) (.t 49)}, {i := .mv 51 (.t 50)}, ⟨(.mv 52 (.t 6)), (some (51, true))⟩, ⟨(.mv 53 (.t 8)), (some (51, true))⟩, ⟨(.call 54 k_ref38_Same [(.t 52), (.t 53)] none), (some (51, true))⟩, {i := .pick 55 (.t 51) (.t 54) (.c (.d true (.bool false)))}, {i := .mv 56 (.t 55)}, ⟨(.mv 57 (.t 7)), (some (56, true))⟩, ⟨(.mv 58 (.t 9)), (some (56, true))⟩, ⟨(.bin 59 .eql (.t 57) (.t 58)), (some (56, true))⟩, {i := .pick 60 (.t 56) (.t 59) (.c (.d true (.bool false)))}, {i := .mv 61 (.t 60)}, ⟨(.load 62 (.t 10) 3), (some (61, true))⟩, ⟨(.load 63 (.t 13) 3), (some (61, true))⟩, ⟨(.eqs 64 false [true, true] (.t 62) (.t 63)), (some (61, true))⟩, {i := .pick 65 (.t 61) (.t 64) (.c (.d true (.bool false)))}, {i := .mv 66 (.t 65)}, ⟨(.mv 67 (.t 11)), (some (66, true))⟩, ⟨(.mv 68 (.t 14)), (some (66, true))⟩, ⟨(.call 69 k_ref38_Same [(.t 67), (.t 68)] none), (some (66, true))⟩, {i := .pick 70 (.t 66) (.t 69) (.c (.d true (.bool false)))}, {i := .mv 71 (.t 70)}, ⟨(.mv 72 (.t 12)), (some (71, true))⟩, ⟨(.mv 73 (.t 15)), (some (71, true))⟩, ⟨(.bin 74 .eql (.t 72) (.t 73)), (some (71, true))⟩, {i := .pick 75 (.t 71) (.t 74) (.c (.d true (.bool false)))}, {i := .mv 76 (.t 75)}, ⟨(.mv 77 (.t 5)), (some (76, true))⟩, ⟨(.mv 78 (.t 0)), (some (76, true))⟩, ⟨(.call 79 k_ref38_Same [(.t 77), (.t 78)] none), (some (76, true))⟩, {i := .pick 80 (.t 76) (.t 79) (.c (.d true (.bool false)))}, {i := .mv 4 (.t 80)}] [])
def c_law38_QueueTells : C :=
(.seq (.rg 0 false [] [{i := .box 3 0 (.t 1) 3}, {i := .mv 4 (.c (.d true (.bool false)))}] [])
 (.seq (.seq (.rg 1 false [] [{i := .mv 16 (.t 0)}, {i := .len 17 (.t 16)}, {i := .call 18 k_ref38_Great [(.t 17)] none}] [])
 (.cond (.t 18) (.seq (.rg 2 false [] [{i := .mv 4 (.c (.d true (.bool true)))}] [])
 .ret) .skip))
 (.seq (.rg 3 false [] [{i := .bsl 19 1 2 0 (.k (.agg [(.int .i64 0), (.int .i64 0)])) []}, {i := .mv 20 (.t 0)}, {i := .app 21 2 2 (.t 19) (.t 20)}, {i := .mv 5 (.t 21)}] [])
 (.seq (.rg 4 false [] [{i := .mv 23 (.t 5)}, {i := .load 24 (.t 3) 3}, {i := .call 25 k_queue_Push [(.t 23), (.t 24)] none}, {i := .mv 22 (.t 25)}, {i := .xt 26 (.t 22) 0}, {i := .xt 27 (.t 22) 1}, {i := .mv 6 (.t 26)}, {i := .mv 7 (.t 27)}] [])
 (.seq (.rg 5 false [] [{i := .mv 29 (.t 0)}, {i := .load 30 (.t 3) 3}, {i := .call 31 k_ref38_Push [(.t 29), (.t 30)] none}, {i := .mv 28 (.t 31)}, {i := .xt 32 (.t 28) 0}, {i := .xt 33 (.t 28) 1}, {i := .mv 8 (.t 32)}, {i := .mv 9 (.t 33)}] [])
 (.seq (.rg 6 false [] [{i := .mv 35 (.t 5)}, {i := .call 36 k_queue_Pop [(.t 35)] none}, {i := .mv 34 (.t 36)}, {i := .xt 37 (.t 34) 0}, {i := .xt 38 (.t 34) 1}, {i := .xt 39 (.t 34) 2}, {i := .alloc 10 3 [(.k (.int .i64 0)), (.k (.int .i64 0))]}, {i := .store (.t 10) (.t 37) 3}, {i := .mv 11 (.t 38)}, {i := .mv 12 (.t 39)}] [])
 (.seq (.rg 7 false [] [{i := .mv 41 (.t 0)}, {i := .call 42 k_ref38_Pop [(.t 41)] none}, {i := .mv 40 (.t 42)}, {i := .xt 43 (.t 40) 0}, {i := .xt 44 (.t 40) 1}, {i := .xt 45 (.t 40) 2}, {i := .alloc 13 4 [(.k (.int .i64 0)), (.k (.int .i64 0))]}, {i := .store (.t 13) (.t 43) 3}, {i := .mv 14 (.t 44)}, {i := .mv 15 (.t 45)}] [])
 (.seq c_law38_QueueTells_p1
 .ret))))))))
def n_law38_QueueTells : Fn := ⟨c_law38_QueueTells, [.s 4], (some [false, false])⟩
def c_ref38_Great_p1 : C :=
(.rg 1 false [] [{i := .mv 3 (.t 0)}, {i := .bin 4 .gtr (.t 3) (.c (.d true (.int .i64 130)))}, {i := .mv 5 (.t 4)}, ⟨(.mv 6 (.t 0)), (some (5, true))⟩, ⟨(.bin 7 .lss (.t 6) (.c (.d true (.int .i64 1000)))), (some (5, true))⟩, {i := .pick 8 (.t 5) (.t 7) (.c (.d true (.bool false)))}, {i := .mv 9 (.t 8)}, ⟨(.mv 10 (.t 0)), (some (9, false))⟩, ⟨(.bin 11 .gtr (.t 10) (.c (.d true (.int .i64 1010)))), (some (9, false))⟩, {i := .pick 12 (.t 9) (.c (.d true (.bool true))) (.t 11)}, {i := .mv 2 (.t 12)}] [])
def c_ref38_Great : C :=
(.seq (.rg 0 false [] [{i := .mv 2 (.c (.d true (.bool false)))}] [])
 (.seq c_ref38_Great_p1
 .ret))
def n_ref38_Great : Fn := ⟨c_ref38_Great, [.s 2], (some [false])⟩
def c_queue_Push_l1 : C :=
(.seq (.rg 10 false [] [{i := .bin 26 .lss (.t 25) (.t 24)}] [])
 (.seq (.cond (.t 26) .skip (.exit 0))
 (.seq (.block 1 (.seq (.rg 11 false [.kill 1 2] [{i := .mv 27 (.t 25)}, {i := .ix 28 (.t 23) (.t 25) 2}, {i := .load 29 (.t 28) 3}, {i := .alloc 9 1 [.k (.int .i64 0), .k (.int .i64 0)]}, {i := .mv 8 (.t 27)}, {i := .store (.t 9) (.t 29) 3}] [])
 (.seq (.rg 12 false [] [{i := .load 30 (.t 3) 3}, {i := .load 31 (.t 9) 3}, {i := .call 32 k_queue_order [(.t 30), (.t 31)] none}, {i := .bin 33 .lss (.t 32) (.c (.d true (.int .i64 0)))}] [])
 (.cond (.t 33) (.seq (.rg 13 false [] [{i := .mv 34 (.t 8)}, {i := .mv 7 (.t 34)}] [])
 (.exit 0)) .skip))))
 (.rg 14 false [] [{i := .bin 35 .add (.t 25) (.c (.d true (.int .i64 1)))}, {i := .mv 25 (.t 35)}] []))))
def c_queue_Push : C :=
(.seq (.rg 0 false [] [{i := .box 3 0 (.t 1) 3}, {i := .mv 4 (.c (.nil 2))}, {i := .mv 5 (.c (.d true (.int .i64 0)))}] [])
 (.seq .skip (.seq (.seq (.rg 1 false [] [{i := .mv 10 (.t 0)}, {i := .call 11 k_queue_Check [(.t 10)] none}, {i := .mv 6 (.t 11)}] [])
 (.seq (.rg 2 false [] [{i := .mv 12 (.t 6)}, {i := .bin 13 .neq (.t 12) (.c (.d true (.int .i64 0)))}] [])
 (.cond (.t 13) (.seq (.rg 3 false [] [{i := .mv 14 (.t 6)}, {i := .mv 4 (.c (.nil 2))}, {i := .mv 5 (.t 14)}] [])
 .ret) .skip)))
 (.seq (.seq (.rg 4 false [] [{i := .load 15 (.t 3) 3}, {i := .call 16 k_queue_may [(.t 15)] none}, {i := .un 17 .not (.t 16)}] [])
 (.cond (.t 17) (.seq (.rg 5 false [] [{i := .mv 4 (.c (.nil 2))}, {i := .mv 5 (.c (.d true (.int .i64 2)))}] [])
 .ret) .skip))
 (.seq (.seq (.rg 6 false [] [{i := .mv 18 (.t 0)}, {i := .len 19 (.t 18)}, {i := .bin 20 .eql (.t 19) (.c (.d true (.int .i64 1000)))}] [])
 (.cond (.t 20) (.seq (.rg 7 false [] [{i := .mv 4 (.c (.nil 2))}, {i := .mv 5 (.c (.d true (.int .i64 4)))}] [])
 .ret) .skip))
 (.seq (.rg 8 false [] [{i := .mv 21 (.t 0)}, {i := .len 22 (.t 21)}, {i := .mv 7 (.t 22)}] [])
 (.seq .skip
 (.seq (.seq (.rg 9 false [] [{i := .mv 23 (.t 0)}, {i := .len 24 (.t 23)}, {i := .mv 25 (.c (.d true (.int .i64 0)))}] [])
 (.block 0 (.loop c_queue_Push_l1)))
 (.seq (.rg 15 true [] [{i := .mv 36 (.t 0)}, {i := .call 37 k_slices_Clone_of_api_Wait [(.t 36)] (some 40)}, {i := .mv 38 (.t 7)}, {i := .load 39 (.t 3) 3}, {i := .bsl 40 2 2 1 (.k (.agg [(.int .i64 0), (.int .i64 0)])) [(0, (.t 39))]}, {i := .call 41 k_slices_Insert_of_api_Wait [(.t 37), (.t 38), (.t 40)] (some 44)}, {i := .mv 4 (.t 41)}, {i := .mv 5 (.c (.d true (.int .i64 0)))}] [[0, 2, 3, 1, 4, 5, 6, 7], [0, 2, 3, 4, 1, 5, 6, 7]])
 .ret)))))))))
def n_queue_Push : Fn := ⟨c_queue_Push, [.s 4, .s 5], (some [false, false])⟩
def c_ref38_Push : C :=
(.seq (.rg 0 false [] [{i := .box 3 0 (.t 1) 3}, {i := .mv 4 (.c (.nil 2))}, {i := .mv 5 (.c (.d true (.int .i64 0)))}] [])
 (.seq (.seq (.rg 1 false [] [{i := .mv 7 (.t 0)}, {i := .call 8 k_ref38_Check [(.t 7)] none}, {i := .mv 6 (.t 8)}] [])
 (.seq (.rg 2 false [] [{i := .mv 9 (.t 6)}, {i := .bin 10 .neq (.t 9) (.c (.d true (.int .i64 0)))}] [])
 (.cond (.t 10) (.seq (.rg 3 false [] [{i := .mv 11 (.t 6)}, {i := .mv 4 (.c (.nil 2))}, {i := .mv 5 (.t 11)}] [])
 .ret) .skip)))
 (.seq (.seq (.rg 4 false [] [{i := .load 12 (.t 3) 3}, {i := .call 13 k_ref38_May [(.t 12)] none}, {i := .un 14 .not (.t 13)}] [])
 (.cond (.t 14) (.seq (.rg 5 false [] [{i := .mv 4 (.c (.nil 2))}, {i := .mv 5 (.c (.d true (.int .i64 2)))}] [])
 .ret) .skip))
 (.seq (.seq (.rg 6 false [] [{i := .mv 15 (.t 0)}, {i := .len 16 (.t 15)}, {i := .bin 17 .eql (.t 16) (.c (.d true (.int .i64 1000)))}] [])
 (.cond (.t 17) (.seq (.rg 7 false [] [{i := .mv 4 (.c (.nil 2))}, {i := .mv 5 (.c (.d true (.int .i64 4)))}] [])
 .ret) .skip))
 (.seq (.rg 8 false [] [{i := .mv 18 (.t 0)}, {i := .load 19 (.t 3) 3}, {i := .call 20 k_ref38_With [(.t 18), (.t 19)] none}, {i := .mv 4 (.t 20)}, {i := .mv 5 (.c (.d true (.int .i64 0)))}] [])
 .ret)))))
def n_ref38_Push : Fn := ⟨c_ref38_Push, [.s 4, .s 5], (some [false, false])⟩
def c_queue_Pop : C :=
(.seq (.rg 0 false [] [{i := .alloc 2 0 [.k (.int .i64 0), .k (.int .i64 0)]}, {i := .mv 3 (.c (.nil 2))}, {i := .mv 4 (.c (.d true (.int .i64 0)))}] [])
 (.seq (.seq (.rg 1 false [] [{i := .mv 6 (.t 0)}, {i := .call 7 k_queue_Check [(.t 6)] none}, {i := .mv 5 (.t 7)}] [])
 (.seq (.rg 2 false [] [{i := .mv 8 (.t 5)}, {i := .bin 9 .neq (.t 8) (.c (.d true (.int .i64 0)))}] [])
 (.cond (.t 9) (.seq (.rg 3 false [] [{i := .bld 10 [.k (.int .i64 0), .k (.int .i64 0)] []}, {i := .mv 11 (.t 5)}, {i := .store (.t 2) (.t 10) 3}, {i := .mv 3 (.c (.nil 2))}, {i := .mv 4 (.t 11)}] [])
 .ret) .skip)))
 (.seq (.seq (.rg 4 false [] [{i := .mv 12 (.t 0)}, {i := .len 13 (.t 12)}, {i := .bin 14 .eql (.t 13) (.c (.d true (.int .i64 0)))}] [])
 (.cond (.t 14) (.seq (.rg 5 false [] [{i := .bld 15 [.k (.int .i64 0), .k (.int .i64 0)] []}, {i := .store (.t 2) (.t 15) 3}, {i := .mv 3 (.c (.nil 2))}, {i := .mv 4 (.c (.d true (.int .i64 6)))}] [])
 .ret) .skip))
 (.seq (.rg 6 true [] [{i := .mv 16 (.t 0)}, {i := .ix 17 (.t 16) (.c (.d true (.int .i64 0))) 2}, {i := .load 18 (.t 17) 3}, {i := .mv 19 (.t 0)}, {i := .slc 20 2 (.t 19) (some (.c (.d true (.int .i64 1)))) none none}, {i := .call 21 k_slices_Clone_of_api_Wait [(.t 20)] none}, {i := .store (.t 2) (.t 18) 3}, {i := .mv 3 (.t 21)}, {i := .mv 4 (.c (.d true (.int .i64 0)))}] [[0, 1, 3, 4, 5, 2, 6, 7, 8], [0, 3, 4, 5, 1, 2, 6, 7, 8]])
 .ret))))
def n_queue_Pop : Fn := ⟨c_queue_Pop, [.c 2 3, .s 3, .s 4], (some [false])⟩
def c_ref38_Pop : C :=
(.seq (.rg 0 false [] [{i := .alloc 2 0 [.k (.int .i64 0), .k (.int .i64 0)]}, {i := .mv 3 (.c (.nil 2))}, {i := .mv 4 (.c (.d true (.int .i64 0)))}] [])
 (.seq (.seq (.rg 1 false [] [{i := .mv 6 (.t 0)}, {i := .call 7 k_ref38_Check [(.t 6)] none}, {i := .mv 5 (.t 7)}] [])
 (.seq (.rg 2 false [] [{i := .mv 8 (.t 5)}, {i := .bin 9 .neq (.t 8) (.c (.d true (.int .i64 0)))}] [])
 (.cond (.t 9) (.seq (.rg 3 false [] [{i := .bld 10 [.k (.int .i64 0), .k (.int .i64 0)] []}, {i := .mv 11 (.t 5)}, {i := .store (.t 2) (.t 10) 3}, {i := .mv 3 (.c (.nil 2))}, {i := .mv 4 (.t 11)}] [])
 .ret) .skip)))
 (.seq (.seq (.rg 4 false [] [{i := .mv 12 (.t 0)}, {i := .len 13 (.t 12)}, {i := .bin 14 .eql (.t 13) (.c (.d true (.int .i64 0)))}] [])
 (.cond (.t 14) (.seq (.rg 5 false [] [{i := .bld 15 [.k (.int .i64 0), .k (.int .i64 0)] []}, {i := .store (.t 2) (.t 15) 3}, {i := .mv 3 (.c (.nil 2))}, {i := .mv 4 (.c (.d true (.int .i64 6)))}] [])
 .ret) .skip))
 (.seq (.rg 6 true [] [{i := .mv 16 (.t 0)}, {i := .ix 17 (.t 16) (.c (.d true (.int .i64 0))) 2}, {i := .load 18 (.t 17) 3}, {i := .bsl 19 1 2 0 (.k (.agg [(.int .i64 0), (.int .i64 0)])) []}, {i := .mv 20 (.t 0)}, {i := .slc 21 2 (.t 20) (some (.c (.d true (.int .i64 1)))) none none}, {i := .app 22 2 2 (.t 19) (.t 21)}, {i := .store (.t 2) (.t 18) 3}, {i := .mv 3 (.t 22)}, {i := .mv 4 (.c (.d true (.int .i64 0)))}] [])
 .ret))))
def n_ref38_Pop : Fn := ⟨c_ref38_Pop, [.c 2 3, .s 3, .s 4], (some [false])⟩
def c_queue_Check_l1 : C :=
(.seq (.rg 4 false [] [{i := .bin 11 .lss (.t 10) (.t 9)}] [])
 (.seq (.cond (.t 11) .skip (.exit 0))
 (.seq (.block 1 (.seq (.rg 5 false [(.kill 0 1)] [{i := .ix 12 (.t 8) (.t 10) 2}, {i := .load 13 (.t 12) 3}, {i := .alloc 4 0 [(.k (.int .i64 0)), (.k (.int .i64 0))]}, {i := .store (.t 4) (.t 13) 3}] [])
 (.seq (.rg 6 false [] [{i := .load 14 (.t 4) 3}, {i := .call 15 k_queue_may [(.t 14)] none}, {i := .un 16 .not (.t 15)}] [])
 (.cond (.t 16) (.seq (.rg 7 false [] [{i := .mv 2 (.c (.d true (.int .i64 8)))}] [])
 .ret) .skip))))
 (.rg 8 false [] [{i := .bin 17 .add (.t 10) (.c (.d true (.int .i64 1)))}, {i := .mv 10 (.t 17)}] []))))
def c_queue_Check_p1 : C :=
(.rg 9 false [] [{i := .mv 18 (.t 0)}, {i := .call 19 k_slices_IsSortedFunc_of_api_Wait [(.t 18), (.c (.cl k_queue_order []))] none}, {i := .un 20 .not (.t 19)}] [])
def c_queue_Check : C :=
(.seq (.rg 0 false [] [{i := .mv 2 (.c (.d true (.int .i64 0)))}] [])
 (.seq (.seq (.rg 1 false [] [{i := .mv 5 (.t 0)}, {i := .len 6 (.t 5)}, {i := .bin 7 .gtr (.t 6) (.c (.d true (.int .i64 1000)))}] [])
 (.cond (.t 7) (.seq (.rg 2 false [] [{i := .mv 2 (.c (.d true (.int .i64 4)))}] [])
 .ret) .skip))
 (.seq (.seq (.rg 3 false [] [{i := .mv 8 (.t 0)}, {i := .len 9 (.t 8)}, {i := .mv 10 (.c (.d true (.int .i64 0)))}] [])
 (.block 0 (.loop c_queue_Check_l1)))
 (.seq (.seq c_queue_Check_p1
 (.cond (.t 20) (.seq (.rg 10 false [] [{i := .mv 2 (.c (.d true (.int .i64 8)))}] [])
 .ret) .skip))
 (.seq (.rg 11 false [] [{i := .mv 2 (.c (.d true (.int .i64 0)))}] [])
 .ret)))))
def n_queue_Check : Fn := ⟨c_queue_Check, [.s 2], (some [false])⟩
def c_ref38_Check_p1 : C :=
(.rg 6 true [] [{i := .mv 13 (.t 0)}, {i := .mv 14 (.t 3)}, {i := .ix 15 (.t 13) (.t 14) 2}, {i := .load 16 (.t 15) 3}, {i := .call 17 k_ref38_May [(.t 16)] none}, {i := .un 18 .not (.t 17)}, {i := .mv 19 (.t 18)}, ⟨(.mv 20 (.t 3)), (some (19, false))⟩, ⟨(.bin 21 .gtr (.t 20) (.c (.d true (.int .i64 0)))), (some (19, false))⟩, ⟨(.mv 22 (.t 21)), (some (19, false))⟩, ⟨(.mv 23 (.t 0)), (some (22, true))⟩, ⟨(.mv 24 (.t 3)), (some (22, true))⟩, ⟨(.ix 25 (.t 23) (.t 24) 2), (some (22, true))⟩, ⟨(.load 26 (.t 25) 3), (some (22, true))⟩, ⟨(.mv 27 (.t 0)), (some (22, true))⟩, ⟨(.mv 28 (.t 3)), (some (22, true))⟩, ⟨(.bin 29 .sub (.t 28) (.c (.d true (.int .i64 1)))), (some (22, true))⟩, ⟨(.ix 30 (.t 27) (.t 29) 2), (some (22, true))⟩, ⟨(.load 31 (.t 30) 3), (some (22, true))⟩, ⟨(.call 32 k_ref38_Less [(.t 26), (.t 31)] none), (some (22, true))⟩, ⟨(.pick 33 (.t 22) (.t 32) (.c (.d true (.bool false)))), (some (19, false))⟩, {i := .pick 34 (.t 19) (.c (.d true (.bool true))) (.t 33)}] [])
def c_ref38_Check_l1 : C :=
(.seq (.seq (.rg 4 false [] [{i := .mv 7 (.t 3)}, {i := .mv 8 (.t 0)}, {i := .len 9 (.t 8)}, {i := .bin 10 .lss (.t 7) (.t 9)}] [])
 (.cond (.t 10) .skip (.exit 0)))
 (.seq (.block 1 (.seq c_ref38_Check_p1
 (.cond (.t 34) (.seq (.rg 7 false [] [{i := .mv 2 (.c (.d true (.int .i64 8)))}] [])
 .ret) .skip)))
 (.rg 5 false [] [{i := .mv 11 (.t 3)}, {i := .bin 12 .add (.t 11) (.c (.d true (.int .i64 1)))}, {i := .mv 3 (.t 12)}] [])))
def c_ref38_Check : C :=
(.seq (.rg 0 false [] [{i := .mv 2 (.c (.d true (.int .i64 0)))}] [])
 (.seq (.seq (.rg 1 false [] [{i := .mv 4 (.t 0)}, {i := .len 5 (.t 4)}, {i := .bin 6 .gtr (.t 5) (.c (.d true (.int .i64 1000)))}] [])
 (.cond (.t 6) (.seq (.rg 2 false [] [{i := .mv 2 (.c (.d true (.int .i64 4)))}] [])
 .ret) .skip))
 (.seq (.seq (.rg 3 false [] [{i := .mv 3 (.c (.d true (.int .i64 0)))}] [])
 (.block 0 (.loop c_ref38_Check_l1)))
 (.seq (.rg 8 false [] [{i := .mv 2 (.c (.d true (.int .i64 0)))}] [])
 .ret))))
def n_ref38_Check : Fn := ⟨c_ref38_Check, [.s 2], (some [false])⟩
def c_ref38_Same_p1 : C :=
(.rg 6 true [] [{i := .mv 17 (.t 0)}, {i := .mv 18 (.t 5)}, {i := .ix 19 (.t 17) (.t 18) 2}, {i := .load 20 (.t 19) 3}, {i := .mv 21 (.t 1)}, {i := .mv 22 (.t 5)}, {i := .ix 23 (.t 21) (.t 22) 2}, {i := .load 24 (.t 23) 3}, {i := .eqs 25 true [true, true] (.t 20) (.t 24)}] [])
def c_ref38_Same_l1 : C :=
(.seq (.seq (.rg 4 false [] [{i := .mv 11 (.t 5)}, {i := .mv 12 (.t 0)}, {i := .len 13 (.t 12)}, {i := .bin 14 .lss (.t 11) (.t 13)}] [])
 (.cond (.t 14) .skip (.exit 0)))
 (.seq (.block 1 (.seq c_ref38_Same_p1
 (.cond (.t 25) (.seq (.rg 7 false [] [{i := .mv 4 (.c (.d true (.bool false)))}] [])
 .ret) .skip)))
 (.rg 5 false [] [{i := .mv 15 (.t 5)}, {i := .bin 16 .add (.t 15) (.c (.d true (.int .i64 1)))}, {i := .mv 5 (.t 16)}] [])))
def c_ref38_Same : C :=
(.seq (.rg 0 false [] [{i := .mv 4 (.c (.d true (.bool false)))}] [])
 (.seq (.seq (.rg 1 false [] [{i := .mv 6 (.t 0)}, {i := .len 7 (.t 6)}, {i := .mv 8 (.t 1)}, {i := .len 9 (.t 8)}, {i := .bin 10 .neq (.t 7) (.t 9)}] [])
 (.cond (.t 10) (.seq (.rg 2 false [] [{i := .mv 4 (.c (.d true (.bool false)))}] [])
 .ret) .skip))
 (.seq (.seq (.rg 3 false [] [{i := .mv 5 (.c (.d true (.int .i64 0)))}] [])
 (.block 0 (.loop c_ref38_Same_l1)))
 (.seq (.rg 8 false [] [{i := .mv 4 (.c (.d true (.bool true)))}] [])
 .ret))))
def n_ref38_Same : Fn := ⟨c_ref38_Same, [.s 4], (some [false, false])⟩
def c_ref38_May_p1 : C :=
(.rg 1 false [] [{i := .fad 3 (.t 1) 0 0}, {i := .load 4 (.t 3) 0}, {i := .bin 5 .geq (.t 4) (.c (.d true (.int .i64 0)))}, {i := .mv 6 (.t 5)}, ⟨(.fad 7 (.t 1) 0 0), (some (6, true))⟩, ⟨(.load 8 (.t 7) 0), (some (6, true))⟩, ⟨(.bin 9 .leq (.t 8) (.c (.d true (.int .i64 60)))), (some (6, true))⟩, {i := .pick 10 (.t 6) (.t 9) (.c (.d true (.bool false)))}, {i := .mv 11 (.t 10)}, ⟨(.fad 12 (.t 1) 1 0), (some (11, true))⟩, ⟨(.load 13 (.t 12) 0), (some (11, true))⟩, ⟨(.bin 14 .geq (.t 13) (.c (.d true (.int .i64 0)))), (some (11, true))⟩, {i := .pick 15 (.t 11) (.t 14) (.c (.d true (.bool false)))}, {i := .mv 16 (.t 15)}, ⟨(.fad 17 (.t 1) 1 0), (some (16, true))⟩, ⟨(.load 18 (.t 17) 0), (some (16, true))⟩, ⟨(.bin 19 .lss (.t 18) (.c (.d true (.int .i64 1000)))), (some (16, true))⟩, {i := .pick 20 (.t 16) (.t 19) (.c (.d true (.bool false)))}, {i := .mv 2 (.t 20)}] [])
def c_ref38_May : C :=
(.seq (.rg 0 false [] [{i := .box 1 0 (.t 0) 3}, {i := .mv 2 (.c (.d true (.bool false)))}] [])
 (.seq c_ref38_May_p1
 .ret))
def n_ref38_May : Fn := ⟨c_ref38_May, [.s 2], (some [false])⟩
def c_ref38_Less_p1 : C :=
(.rg 1 false [] [{i := .fad 5 (.t 2) 0 0}, {i := .load 6 (.t 5) 0}, {i := .fad 7 (.t 3) 0 0}, {i := .load 8 (.t 7) 0}, {i := .bin 9 .lss (.t 6) (.t 8)}, {i := .mv 10 (.t 9)}, ⟨(.fad 11 (.t 2) 0 0), (some (10, false))⟩, ⟨(.load 12 (.t 11) 0), (some (10, false))⟩, ⟨(.fad 13 (.t 3) 0 0), (some (10, false))⟩, ⟨(.load 14 (.t 13) 0), (some (10, false))⟩, ⟨(.bin 15 .eql (.t 12) (.t 14)), (some (10, false))⟩, ⟨(.mv 16 (.t 15)), (some (10, false))⟩, ⟨(.fad 17 (.t 2) 1 0), (some (16, true))⟩, ⟨(.load 18 (.t 17) 0), (some (16, true))⟩, ⟨(.fad 19 (.t 3) 1 0), (some (16, true))⟩, ⟨(.load 20 (.t 19) 0), (some (16, true))⟩, ⟨(.bin 21 .lss (.t 18) (.t 20)), (some (16, true))⟩, ⟨(.pick 22 (.t 16) (.t 21) (.c (.d true (.bool false)))), (some (10, false))⟩, {i := .pick 23 (.t 10) (.c (.d true (.bool true))) (.t 22)}, {i := .mv 4 (.t 23)}] [])
def c_ref38_Less : C :=
(.seq (.rg 0 false [] [{i := .box 2 0 (.t 0) 3}, {i := .box 3 1 (.t 1) 3}, {i := .mv 4 (.c (.d true (.bool false)))}] [])
 (.seq c_ref38_Less_p1
 .ret))
def n_ref38_Less : Fn := ⟨c_ref38_Less, [.s 4], (some [false, false])⟩
def c_queue_may_p1 : C :=
(.rg 1 false [] [{i := .fad 3 (.t 1) 0 0}, {i := .load 4 (.t 3) 0}, {i := .bin 5 .geq (.t 4) (.c (.d true (.int .i64 0)))}, {i := .mv 6 (.t 5)}, ⟨(.fad 7 (.t 1) 0 0), (some (6, true))⟩, ⟨(.load 8 (.t 7) 0), (some (6, true))⟩, ⟨(.bin 9 .leq (.t 8) (.c (.d true (.int .i64 60)))), (some (6, true))⟩, {i := .pick 10 (.t 6) (.t 9) (.c (.d true (.bool false)))}, {i := .mv 11 (.t 10)}, ⟨(.fad 12 (.t 1) 1 0), (some (11, true))⟩, ⟨(.load 13 (.t 12) 0), (some (11, true))⟩, ⟨(.bin 14 .geq (.t 13) (.c (.d true (.int .i64 0)))), (some (11, true))⟩, {i := .pick 15 (.t 11) (.t 14) (.c (.d true (.bool false)))}, {i := .mv 16 (.t 15)}, ⟨(.fad 17 (.t 1) 1 0), (some (16, true))⟩, ⟨(.load 18 (.t 17) 0), (some (16, true))⟩, ⟨(.bin 19 .lss (.t 18) (.c (.d true (.int .i64 1000)))), (some (16, true))⟩, {i := .pick 20 (.t 16) (.t 19) (.c (.d true (.bool false)))}, {i := .mv 2 (.t 20)}] [])
def c_queue_may : C :=
(.seq (.rg 0 false [] [{i := .box 1 0 (.t 0) 3}, {i := .mv 2 (.c (.d true (.bool false)))}] [])
 (.seq c_queue_may_p1
 .ret))
def n_queue_may : Fn := ⟨c_queue_may, [.s 2], (some [false])⟩
def c_queue_order : C :=
(.seq (.rg 0 false [] [{i := .box 2 0 (.t 0) 3}, {i := .box 3 1 (.t 1) 3}, {i := .mv 4 (.c (.d true (.int .i64 0)))}] [])
 (.seq (.rg 1 true [] [{i := .fad 5 (.t 2) 0 0}, {i := .load 6 (.t 5) 0}, {i := .fad 7 (.t 3) 0 0}, {i := .load 8 (.t 7) 0}, {i := .call 9 k_cmp_Compare_of_int [(.t 6), (.t 8)] none}, {i := .fad 10 (.t 2) 1 0}, {i := .load 11 (.t 10) 0}, {i := .fad 12 (.t 3) 1 0}, {i := .load 13 (.t 12) 0}, {i := .call 14 k_cmp_Compare_of_int [(.t 11), (.t 13)] none}, {i := .bsl 15 2 1 2 (.k (.int .i64 0)) [(0, (.t 9)), (1, (.t 14))]}, {i := .call 16 k_cmp_Or_of_int [(.t 15)] none}, {i := .mv 4 (.t 16)}] [])
 .ret))
def n_queue_order : Fn := ⟨c_queue_order, [.s 4], none⟩
def c_ref38_With_p1 : C :=
(.rg 2 true [] [{i := .mv 6 (.t 5)}, {i := .mv 7 (.t 0)}, {i := .len 8 (.t 7)}, {i := .bin 9 .lss (.t 6) (.t 8)}, {i := .mv 10 (.t 9)}, ⟨(.load 11 (.t 3) 3), (some (10, true))⟩, ⟨(.mv 12 (.t 0)), (some (10, true))⟩, ⟨(.mv 13 (.t 5)), (some (10, true))⟩, ⟨(.ix 14 (.t 12) (.t 13) 2), (some (10, true))⟩, ⟨(.load 15 (.t 14) 3), (some (10, true))⟩, ⟨(.call 16 k_ref38_Less [(.t 11), (.t 15)] none), (some (10, true))⟩, ⟨(.un 17 .not (.t 16)), (some (10, true))⟩, {i := .pick 18 (.t 10) (.t 17) (.c (.d true (.bool false)))}] [])
def c_ref38_With_l1 : C :=
(.seq (.seq c_ref38_With_p1
 (.cond (.t 18) .skip (.exit 0)))
 (.block 1 (.rg 3 false [] [{i := .mv 19 (.t 5)}, {i := .bin 20 .add (.t 19) (.c (.d true (.int .i64 1)))}, {i := .mv 5 (.t 20)}] [])))
def c_ref38_With : C :=
(.seq (.rg 0 false [] [{i := .box 3 0 (.t 1) 3}, {i := .mv 4 (.c (.nil 2))}] [])
 (.seq (.rg 1 false [] [{i := .mv 5 (.c (.d true (.int .i64 0)))}] [])
 (.seq (.block 0 (.loop c_ref38_With_l1))
 (.seq (.rg 4 true [] [{i := .bsl 21 1 2 0 (.k (.agg [(.int .i64 0), (.int .i64 0)])) []}, {i := .mv 22 (.t 0)}, {i := .mv 23 (.t 5)}, {i := .slc 24 2 (.t 22) none (some (.t 23)) none}, {i := .app 25 2 2 (.t 21) (.t 24)}, {i := .load 26 (.t 3) 3}, {i := .bsl 27 3 2 1 (.k (.agg [(.int .i64 0), (.int .i64 0)])) [(0, (.t 26))]}, {i := .app 28 4 2 (.t 25) (.t 27)}, {i := .mv 29 (.t 0)}, {i := .mv 30 (.t 5)}, {i := .slc 31 2 (.t 29) (some (.t 30)) none none}, {i := .app 32 5 2 (.t 28) (.t 31)}, {i := .mv 4 (.t 32)}] [])
 .ret))))
def n_ref38_With : Fn := ⟨c_ref38_With, [.s 4], (some [false, false])⟩
def c_slices_IsSortedFunc_of_api_Wait_l1 : C :=
(.seq (.seq (.rg 2 false [] [{i := .mv 9 (.t 5)}, {i := .bin 10 .gtr (.t 9) (.c (.d true (.int .i64 0)))}] [])
 (.cond (.t 10) .skip (.exit 0)))
 (.seq (.block 1 (.seq (.rg 4 true [] [{i := .mv 13 (.t 1)}, {i := .mv 14 (.t 0)}, {i := .mv 15 (.t 5)}, {i := .ix 16 (.t 14) (.t 15) 2}, {i := .load 17 (.t 16) 3}, {i := .mv 18 (.t 0)}, {i := .mv 19 (.t 5)}, {i := .bin 20 .sub (.t 19) (.c (.d true (.int .i64 1)))}, {i := .ix 21 (.t 18) (.t 20) 2}, {i := .load 22 (.t 21) 3}, {i := .callv 23 (.t 13) [(.t 17), (.t 22)] none}, {i := .bin 24 .lss (.t 23) (.c (.d true (.int .i64 0)))}] [])
 (.cond (.t 24) (.seq (.rg 5 false [] [{i := .mv 4 (.c (.d true (.bool false)))}] [])
 .ret) .skip)))
 (.rg 3 false [] [{i := .mv 11 (.t 5)}, {i := .bin 12 .sub (.t 11) (.c (.d true (.int .i64 1)))}, {i := .mv 5 (.t 12)}] [])))
def c_slices_IsSortedFunc_of_api_Wait : C :=
(.seq (.rg 0 false [] [{i := .mv 4 (.c (.d true (.bool false)))}] [])
 (.seq (.seq (.rg 1 false [] [{i := .mv 6 (.t 0)}, {i := .len 7 (.t 6)}, {i := .bin 8 .sub (.t 7) (.c (.d true (.int .i64 1)))}, {i := .mv 5 (.t 8)}] [])
 (.block 0 (.loop c_slices_IsSortedFunc_of_api_Wait_l1)))
 (.seq (.rg 6 false [] [{i := .mv 4 (.c (.d true (.bool true)))}] [])
 .ret)))
def n_slices_IsSortedFunc_of_api_Wait : Fn := ⟨c_slices_IsSortedFunc_of_api_Wait, [.s 4], none⟩
def c_cmp_Or_of_int_l1 : C :=
(.seq (.rg 3 false [] [{i := .bin 9 .lss (.t 8) (.t 7)}] [])
 (.seq (.cond (.t 9) .skip (.exit 0))
 (.seq (.block 1 (.seq (.rg 4 false [] [{i := .ix 10 (.t 6) (.t 8) 1}, {i := .load 11 (.t 10) 0}, {i := .mv 5 (.t 11)}] [])
 (.seq (.rg 5 false [] [{i := .mv 12 (.t 5)}, {i := .mv 13 (.t 3)}, {i := .bin 14 .neq (.t 12) (.t 13)}] [])
 (.cond (.t 14) (.seq (.rg 6 false [] [{i := .mv 15 (.t 5)}, {i := .mv 2 (.t 15)}] [])
 .ret) .skip))))
 (.rg 7 false [] [{i := .bin 16 .add (.t 8) (.c (.d true (.int .i64 1)))}, {i := .mv 8 (.t 16)}] []))))
def c_cmp_Or_of_int : C :=
(.seq (.rg 0 false [] [{i := .mv 2 (.c (.d true (.int .i64 0)))}] [])
 (.seq (.rg 1 false [] [{i := .mv 3 (.c (.d true (.int .i64 0)))}] [])
 (.seq (.seq (.rg 2 false [] [{i := .mv 6 (.t 0)}, {i := .len 7 (.t 6)}, {i := .mv 8 (.c (.d true (.int .i64 0)))}] [])
 (.block 0 (.loop c_cmp_Or_of_int_l1)))
 (.seq (.rg 8 false [] [{i := .mv 17 (.t 3)}, {i := .mv 2 (.t 17)}] [])
 .ret))))
def n_cmp_Or_of_int : Fn := ⟨c_cmp_Or_of_int, [.s 2], (some [false])⟩
def c_cmp_Compare_of_int : C :=
(.seq (.rg 0 false [] [{i := .mv 4 (.c (.d true (.int .i64 0)))}] [])
 (.seq (.rg 1 false [] [{i := .mv 7 (.t 0)}, {i := .call 8 k_cmp_isNaN_of_int [(.t 7)] none}, {i := .mv 5 (.t 8)}] [])
 (.seq (.rg 2 false [] [{i := .mv 9 (.t 1)}, {i := .call 10 k_cmp_isNaN_of_int [(.t 9)] none}, {i := .mv 6 (.t 10)}] [])
 (.seq (.seq (.rg 3 false [] [{i := .mv 11 (.t 5)}] [])
 (.cond (.t 11) (.seq (.seq (.rg 4 false [] [{i := .mv 12 (.t 6)}] [])
 (.cond (.t 12) (.seq (.rg 5 false [] [{i := .mv 4 (.c (.d true (.int .i64 0)))}] [])
 .ret) .skip))
 (.seq (.rg 6 false [] [{i := .mv 4 (.c (.d true (.int .i64 (-1))))}] [])
 .ret)) .skip))
 (.seq (.seq (.rg 7 false [] [{i := .mv 13 (.t 6)}] [])
 (.cond (.t 13) (.seq (.rg 8 false [] [{i := .mv 4 (.c (.d true (.int .i64 1)))}] [])
 .ret) .skip))
 (.seq (.seq (.rg 9 false [] [{i := .mv 14 (.t 0)}, {i := .mv 15 (.t 1)}, {i := .bin 16 .lss (.t 14) (.t 15)}] [])
 (.cond (.t 16) (.seq (.rg 10 false [] [{i := .mv 4 (.c (.d true (.int .i64 (-1))))}] [])
 .ret) .skip))
 (.seq (.seq (.rg 11 false [] [{i := .mv 17 (.t 0)}, {i := .mv 18 (.t 1)}, {i := .bin 19 .gtr (.t 17) (.t 18)}] [])
 (.cond (.t 19) (.seq (.rg 12 false [] [{i := .mv 4 (.c (.d true (.int .i64 1)))}] [])
 .ret) .skip))
 (.seq (.rg 13 false [] [{i := .mv 4 (.c (.d true (.int .i64 0)))}] [])
 .ret))))))))
def n_cmp_Compare_of_int : Fn := ⟨c_cmp_Compare_of_int, [.s 4], (some [false, false])⟩
def c_cmp_isNaN_of_int : C :=
(.seq (.rg 0 false [] [{i := .mv 2 (.c (.d true (.bool false)))}] [])
 (.seq (.rg 1 false [] [{i := .mv 3 (.t 0)}, {i := .mv 4 (.t 0)}, {i := .bin 5 .neq (.t 3) (.t 4)}, {i := .mv 2 (.t 5)}] [])
 .ret))
def n_cmp_isNaN_of_int : Fn := ⟨c_cmp_isNaN_of_int, [.s 2], (some [false])⟩
def fnList : List (Nat × Fn) := [(k_law38_QueueTells, n_law38_QueueTells),
 (k_ref38_Great, n_ref38_Great),
 (k_queue_Push, n_queue_Push),
 (k_ref38_Push, n_ref38_Push),
 (k_queue_Pop, n_queue_Pop),
 (k_ref38_Pop, n_ref38_Pop),
 (k_queue_Check, n_queue_Check),
 (k_ref38_Check, n_ref38_Check),
 (k_ref38_Same, n_ref38_Same),
 (k_ref38_May, n_ref38_May),
 (k_ref38_Less, n_ref38_Less),
 (k_queue_may, n_queue_may),
 (k_queue_order, n_queue_order),
 (k_ref38_With, n_ref38_With),
 (k_slices_IsSortedFunc_of_api_Wait, n_slices_IsSortedFunc_of_api_Wait),
 (k_cmp_Or_of_int, n_cmp_Or_of_int),
 (k_cmp_Compare_of_int, n_cmp_Compare_of_int),
 (k_cmp_isNaN_of_int, n_cmp_isNaN_of_int)]
def fnOf (f : Nat) : Option Fn := lk fnList f
theorem fn_law38_QueueTells : fnOf k_law38_QueueTells = some n_law38_QueueTells := by kernel_rfl
theorem fn_ref38_Great : fnOf k_ref38_Great = some n_ref38_Great := by kernel_rfl
theorem fn_queue_Push : fnOf k_queue_Push = some n_queue_Push := by kernel_rfl
theorem fn_ref38_Push : fnOf k_ref38_Push = some n_ref38_Push := by kernel_rfl
theorem fn_queue_Pop : fnOf k_queue_Pop = some n_queue_Pop := by kernel_rfl
theorem fn_ref38_Pop : fnOf k_ref38_Pop = some n_ref38_Pop := by kernel_rfl
theorem fn_queue_Check : fnOf k_queue_Check = some n_queue_Check := by kernel_rfl
theorem fn_ref38_Check : fnOf k_ref38_Check = some n_ref38_Check := by kernel_rfl
theorem fn_ref38_Same : fnOf k_ref38_Same = some n_ref38_Same := by kernel_rfl
theorem fn_ref38_May : fnOf k_ref38_May = some n_ref38_May := by kernel_rfl
theorem fn_ref38_Less : fnOf k_ref38_Less = some n_ref38_Less := by kernel_rfl
theorem fn_queue_may : fnOf k_queue_may = some n_queue_may := by kernel_rfl
theorem fn_queue_order : fnOf k_queue_order = some n_queue_order := by kernel_rfl
theorem fn_ref38_With : fnOf k_ref38_With = some n_ref38_With := by kernel_rfl
theorem fn_slices_IsSortedFunc_of_api_Wait : fnOf k_slices_IsSortedFunc_of_api_Wait = some n_slices_IsSortedFunc_of_api_Wait := by kernel_rfl
theorem fn_cmp_Or_of_int : fnOf k_cmp_Or_of_int = some n_cmp_Or_of_int := by kernel_rfl
theorem fn_cmp_Compare_of_int : fnOf k_cmp_Compare_of_int = some n_cmp_Compare_of_int := by kernel_rfl
theorem fn_cmp_isNaN_of_int : fnOf k_cmp_isNaN_of_int = some n_cmp_isNaN_of_int := by kernel_rfl
theorem fn_slices_Insert_of_api_Wait : fnOf k_slices_Insert_of_api_Wait = none := by kernel_rfl
theorem fn_slices_Clone_of_api_Wait : fnOf k_slices_Clone_of_api_Wait = none := by kernel_rfl
end Go.Proofs.Ytkhgnkfdpabflaa.Vm
