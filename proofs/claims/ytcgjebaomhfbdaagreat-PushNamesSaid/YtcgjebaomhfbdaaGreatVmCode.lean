/- The functions, as the machine's code. Printed. -/
import Derived.Test.YtcgjebaomhfbdaaGreatVmCode0
import Derived.KernelRfl
namespace Go.Proofs.YtcgjebaomhfbdaaGreat.Vm
open Go
def c_slices_partitionOrdered_of_int_l4 : C :=
(.seq (.seq (.rg 15 true [] [⟨.mv 115 (.t 10), none⟩,
⟨.mv 116 (.t 11), none⟩,
⟨.bin 117 .leq (.t 115) (.t 116), none⟩,
⟨.mv 118 (.t 117), none⟩,
⟨.mv 119 (.t 0), some (118, true)⟩,
⟨.mv 120 (.t 11), some (118, true)⟩,
⟨.ix 121 (.t 119) (.t 120) 1, some (118, true)⟩,
⟨.load 122 (.t 121) 0, some (118, true)⟩,
⟨.mv 123 (.t 0), some (118, true)⟩,
⟨.mv 124 (.t 1), some (118, true)⟩,
⟨.ix 125 (.t 123) (.t 124) 1, some (118, true)⟩,
⟨.load 126 (.t 125) 0, some (118, true)⟩,
⟨.call 127 k_cmp_Less_of_int [(.t 122), (.t 126)] none, some (118, true)⟩,
⟨.un 128 .not (.t 127), some (118, true)⟩,
⟨.pick 129 (.t 118) (.t 128) (.c (.d true (.bool false))), none⟩] [])
(.cond (.t 129) .skip (.exit 8)))
(.block 9 (.rg 16 false [] [⟨.mv 130 (.t 11), none⟩,
⟨.bin 131 .sub (.t 130) (.c (.d true (.int .i64 1))), none⟩,
⟨.mv 11 (.t 131), none⟩] [])))
def c_slices_partitionOrdered_of_int_l5 : C :=
(.block 5 (.seq (.block 6 (.loop c_slices_partitionOrdered_of_int_l3))
(.seq (.block 8 (.loop c_slices_partitionOrdered_of_int_l4))
(.seq (.seq (.rg 17 false [] [⟨.mv 132 (.t 10), none⟩,
⟨.mv 133 (.t 11), none⟩,
⟨.bin 134 .gtr (.t 132) (.t 133), none⟩] [])
(.cond (.t 134) (.exit 4) .skip))
(.seq (.rg 18 true [] [⟨.mv 135 (.t 0), none⟩,
⟨.mv 136 (.t 10), none⟩,
⟨.mv 137 (.t 0), none⟩,
⟨.mv 138 (.t 11), none⟩,
⟨.mv 139 (.t 0), none⟩,
⟨.mv 140 (.t 11), none⟩,
⟨.ix 141 (.t 139) (.t 140) 1, none⟩,
⟨.load 142 (.t 141) 0, none⟩,
⟨.mv 143 (.t 0), none⟩,
⟨.mv 144 (.t 10), none⟩,
⟨.ix 145 (.t 143) (.t 144) 1, none⟩,
⟨.load 146 (.t 145) 0, none⟩,
⟨.ix 147 (.t 135) (.t 136) 1, none⟩,
⟨.store (.t 147) (.t 142) 0, none⟩,
⟨.ix 148 (.t 137) (.t 138) 1, none⟩,
⟨.store (.t 148) (.t 146) 0, none⟩] [])
(.seq (.rg 19 false [] [⟨.mv 149 (.t 10), none⟩,
⟨.bin 150 .add (.t 149) (.c (.d true (.int .i64 1))), none⟩,
⟨.mv 10 (.t 150), none⟩] [])
(.rg 20 false [] [⟨.mv 151 (.t 11), none⟩,
⟨.bin 152 .sub (.t 151) (.c (.d true (.int .i64 1))), none⟩,
⟨.mv 11 (.t 152), none⟩] [])))))))
def c_slices_partitionOrdered_of_int : C :=
(.seq (.rg 0 false [] [⟨.mv 8 (.c (.d true (.int .i64 0))), none⟩,
⟨.mv 9 (.c (.d true (.bool false))), none⟩] [])
(.seq (.rg 1 true [] [⟨.mv 12 (.t 0), none⟩,
⟨.mv 13 (.t 1), none⟩,
⟨.mv 14 (.t 0), none⟩,
⟨.mv 15 (.t 3), none⟩,
⟨.mv 16 (.t 0), none⟩,
⟨.mv 17 (.t 3), none⟩,
⟨.ix 18 (.t 16) (.t 17) 1, none⟩,
⟨.load 19 (.t 18) 0, none⟩,
⟨.mv 20 (.t 0), none⟩,
⟨.mv 21 (.t 1), none⟩,
⟨.ix 22 (.t 20) (.t 21) 1, none⟩,
⟨.load 23 (.t 22) 0, none⟩,
⟨.ix 24 (.t 12) (.t 13) 1, none⟩,
⟨.store (.t 24) (.t 19) 0, none⟩,
⟨.ix 25 (.t 14) (.t 15) 1, none⟩,
⟨.store (.t 25) (.t 23) 0, none⟩] [])
(.seq (.rg 2 false [] [⟨.mv 26 (.t 1), none⟩,
⟨.bin 27 .add (.t 26) (.c (.d true (.int .i64 1))), none⟩,
⟨.mv 28 (.t 2), none⟩,
⟨.bin 29 .sub (.t 28) (.c (.d true (.int .i64 1))), none⟩,
⟨.mv 10 (.t 27), none⟩,
⟨.mv 11 (.t 29), none⟩] [])
(.seq (.block 0 (.loop c_slices_partitionOrdered_of_int_l1))
(.seq (.block 2 (.loop c_slices_partitionOrdered_of_int_l2))
(.seq (.seq (.rg 7 false [] [⟨.mv 63 (.t 10), none⟩,
⟨.mv 64 (.t 11), none⟩,
⟨.bin 65 .gtr (.t 63) (.t 64), none⟩] [])
(.cond (.t 65) (.seq (.rg 8 true [] [⟨.mv 66 (.t 0), none⟩,
⟨.mv 67 (.t 11), none⟩,
⟨.mv 68 (.t 0), none⟩,
⟨.mv 69 (.t 1), none⟩,
⟨.mv 70 (.t 0), none⟩,
⟨.mv 71 (.t 1), none⟩,
⟨.ix 72 (.t 70) (.t 71) 1, none⟩,
⟨.load 73 (.t 72) 0, none⟩,
⟨.mv 74 (.t 0), none⟩,
⟨.mv 75 (.t 11), none⟩,
⟨.ix 76 (.t 74) (.t 75) 1, none⟩,
⟨.load 77 (.t 76) 0, none⟩,
⟨.ix 78 (.t 66) (.t 67) 1, none⟩,
⟨.store (.t 78) (.t 73) 0, none⟩,
⟨.ix 79 (.t 68) (.t 69) 1, none⟩,
⟨.store (.t 79) (.t 77) 0, none⟩] [])
(.seq (.rg 9 false [] [⟨.mv 80 (.t 11), none⟩,
⟨.mv 8 (.t 80), none⟩,
⟨.mv 9 (.c (.d true (.bool true))), none⟩] [])
.ret)) .skip))
(.seq (.rg 10 true [] [⟨.mv 81 (.t 0), none⟩,
⟨.mv 82 (.t 10), none⟩,
⟨.mv 83 (.t 0), none⟩,
⟨.mv 84 (.t 11), none⟩,
⟨.mv 85 (.t 0), none⟩,
⟨.mv 86 (.t 11), none⟩,
⟨.ix 87 (.t 85) (.t 86) 1, none⟩,
⟨.load 88 (.t 87) 0, none⟩,
⟨.mv 89 (.t 0), none⟩,
⟨.mv 90 (.t 10), none⟩,
⟨.ix 91 (.t 89) (.t 90) 1, none⟩,
⟨.load 92 (.t 91) 0, none⟩,
⟨.ix 93 (.t 81) (.t 82) 1, none⟩,
⟨.store (.t 93) (.t 88) 0, none⟩,
⟨.ix 94 (.t 83) (.t 84) 1, none⟩,
⟨.store (.t 94) (.t 92) 0, none⟩] [])
(.seq (.rg 11 false [] [⟨.mv 95 (.t 10), none⟩,
⟨.bin 96 .add (.t 95) (.c (.d true (.int .i64 1))), none⟩,
⟨.mv 10 (.t 96), none⟩] [])
(.seq (.rg 12 false [] [⟨.mv 97 (.t 11), none⟩,
⟨.bin 98 .sub (.t 97) (.c (.d true (.int .i64 1))), none⟩,
⟨.mv 11 (.t 98), none⟩] [])
(.seq (.block 4 (.loop c_slices_partitionOrdered_of_int_l5))
(.seq (.rg 21 true [] [⟨.mv 153 (.t 0), none⟩,
⟨.mv 154 (.t 11), none⟩,
⟨.mv 155 (.t 0), none⟩,
⟨.mv 156 (.t 1), none⟩,
⟨.mv 157 (.t 0), none⟩,
⟨.mv 158 (.t 1), none⟩,
⟨.ix 159 (.t 157) (.t 158) 1, none⟩,
⟨.load 160 (.t 159) 0, none⟩,
⟨.mv 161 (.t 0), none⟩,
⟨.mv 162 (.t 11), none⟩,
⟨.ix 163 (.t 161) (.t 162) 1, none⟩,
⟨.load 164 (.t 163) 0, none⟩,
⟨.ix 165 (.t 153) (.t 154) 1, none⟩,
⟨.store (.t 165) (.t 160) 0, none⟩,
⟨.ix 166 (.t 155) (.t 156) 1, none⟩,
⟨.store (.t 166) (.t 164) 0, none⟩] [])
(.seq (.rg 22 false [] [⟨.mv 167 (.t 11), none⟩,
⟨.mv 8 (.t 167), none⟩,
⟨.mv 9 (.c (.d true (.bool false))), none⟩] [])
.ret))))))))))))
def n_slices_partitionOrdered_of_int : Fn := ⟨c_slices_partitionOrdered_of_int, [.s 8, .s 9], none⟩

def c_bits_Len32 : C :=
(.seq (.rg 0 false [] [⟨.mv 2 (.c (.d true (.int .i64 0))), none⟩] [])
(.seq (.seq (.rg 1 false [] [⟨.mv 3 (.t 0), none⟩,
⟨.bin 4 .geq (.t 3) (.c (.d true (.int .u32 65536))), none⟩] [])
(.cond (.t 4) (.seq (.rg 2 false [] [⟨.mv 5 (.t 0), none⟩,
⟨.bin 6 .shr (.t 5) (.c (.d true (.int .u64 16))), none⟩,
⟨.mv 0 (.t 6), none⟩] [])
(.rg 3 false [] [⟨.mv 2 (.c (.d true (.int .i64 16))), none⟩] [])) .skip))
(.seq (.seq (.rg 4 false [] [⟨.mv 7 (.t 0), none⟩,
⟨.bin 8 .geq (.t 7) (.c (.d true (.int .u32 256))), none⟩] [])
(.cond (.t 8) (.seq (.rg 5 false [] [⟨.mv 9 (.t 0), none⟩,
⟨.bin 10 .shr (.t 9) (.c (.d true (.int .u64 8))), none⟩,
⟨.mv 0 (.t 10), none⟩] [])
(.rg 6 false [] [⟨.mv 11 (.t 2), none⟩,
⟨.bin 12 .add (.t 11) (.c (.d true (.int .i64 8))), none⟩,
⟨.mv 2 (.t 12), none⟩] [])) .skip))
(.seq (.rg 7 false [] [⟨.mv 13 (.t 2), none⟩,
⟨.mv 14 (.t 0), none⟩,
⟨.cvt 15 .u8 (.t 14), none⟩,
⟨.stx 16 [0, 1, 2, 2, 3, 3, 3, 3, 4, 4, 4, 4, 4, 4, 4, 4, 5, 5, 5, 5, 5, 5, 5, 5, 5, 5, 5, 5, 5, 5, 5, 5, 6, 6, 6, 6, 6, 6, 6, 6, 6, 6, 6, 6, 6, 6, 6, 6, 6, 6, 6, 6, 6, 6, 6, 6, 6, 6, 6, 6, 6, 6, 6, 6, 7, 7, 7, 7, 7, 7, 7, 7, 7, 7, 7, 7, 7, 7, 7, 7, 7, 7, 7, 7, 7, 7, 7, 7, 7, 7, 7, 7, 7, 7, 7, 7, 7, 7, 7, 7, 7, 7, 7, 7, 7, 7, 7, 7, 7, 7, 7, 7, 7, 7, 7, 7, 7, 7, 7, 7, 7, 7, 7, 7, 7, 7, 7, 7, 8, 8, 8, 8, 8, 8, 8, 8, 8, 8, 8, 8, 8, 8, 8, 8, 8, 8, 8, 8, 8, 8, 8, 8, 8, 8, 8, 8, 8, 8, 8, 8, 8, 8, 8, 8, 8, 8, 8, 8, 8, 8, 8, 8, 8, 8, 8, 8, 8, 8, 8, 8, 8, 8, 8, 8, 8, 8, 8, 8, 8, 8, 8, 8, 8, 8, 8, 8, 8, 8, 8, 8, 8, 8, 8, 8, 8, 8, 8, 8, 8, 8, 8, 8, 8, 8, 8, 8, 8, 8, 8, 8, 8, 8, 8, 8, 8, 8, 8, 8, 8, 8, 8, 8, 8, 8, 8, 8, 8, 8, 8, 8, 8, 8, 8, 8, 8, 8, 8, 8, 8, 8, 8, 8, 8, 8, 8, 8] (.t 15), none⟩,
⟨.cvt 17 .i64 (.t 16), none⟩,
⟨.bin 18 .add (.t 13) (.t 17), none⟩,
⟨.mv 2 (.t 18), none⟩] [])
.ret))))
def n_bits_Len32 : Fn := ⟨c_bits_Len32, [.s 2], (some [false])⟩

def c_bits_Len64 : C :=
(.seq (.rg 0 false [] [⟨.mv 2 (.c (.d true (.int .i64 0))), none⟩] [])
(.seq (.seq (.rg 1 false [] [⟨.mv 3 (.t 0), none⟩,
⟨.bin 4 .geq (.t 3) (.c (.d true (.int .u64 4294967296))), none⟩] [])
(.cond (.t 4) (.seq (.rg 2 false [] [⟨.mv 5 (.t 0), none⟩,
⟨.bin 6 .shr (.t 5) (.c (.d true (.int .u64 32))), none⟩,
⟨.mv 0 (.t 6), none⟩] [])
(.rg 3 false [] [⟨.mv 2 (.c (.d true (.int .i64 32))), none⟩] [])) .skip))
(.seq (.seq (.rg 4 false [] [⟨.mv 7 (.t 0), none⟩,
⟨.bin 8 .geq (.t 7) (.c (.d true (.int .u64 65536))), none⟩] [])
(.cond (.t 8) (.seq (.rg 5 false [] [⟨.mv 9 (.t 0), none⟩,
⟨.bin 10 .shr (.t 9) (.c (.d true (.int .u64 16))), none⟩,
⟨.mv 0 (.t 10), none⟩] [])
(.rg 6 false [] [⟨.mv 11 (.t 2), none⟩,
⟨.bin 12 .add (.t 11) (.c (.d true (.int .i64 16))), none⟩,
⟨.mv 2 (.t 12), none⟩] [])) .skip))
(.seq (.seq (.rg 7 false [] [⟨.mv 13 (.t 0), none⟩,
⟨.bin 14 .geq (.t 13) (.c (.d true (.int .u64 256))), none⟩] [])
(.cond (.t 14) (.seq (.rg 8 false [] [⟨.mv 15 (.t 0), none⟩,
⟨.bin 16 .shr (.t 15) (.c (.d true (.int .u64 8))), none⟩,
⟨.mv 0 (.t 16), none⟩] [])
(.rg 9 false [] [⟨.mv 17 (.t 2), none⟩,
⟨.bin 18 .add (.t 17) (.c (.d true (.int .i64 8))), none⟩,
⟨.mv 2 (.t 18), none⟩] [])) .skip))
(.seq (.rg 10 false [] [⟨.mv 19 (.t 2), none⟩,
⟨.mv 20 (.t 0), none⟩,
⟨.cvt 21 .u8 (.t 20), none⟩,
⟨.stx 22 [0, 1, 2, 2, 3, 3, 3, 3, 4, 4, 4, 4, 4, 4, 4, 4, 5, 5, 5, 5, 5, 5, 5, 5, 5, 5, 5, 5, 5, 5, 5, 5, 6, 6, 6, 6, 6, 6, 6, 6, 6, 6, 6, 6, 6, 6, 6, 6, 6, 6, 6, 6, 6, 6, 6, 6, 6, 6, 6, 6, 6, 6, 6, 6, 7, 7, 7, 7, 7, 7, 7, 7, 7, 7, 7, 7, 7, 7, 7, 7, 7, 7, 7, 7, 7, 7, 7, 7, 7, 7, 7, 7, 7, 7, 7, 7, 7, 7, 7, 7, 7, 7, 7, 7, 7, 7, 7, 7, 7, 7, 7, 7, 7, 7, 7, 7, 7, 7, 7, 7, 7, 7, 7, 7, 7, 7, 7, 7, 8, 8, 8, 8, 8, 8, 8, 8, 8, 8, 8, 8, 8, 8, 8, 8, 8, 8, 8, 8, 8, 8, 8, 8, 8, 8, 8, 8, 8, 8, 8, 8, 8, 8, 8, 8, 8, 8, 8, 8, 8, 8, 8, 8, 8, 8, 8, 8, 8, 8, 8, 8, 8, 8, 8, 8, 8, 8, 8, 8, 8, 8, 8, 8, 8, 8, 8, 8, 8, 8, 8, 8, 8, 8, 8, 8, 8, 8, 8, 8, 8, 8, 8, 8, 8, 8, 8, 8, 8, 8, 8, 8, 8, 8, 8, 8, 8, 8, 8, 8, 8, 8, 8, 8, 8, 8, 8, 8, 8, 8, 8, 8, 8, 8, 8, 8, 8, 8, 8, 8, 8, 8, 8, 8, 8, 8, 8, 8] (.t 21), none⟩,
⟨.cvt 23 .i64 (.t 22), none⟩,
⟨.bin 24 .add (.t 19) (.t 23), none⟩,
⟨.mv 2 (.t 24), none⟩] [])
.ret)))))
def n_bits_Len64 : Fn := ⟨c_bits_Len64, [.s 2], (some [false])⟩

def c_assign_known : C :=
(.seq (.rg 0 false [] [⟨.mv 4 (.c (.d true (.bool false))), none⟩] [])
(.seq (.rg 1 false [] [⟨.mv 5 (.t 1), none⟩,
⟨.bin 6 .geq (.t 5) (.c (.d true (.int .i64 2))), none⟩,
⟨.mv 7 (.t 6), none⟩,
⟨.mv 8 (.t 1), some (7, true)⟩,
⟨.bin 9 .quo (.t 8) (.c (.d true (.int .i64 2))), some (7, true)⟩,
⟨.mv 10 (.t 0), some (7, true)⟩,
⟨.bin 11 .leq (.t 9) (.t 10), some (7, true)⟩,
⟨.pick 12 (.t 7) (.t 11) (.c (.d true (.bool false))), none⟩,
⟨.mv 4 (.t 12), none⟩] [])
.ret))
def n_assign_known : Fn := ⟨c_assign_known, [.s 4], (some [false, false])⟩

def c_unit_state_l1 : C :=
(.seq (.rg 3 false [] [⟨.bin 13 .lss (.t 12) (.t 11), none⟩] [])
(.seq (.cond (.t 13) .skip (.exit 0))
(.seq (.block 1 (.seq (.rg 4 false [] [⟨.ix 14 (.t 10) (.t 12) 1, none⟩,
⟨.load 15 (.t 14) 0, none⟩,
⟨.mv 9 (.t 15), none⟩] [])
(.seq (.rg 5 false [] [⟨.mv 16 (.t 0), none⟩,
⟨.mv 17 (.t 9), none⟩,
⟨.ix 18 (.t 16) (.t 17) 1, none⟩,
⟨.load 19 (.t 18) 0, none⟩] [])
(.block 2 (.seq (.rg 6 false [] [⟨.bin 21 .eql (.t 19) (.c (.d true (.int .u8 1))), none⟩,
⟨.mv 20 (.t 21), none⟩] [])
(.cond (.t 20) (.seq (.rg 7 false [] [⟨.mv 4 (.c (.d true (.int .u8 1))), none⟩,
⟨.mv 5 (.c (.d true (.int .i64 0))), none⟩] [])
.ret) (.seq (.rg 8 false [] [⟨.bin 23 .eql (.t 19) (.c (.d true (.int .u8 2))), none⟩,
⟨.mv 22 (.t 23), none⟩] [])
(.cond (.t 22) (.seq (.rg 9 false [] [⟨.mv 24 (.t 9), none⟩,
⟨.mv 6 (.t 24), none⟩] [])
(.rg 10 false [] [⟨.mv 25 (.t 7), none⟩,
⟨.bin 26 .add (.t 25) (.c (.d true (.int .i64 1))), none⟩,
⟨.mv 7 (.t 26), none⟩] [])) .skip))))))))
(.rg 11 false [] [⟨.bin 27 .add (.t 12) (.c (.d true (.int .i64 1))), none⟩,
⟨.mv 12 (.t 27), none⟩] []))))
def c_unit_state : C :=
(.seq (.rg 0 false [] [⟨.mv 4 (.c (.d true (.int .u8 0))), none⟩,
⟨.mv 5 (.c (.d true (.int .i64 0))), none⟩] [])
(.seq (.rg 1 false [] [⟨.mv 6 (.c (.d true (.int .i64 0))), none⟩,
⟨.mv 7 (.c (.d true (.int .i64 0))), none⟩] [])
(.seq (.seq (.rg 2 false [] [⟨.mv 10 (.t 1), none⟩,
⟨.len 11 (.t 10), none⟩,
⟨.mv 12 (.c (.d true (.int .i64 0))), none⟩] [])
(.block 0 (.loop c_unit_state_l1)))
(.seq (.seq (.rg 12 false [] [⟨.mv 28 (.t 7), none⟩] [])
(.block 3 (.seq (.rg 13 false [] [⟨.bin 30 .eql (.t 28) (.c (.d true (.int .i64 0))), none⟩,
⟨.mv 29 (.t 30), none⟩] [])
(.cond (.t 29) (.seq (.rg 14 false [] [⟨.mv 4 (.c (.d true (.int .u8 0))), none⟩,
⟨.mv 5 (.c (.d true (.int .i64 0))), none⟩] [])
.ret) (.seq (.rg 15 false [] [⟨.bin 32 .eql (.t 28) (.c (.d true (.int .i64 1))), none⟩,
⟨.mv 31 (.t 32), none⟩] [])
(.cond (.t 31) (.seq (.rg 16 false [] [⟨.mv 33 (.t 6), none⟩,
⟨.mv 4 (.c (.d true (.int .u8 3))), none⟩,
⟨.mv 5 (.t 33), none⟩] [])
.ret) .skip))))))
(.seq (.rg 17 false [] [⟨.mv 4 (.c (.d true (.int .u8 2))), none⟩,
⟨.mv 5 (.c (.d true (.int .i64 0))), none⟩] [])
.ret)))))
def n_unit_state : Fn := ⟨c_unit_state, [.s 4, .s 5], (some [false, false])⟩

def c_learn_check_l1 : C :=
(.seq (.rg 8 false [] [⟨.bin 26 .lss (.t 25) (.t 24), none⟩] [])
(.seq (.cond (.t 26) .skip (.exit 0))
(.seq (.block 1 (.seq (.rg 9 false [] [⟨.ix 27 (.t 23) (.t 25) 1, none⟩,
⟨.load 28 (.t 27) 0, none⟩,
⟨.mv 8 (.t 28), none⟩] [])
(.seq (.rg 10 false [] [⟨.mv 29 (.t 0), none⟩,
⟨.mv 30 (.t 8), none⟩,
⟨.call 31 k_clause_Check [(.t 29), (.t 30)] none, none⟩,
⟨.bin 32 .neq (.t 31) (.c (.d true (.int .i64 0))), none⟩] [])
(.cond (.t 32) (.seq (.rg 11 false [] [⟨.mv 6 (.c (.d true (.int .i64 8))), none⟩] [])
.ret) .skip))))
(.rg 12 false [] [⟨.bin 33 .add (.t 25) (.c (.d true (.int .i64 1))), none⟩,
⟨.mv 25 (.t 33), none⟩] []))))
def c_learn_check : C :=
(.seq (.rg 0 false [] [⟨.mv 6 (.c (.d true (.int .i64 0))), none⟩] [])
(.seq (.seq (.rg 1 false [] [⟨.mv 9 (.t 0), none⟩,
⟨.bin 10 .lss (.t 9) (.c (.d true (.int .i64 0))), none⟩,
⟨.mv 11 (.t 10), none⟩,
⟨.mv 12 (.t 0), some (11, false)⟩,
⟨.bin 13 .gtr (.t 12) (.c (.d true (.int .i64 4000))), some (11, false)⟩,
⟨.pick 14 (.t 11) (.c (.d true (.bool true))) (.t 13), none⟩] [])
(.cond (.t 14) (.seq (.rg 2 false [] [⟨.mv 6 (.c (.d true (.int .i64 2))), none⟩] [])
.ret) .skip))
(.seq (.seq (.rg 3 false [] [⟨.mv 15 (.t 0), none⟩,
⟨.mv 16 (.t 2), none⟩,
⟨.bld 17 [.k (.int .i64 0), .n 1, .n 1] [(0, 0, (.t 15)), (1, 0, (.t 16))], none⟩,
⟨.call 18 k_assign_Check [(.t 17)] none, none⟩,
⟨.bin 19 .neq (.t 18) (.c (.d true (.int .i64 0))), none⟩] [])
(.cond (.t 19) (.seq (.rg 4 false [] [⟨.mv 6 (.c (.d true (.int .i64 8))), none⟩] [])
.ret) .skip))
(.seq (.seq (.rg 5 false [] [⟨.mv 20 (.t 1), none⟩,
⟨.len 21 (.t 20), none⟩,
⟨.bin 22 .gtr (.t 21) (.c (.d true (.int .i64 20000))), none⟩] [])
(.cond (.t 22) (.seq (.rg 6 false [] [⟨.mv 6 (.c (.d true (.int .i64 4))), none⟩] [])
.ret) .skip))
(.seq (.seq (.rg 7 false [] [⟨.mv 23 (.t 1), none⟩,
⟨.len 24 (.t 23), none⟩,
⟨.mv 25 (.c (.d true (.int .i64 0))), none⟩] [])
(.block 0 (.loop c_learn_check_l1)))
(.seq (.rg 13 false [] [⟨.mv 6 (.c (.d true (.int .i64 0))), none⟩] [])
.ret))))))
def n_learn_check : Fn := ⟨c_learn_check, [.s 6], (some [false, false, false])⟩

def c_learn_conflict : C :=
(.seq (.rg 0 false [] [⟨.mv 6 (.c (.d true (.bool false))), none⟩] [])
(.seq (.rg 1 false [] [⟨.mv 11 (.t 0), none⟩,
⟨.mv 12 (.t 2), none⟩,
⟨.bld 13 [.k (.int .i64 0), .n 1, .n 1] [(0, 0, (.t 11)), (1, 0, (.t 12))], none⟩,
⟨.mv 14 (.t 1), none⟩,
⟨.call 15 k_unit_Run [(.t 13), (.t 14)] none, none⟩,
⟨.mv 10 (.t 15), none⟩,
⟨.xt 16 (.t 10) 0, none⟩,
⟨.xt 17 (.t 10) 1, none⟩,
⟨.xt 18 (.t 10) 2, none⟩,
⟨.alloc 7 0 [.k (.int .i64 0), .n 1, .n 1], none⟩,
⟨.store (.t 7) (.t 16) 4, none⟩,
⟨.mv 8 (.t 17), none⟩,
⟨.mv 9 (.t 18), none⟩] [])
(.seq (.rg 2 false [] [⟨.mv 19 (.t 9), none⟩,
⟨.bin 20 .eql (.t 19) (.c (.d true (.int .i64 0))), none⟩,
⟨.mv 21 (.t 20), none⟩,
⟨.mv 22 (.t 8), some (21, true)⟩,
⟨.bin 23 .geq (.t 22) (.c (.d true (.int .i64 0))), some (21, true)⟩,
⟨.pick 24 (.t 21) (.t 23) (.c (.d true (.bool false))), none⟩,
⟨.mv 6 (.t 24), none⟩] [])
.ret)))
def n_learn_conflict : Fn := ⟨c_learn_conflict, [.s 6], (some [false, false, false])⟩

def c_slices_Index_of_int_l1 : C :=
(.seq (.rg 2 false [] [⟨.bin 9 .lss (.t 8) (.t 7), none⟩] [])
(.seq (.cond (.t 9) .skip (.exit 0))
(.seq (.block 1 (.seq (.rg 3 false [] [⟨.mv 10 (.t 8), none⟩,
⟨.mv 5 (.t 10), none⟩] [])
(.seq (.rg 4 false [] [⟨.mv 11 (.t 1), none⟩,
⟨.mv 12 (.t 0), none⟩,
⟨.mv 13 (.t 5), none⟩,
⟨.ix 14 (.t 12) (.t 13) 1, none⟩,
⟨.load 15 (.t 14) 0, none⟩,
⟨.bin 16 .eql (.t 11) (.t 15), none⟩] [])
(.cond (.t 16) (.seq (.rg 5 false [] [⟨.mv 17 (.t 5), none⟩,
⟨.mv 4 (.t 17), none⟩] [])
.ret) .skip))))
(.rg 6 false [] [⟨.bin 18 .add (.t 8) (.c (.d true (.int .i64 1))), none⟩,
⟨.mv 8 (.t 18), none⟩] []))))
def c_slices_Index_of_int : C :=
(.seq (.rg 0 false [] [⟨.mv 4 (.c (.d true (.int .i64 0))), none⟩] [])
(.seq (.seq (.rg 1 false [] [⟨.mv 6 (.t 0), none⟩,
⟨.len 7 (.t 6), none⟩,
⟨.mv 8 (.c (.d true (.int .i64 0))), none⟩] [])
(.block 0 (.loop c_slices_Index_of_int_l1)))
(.seq (.rg 7 false [] [⟨.mv 4 (.c (.d true (.int .i64 (-1)))), none⟩] [])
.ret)))
def n_slices_Index_of_int : Fn := ⟨c_slices_Index_of_int, [.s 4], (some [false, false])⟩

def c_jump_levels_l1 : C :=
(.seq (.rg 8 false [] [⟨.bin 30 .lss (.t 29) (.t 28), none⟩] [])
(.seq (.cond (.t 30) .skip (.exit 0))
(.seq (.block 1 (.seq (.rg 9 false [] [⟨.ix 31 (.t 27) (.t 29) 1, none⟩,
⟨.load 32 (.t 31) 0, none⟩,
⟨.mv 11 (.t 32), none⟩] [])
(.seq (.rg 10 false [] [⟨.load 34 (.t 2) 4, none⟩,
⟨.mv 35 (.t 11), none⟩,
⟨.call 36 k_assign_Level [(.t 34), (.t 35)] none, none⟩,
⟨.mv 33 (.t 36), none⟩,
⟨.xt 37 (.t 33) 0, none⟩,
⟨.xt 38 (.t 33) 1, none⟩,
⟨.mv 12 (.t 37), none⟩,
⟨.mv 13 (.t 38), none⟩] [])
(.seq (.seq (.rg 11 false [] [⟨.mv 39 (.t 13), none⟩,
⟨.bin 40 .neq (.t 39) (.c (.d true (.int .i64 0))), none⟩] [])
(.cond (.t 40) (.seq (.rg 12 false [] [⟨.mv 41 (.t 13), none⟩,
⟨.mv 4 (.c (.nil 2)), none⟩,
⟨.mv 5 (.t 41), none⟩] [])
.ret) .skip))
(.rg 13 false [.kill 2 3] [⟨.mv 42 (.t 9), none⟩,
⟨.mv 43 (.t 11), none⟩,
⟨.mv 44 (.t 12), none⟩,
⟨.bld 45 [.k (.int .i64 0), .k (.int .i64 0)] [(0, 0, (.t 43)), (1, 0, (.t 44))], none⟩,
⟨.bsl 46 2 2 1 (.k (.agg [(.int .i64 0), (.int .i64 0)])) [(0, (.t 45))], none⟩,
⟨.app 47 3 2 (.t 42) (.t 46), none⟩,
⟨.mv 9 (.t 47), none⟩] [])))))
(.rg 14 false [] [⟨.bin 48 .add (.t 29) (.c (.d true (.int .i64 1))), none⟩,
⟨.mv 29 (.t 48), none⟩] []))))
def c_jump_levels : C :=
(.seq (.rg 0 false [] [⟨.box 2 0 (.t 0) 4, none⟩,
⟨.mv 4 (.c (.nil 2)), none⟩,
⟨.mv 5 (.c (.d true (.int .i64 0))), none⟩] [])
(.seq (.rg 1 false [] [⟨.load 16 (.t 2) 4, none⟩,
⟨.mv 17 (.t 1), none⟩,
⟨.call 18 k_unit_State [(.t 16), (.t 17)] none, none⟩,
⟨.mv 15 (.t 18), none⟩,
⟨.xt 19 (.t 15) 0, none⟩,
⟨.xt 20 (.t 15) 1, none⟩,
⟨.xt 21 (.t 15) 2, none⟩,
⟨.mv 6 (.t 19), none⟩,
⟨.mv 7 (.t 20), none⟩,
⟨.mv 8 (.t 21), none⟩] [])
(.seq (.seq (.rg 2 false [] [⟨.mv 22 (.t 8), none⟩,
⟨.bin 23 .neq (.t 22) (.c (.d true (.int .i64 0))), none⟩] [])
(.cond (.t 23) (.seq (.rg 3 false [] [⟨.mv 24 (.t 8), none⟩,
⟨.mv 4 (.c (.nil 2)), none⟩,
⟨.mv 5 (.t 24), none⟩] [])
.ret) .skip))
(.seq (.seq (.rg 4 false [] [⟨.mv 25 (.t 6), none⟩,
⟨.bin 26 .neq (.t 25) (.c (.d true (.int .u8 0))), none⟩] [])
(.cond (.t 26) (.seq (.rg 5 false [] [⟨.mv 4 (.c (.nil 2)), none⟩,
⟨.mv 5 (.c (.d true (.int .i64 2))), none⟩] [])
.ret) .skip))
(.seq (.rg 6 false [] [⟨.nilr 9 1 2, none⟩] [])
(.seq (.seq (.rg 7 false [] [⟨.mv 27 (.t 1), none⟩,
⟨.len 28 (.t 27), none⟩,
⟨.mv 29 (.c (.d true (.int .i64 0))), none⟩] [])
(.block 0 (.loop c_jump_levels_l1)))
(.seq (.rg 15 false [] [⟨.mv 14 (.c (.cl k_jump_levels_1 [])), none⟩] [])
(.seq (.rg 16 false [] [⟨.mv 49 (.t 9), none⟩,
⟨.mv 50 (.t 14), none⟩,
⟨.call 51 k_slices_SortFunc_of_jump_at [(.t 49), (.t 50)] none, none⟩] [])
(.seq (.rg 17 false [] [⟨.mv 52 (.t 9), none⟩,
⟨.mv 4 (.t 52), none⟩,
⟨.mv 5 (.c (.d true (.int .i64 0))), none⟩] [])
.ret)))))))))
def n_jump_levels : Fn := ⟨c_jump_levels, [.s 4, .s 5], (some [false, false])⟩

def c_jump_second : C :=
(.seq (.rg 0 false [] [⟨.mv 2 (.c (.d true (.int .i64 0))), none⟩] [])
(.seq (.seq (.rg 1 false [] [⟨.mv 3 (.t 0), none⟩,
⟨.len 4 (.t 3), none⟩,
⟨.bin 5 .lss (.t 4) (.c (.d true (.int .i64 2))), none⟩] [])
(.cond (.t 5) (.seq (.rg 2 false [] [⟨.mv 2 (.c (.d true (.int .i64 0))), none⟩] [])
.ret) .skip))
(.seq (.rg 3 false [] [⟨.mv 6 (.t 0), none⟩,
⟨.ix 7 (.t 6) (.c (.d true (.int .i64 1))) 2, none⟩,
⟨.fad 8 (.t 7) 1 0, none⟩,
⟨.load 9 (.t 8) 0, none⟩,
⟨.mv 2 (.t 9), none⟩] [])
.ret)))
def n_jump_second : Fn := ⟨c_jump_second, [.s 2], (some [false])⟩

def c_assign_Undo : C :=
(.seq (.rg 0 false [] [⟨.box 2 0 (.t 0) 4, none⟩,
⟨.alloc 4 1 [.k (.int .i64 0), .r 2 1, .r 3 1], none⟩,
⟨.mv 5 (.c (.d true (.int .i64 0))), none⟩] [])
(.seq (.seq (.rg 1 false [] [⟨.load 8 (.t 2) 4, none⟩,
⟨.call 9 k_assign_Check [(.t 8)] none, none⟩,
⟨.mv 6 (.t 9), none⟩] [])
(.seq (.rg 2 false [] [⟨.mv 10 (.t 6), none⟩,
⟨.bin 11 .neq (.t 10) (.c (.d true (.int .i64 0))), none⟩] [])
(.cond (.t 11) (.seq (.rg 3 false [] [⟨.bld 12 [.k (.int .i64 0), .n 1, .n 1] [], none⟩,
⟨.mv 13 (.t 6), none⟩,
⟨.store (.t 4) (.t 12) 4, none⟩,
⟨.mv 5 (.t 13), none⟩] [])
.ret) .skip)))
(.seq (.seq (.rg 4 false [] [⟨.mv 14 (.t 1), none⟩,
⟨.bin 15 .lss (.t 14) (.c (.d true (.int .i64 0))), none⟩,
⟨.mv 16 (.t 15), none⟩,
⟨.mv 17 (.t 1), some (16, false)⟩,
⟨.fad 18 (.t 2) 2 0, some (16, false)⟩,
⟨.load 19 (.t 18) 0, some (16, false)⟩,
⟨.len 20 (.t 19), some (16, false)⟩,
⟨.bin 21 .gtr (.t 17) (.t 20), some (16, false)⟩,
⟨.pick 22 (.t 16) (.c (.d true (.bool true))) (.t 21), none⟩] [])
(.cond (.t 22) (.seq (.rg 5 false [] [⟨.bld 23 [.k (.int .i64 0), .n 1, .n 1] [], none⟩,
⟨.store (.t 4) (.t 23) 4, none⟩,
⟨.mv 5 (.c (.d true (.int .i64 2))), none⟩] [])
.ret) .skip))
(.seq (.rg 6 false [] [⟨.fad 24 (.t 2) 1 0, none⟩,
⟨.load 25 (.t 24) 0, none⟩,
⟨.len 26 (.t 25), none⟩,
⟨.mv 7 (.t 26), none⟩] [])
(.seq (.seq (.rg 7 false [] [⟨.mv 27 (.t 1), none⟩,
⟨.fad 28 (.t 2) 2 0, none⟩,
⟨.load 29 (.t 28) 0, none⟩,
⟨.len 30 (.t 29), none⟩,
⟨.bin 31 .lss (.t 27) (.t 30), none⟩] [])
(.cond (.t 31) (.rg 8 false [] [⟨.fad 32 (.t 2) 2 0, none⟩,
⟨.load 33 (.t 32) 0, none⟩,
⟨.mv 34 (.t 1), none⟩,
⟨.ix 35 (.t 33) (.t 34) 1, none⟩,
⟨.load 36 (.t 35) 0, none⟩,
⟨.mv 7 (.t 36), none⟩] []) .skip))
(.seq (.rg 9 true [] [⟨.fad 37 (.t 2) 0 0, none⟩,
⟨.load 38 (.t 37) 0, none⟩,
⟨.fad 39 (.t 2) 1 0, none⟩,
⟨.load 40 (.t 39) 0, none⟩,
⟨.mv 41 (.t 7), none⟩,
⟨.slc 42 1 (.t 40) none (some (.t 41)) none, none⟩,
⟨.call 43 k_slices_Clone_of_int [(.t 42)] none, none⟩,
⟨.fad 44 (.t 2) 2 0, none⟩,
⟨.load 45 (.t 44) 0, none⟩,
⟨.mv 46 (.t 1), none⟩,
⟨.slc 47 1 (.t 45) none (some (.t 46)) none, none⟩,
⟨.call 48 k_slices_Clone_of_int [(.t 47)] none, none⟩,
⟨.bld 49 [.k (.int .i64 0), .n 1, .n 1] [(0, 0, (.t 38)), (1, 0, (.t 43)), (2, 0, (.t 48))], none⟩,
⟨.store (.t 4) (.t 49) 4, none⟩,
⟨.mv 5 (.c (.d true (.int .i64 0))), none⟩] [])
.ret))))))
def n_assign_Undo : Fn := ⟨c_assign_Undo, [.c 4 4, .s 5], (some [false, false])⟩

def c_assign_Imply : C :=
(.seq (.rg 0 false [] [⟨.box 2 0 (.t 0) 4, none⟩,
⟨.alloc 4 1 [.k (.int .i64 0), .r 2 1, .r 3 1], none⟩,
⟨.mv 5 (.c (.d true (.int .i64 0))), none⟩] [])
(.seq (.rg 1 false [] [⟨.load 6 (.t 2) 4, none⟩,
⟨.mv 7 (.t 1), none⟩,
⟨.call 8 k_assign_put [(.t 6), (.t 7)] none, none⟩,
⟨.xt 9 (.t 8) 0, none⟩,
⟨.xt 10 (.t 8) 1, none⟩,
⟨.store (.t 4) (.t 9) 4, none⟩,
⟨.mv 5 (.t 10), none⟩] [])
.ret))
def n_assign_Imply : Fn := ⟨c_assign_Imply, [.c 4 4, .s 5], (some [false, false])⟩

def c_decide_Check_l1 : C :=
(.seq (.rg 5 false [] [⟨.bin 12 .lss (.t 11) (.t 10), none⟩] [])
(.seq (.cond (.t 12) .skip (.exit 0))
(.seq (.block 1 (.seq (.rg 6 false [] [⟨.mv 13 (.t 11), none⟩,
⟨.ix 14 (.t 9) (.t 11) 1, none⟩,
⟨.load 15 (.t 14) 0, none⟩,
⟨.mv 4 (.t 13), none⟩,
⟨.mv 5 (.t 15), none⟩] [])
(.seq (.seq (.rg 7 false [] [⟨.mv 16 (.t 5), none⟩,
⟨.bin 17 .lss (.t 16) (.c (.d true (.int .i64 1))), none⟩,
⟨.mv 18 (.t 17), none⟩,
⟨.mv 19 (.t 5), some (18, false)⟩,
⟨.bin 20 .gtr (.t 19) (.c (.d true (.int .i64 4000))), some (18, false)⟩,
⟨.pick 21 (.t 18) (.c (.d true (.bool true))) (.t 20), none⟩,
⟨.mv 22 (.t 21), none⟩,
⟨.mv 23 (.t 5), some (22, false)⟩,
⟨.ixb 24 (.t 3) (.t 23) 4001 1, some (22, false)⟩,
⟨.load 25 (.t 24) 0, some (22, false)⟩,
⟨.pick 26 (.t 22) (.c (.d true (.bool true))) (.t 25), none⟩,
⟨.mv 27 (.t 26), none⟩,
⟨.mv 28 (.t 4), some (27, false)⟩,
⟨.bin 29 .gtr (.t 28) (.c (.d true (.int .i64 0))), some (27, false)⟩,
⟨.mv 30 (.t 29), some (27, false)⟩,
⟨.mv 31 (.t 5), some (30, true)⟩,
⟨.mv 32 (.t 0), some (30, true)⟩,
⟨.mv 33 (.t 4), some (30, true)⟩,
⟨.bin 34 .sub (.t 33) (.c (.d true (.int .i64 1))), some (30, true)⟩,
⟨.bin 35 .quo (.t 34) (.c (.d true (.int .i64 2))), some (30, true)⟩,
⟨.ix 36 (.t 32) (.t 35) 1, some (30, true)⟩,
⟨.load 37 (.t 36) 0, some (30, true)⟩,
⟨.bin 38 .lss (.t 31) (.t 37), some (30, true)⟩,
⟨.pick 39 (.t 30) (.t 38) (.c (.d true (.bool false))), some (27, false)⟩,
⟨.pick 40 (.t 27) (.c (.d true (.bool true))) (.t 39), none⟩] [])
(.cond (.t 40) (.seq (.rg 8 false [] [⟨.mv 2 (.c (.d true (.int .i64 8))), none⟩] [])
.ret) .skip))
(.rg 9 false [] [⟨.mv 41 (.t 5), none⟩,
⟨.ixb 42 (.t 3) (.t 41) 4001 1, none⟩,
⟨.store (.t 42) (.c (.d true (.bool true))) 0, none⟩] []))))
(.rg 10 false [] [⟨.bin 43 .add (.t 11) (.c (.d true (.int .i64 1))), none⟩,
⟨.mv 11 (.t 43), none⟩] []))))
def c_decide_Check : C :=
(.seq (.rg 0 false [] [⟨.mv 2 (.c (.d true (.int .i64 0))), none⟩] [])
(.seq (.seq (.rg 1 false [] [⟨.mv 6 (.t 0), none⟩,
⟨.len 7 (.t 6), none⟩,
⟨.bin 8 .gtr (.t 7) (.c (.d true (.int .i64 4000))), none⟩] [])
(.cond (.t 8) (.seq (.rg 2 false [] [⟨.mv 2 (.c (.d true (.int .i64 8))), none⟩] [])
.ret) .skip))
(.seq (.rg 3 false [] [⟨.alloc 3 0 (List.replicate 4001 (.k (.bool false))), none⟩] [])
(.seq (.seq (.rg 4 false [] [⟨.mv 9 (.t 0), none⟩,
⟨.len 10 (.t 9), none⟩,
⟨.mv 11 (.c (.d true (.int .i64 0))), none⟩] [])
(.block 0 (.loop c_decide_Check_l1)))
(.seq (.rg 11 false [] [⟨.mv 2 (.c (.d true (.int .i64 0))), none⟩] [])
.ret)))))
def n_decide_Check : Fn := ⟨c_decide_Check, [.s 2], (some [false])⟩

def c_decide_pop_l1 : C :=
(.seq (.rg 7 false [] [⟨.bin 27 .lss (.t 26) (.c (.d true (.int .i64 2))), none⟩] [])
(.seq (.cond (.t 27) .skip (.exit 2))
(.seq (.block 3 (.seq (.rg 8 false [] [⟨.mv 28 (.t 26), none⟩,
⟨.mv 8 (.t 28), none⟩] [])
(.seq (.rg 9 false [] [⟨.mv 29 (.t 6), none⟩,
⟨.bin 30 .mul (.c (.d true (.int .i64 2))) (.t 29), none⟩,
⟨.bin 31 .add (.t 30) (.c (.d true (.int .i64 1))), none⟩,
⟨.mv 32 (.t 8), none⟩,
⟨.bin 33 .add (.t 31) (.t 32), none⟩,
⟨.mv 9 (.t 33), none⟩] [])
(.seq (.rg 10 true [] [⟨.mv 34 (.t 9), none⟩,
⟨.mv 35 (.t 5), none⟩,
⟨.bin 36 .lss (.t 34) (.t 35), none⟩,
⟨.mv 37 (.t 36), none⟩,
⟨.mv 38 (.t 0), some (37, true)⟩,
⟨.mv 39 (.t 9), some (37, true)⟩,
⟨.ix 40 (.t 38) (.t 39) 1, some (37, true)⟩,
⟨.load 41 (.t 40) 0, some (37, true)⟩,
⟨.mv 42 (.t 0), some (37, true)⟩,
⟨.mv 43 (.t 7), some (37, true)⟩,
⟨.ix 44 (.t 42) (.t 43) 1, some (37, true)⟩,
⟨.load 45 (.t 44) 0, some (37, true)⟩,
⟨.bin 46 .lss (.t 41) (.t 45), some (37, true)⟩,
⟨.pick 47 (.t 37) (.t 46) (.c (.d true (.bool false))), none⟩] [])
(.cond (.t 47) (.rg 11 false [] [⟨.mv 48 (.t 9), none⟩,
⟨.mv 7 (.t 48), none⟩] []) .skip)))))
(.rg 12 false [] [⟨.bin 49 .add (.t 26) (.c (.d true (.int .i64 1))), none⟩,
⟨.mv 26 (.t 49), none⟩] []))))
def c_decide_pop_l2 : C :=
(.block 1 (.seq (.rg 5 false [] [⟨.mv 25 (.t 6), none⟩,
⟨.mv 7 (.t 25), none⟩] [])
(.seq (.seq (.rg 6 false [] [⟨.mv 26 (.c (.d true (.int .i64 0))), none⟩] [])
(.block 2 (.loop c_decide_pop_l1)))
(.seq (.seq (.rg 13 false [] [⟨.mv 50 (.t 7), none⟩,
⟨.mv 51 (.t 6), none⟩,
⟨.bin 52 .eql (.t 50) (.t 51), none⟩] [])
(.cond (.t 52) (.seq (.rg 14 false [] [⟨.mv 53 (.t 4), none⟩,
⟨.mv 54 (.t 0), none⟩,
⟨.mv 2 (.t 53), none⟩,
⟨.mv 3 (.t 54), none⟩] [])
.ret) .skip))
(.seq (.rg 15 true [] [⟨.mv 55 (.t 0), none⟩,
⟨.mv 56 (.t 6), none⟩,
⟨.mv 57 (.t 0), none⟩,
⟨.mv 58 (.t 7), none⟩,
⟨.mv 59 (.t 0), none⟩,
⟨.mv 60 (.t 7), none⟩,
⟨.ix 61 (.t 59) (.t 60) 1, none⟩,
⟨.load 62 (.t 61) 0, none⟩,
⟨.mv 63 (.t 0), none⟩,
⟨.mv 64 (.t 6), none⟩,
⟨.ix 65 (.t 63) (.t 64) 1, none⟩,
⟨.load 66 (.t 65) 0, none⟩,
⟨.ix 67 (.t 55) (.t 56) 1, none⟩,
⟨.store (.t 67) (.t 62) 0, none⟩,
⟨.ix 68 (.t 57) (.t 58) 1, none⟩,
⟨.store (.t 68) (.t 66) 0, none⟩] [])
(.rg 16 false [] [⟨.mv 69 (.t 7), none⟩,
⟨.mv 6 (.t 69), none⟩] []))))))
def c_decide_pop : C :=
(.seq (.rg 0 false [] [⟨.mv 2 (.c (.d true (.int .i64 0))), none⟩,
⟨.mv 3 (.c (.nil 1)), none⟩] [])
(.seq (.rg 1 false [] [⟨.mv 10 (.t 0), none⟩,
⟨.ix 11 (.t 10) (.c (.d true (.int .i64 0))) 1, none⟩,
⟨.load 12 (.t 11) 0, none⟩,
⟨.mv 13 (.t 0), none⟩,
⟨.len 14 (.t 13), none⟩,
⟨.bin 15 .sub (.t 14) (.c (.d true (.int .i64 1))), none⟩,
⟨.mv 4 (.t 12), none⟩,
⟨.mv 5 (.t 15), none⟩] [])
(.seq (.rg 2 false [] [⟨.mv 16 (.t 0), none⟩,
⟨.mv 17 (.t 0), none⟩,
⟨.mv 18 (.t 5), none⟩,
⟨.ix 19 (.t 17) (.t 18) 1, none⟩,
⟨.load 20 (.t 19) 0, none⟩,
⟨.ix 21 (.t 16) (.c (.d true (.int .i64 0))) 1, none⟩,
⟨.store (.t 21) (.t 20) 0, none⟩] [])
(.seq (.rg 3 false [] [⟨.mv 22 (.t 0), none⟩,
⟨.mv 23 (.t 5), none⟩,
⟨.slc 24 1 (.t 22) none (some (.t 23)) none, none⟩,
⟨.mv 0 (.t 24), none⟩] [])
(.seq (.rg 4 false [] [⟨.mv 6 (.c (.d true (.int .i64 0))), none⟩] [])
(.block 0 (.loop c_decide_pop_l2)))))))
def n_decide_pop : Fn := ⟨c_decide_pop, [.s 2, .s 3], none⟩

def c_cmp_isNaN_of_int : C :=
(.seq (.rg 0 false [] [⟨.mv 2 (.c (.d true (.bool false))), none⟩] [])
(.seq (.rg 1 false [] [⟨.mv 3 (.t 0), none⟩,
⟨.mv 4 (.t 0), none⟩,
⟨.bin 5 .neq (.t 3) (.t 4), none⟩,
⟨.mv 2 (.t 5), none⟩] [])
.ret))
def n_cmp_isNaN_of_int : Fn := ⟨c_cmp_isNaN_of_int, [.s 2], (some [false])⟩

def c_lits_check_l1 : C :=
(.seq (.rg 2 false [] [⟨.bin 8 .lss (.t 7) (.t 6), none⟩] [])
(.seq (.cond (.t 8) .skip (.exit 0))
(.seq (.block 1 (.seq (.rg 3 false [] [⟨.ix 9 (.t 5) (.t 7) 1, none⟩,
⟨.load 10 (.t 9) 0, none⟩,
⟨.mv 4 (.t 10), none⟩] [])
(.seq (.rg 4 false [] [⟨.mv 11 (.t 4), none⟩,
⟨.bin 12 .lss (.t 11) (.c (.d true (.int .i64 0))), none⟩,
⟨.mv 13 (.t 12), none⟩,
⟨.mv 14 (.t 4), some (13, false)⟩,
⟨.bin 15 .gtr (.t 14) (.c (.d true (.int .i64 2001))), some (13, false)⟩,
⟨.pick 16 (.t 13) (.c (.d true (.bool true))) (.t 15), none⟩] [])
(.cond (.t 16) (.seq (.rg 5 false [] [⟨.mv 2 (.c (.d true (.int .i64 2))), none⟩] [])
.ret) .skip))))
(.rg 6 false [] [⟨.bin 17 .add (.t 7) (.c (.d true (.int .i64 1))), none⟩,
⟨.mv 7 (.t 17), none⟩] []))))
def c_lits_check : C :=
(.seq (.rg 0 false [] [⟨.mv 2 (.c (.d true (.int .i64 0))), none⟩] [])
(.seq (.seq (.rg 1 false [] [⟨.mv 5 (.t 0), none⟩,
⟨.len 6 (.t 5), none⟩,
⟨.mv 7 (.c (.d true (.int .i64 0))), none⟩] [])
(.block 0 (.loop c_lits_check_l1)))
(.seq (.rg 7 false [] [⟨.mv 2 (.c (.d true (.int .i64 0))), none⟩] [])
.ret)))
def n_lits_check : Fn := ⟨c_lits_check, [.s 2], (some [false])⟩

def c_clause_Make_l1 : C :=
(.seq (.rg 4 false [] [⟨.bin 19 .lss (.t 18) (.t 17), none⟩] [])
(.seq (.cond (.t 19) .skip (.exit 0))
(.seq (.block 1 (.seq (.rg 5 false [] [⟨.ix 20 (.t 16) (.t 18) 1, none⟩,
⟨.load 21 (.t 20) 0, none⟩,
⟨.mv 8 (.t 21), none⟩] [])
(.seq (.rg 6 false [] [⟨.mv 22 (.t 0), none⟩,
⟨.mv 23 (.t 8), none⟩,
⟨.call 24 k_clause_known [(.t 22), (.t 23)] none, none⟩,
⟨.un 25 .not (.t 24), none⟩] [])
(.cond (.t 25) (.seq (.rg 7 false [] [⟨.mv 4 (.c (.nil 1)), none⟩,
⟨.mv 5 (.c (.d true (.bool false))), none⟩,
⟨.mv 6 (.c (.d true (.int .i64 8))), none⟩] [])
.ret) .skip))))
(.rg 8 false [] [⟨.bin 26 .add (.t 18) (.c (.d true (.int .i64 1))), none⟩,
⟨.mv 18 (.t 26), none⟩] []))))
def c_clause_Make_l2 : C :=
(.seq (.rg 13 false [] [⟨.bin 36 .lss (.t 35) (.t 34), none⟩] [])
(.seq (.cond (.t 36) .skip (.exit 2))
(.seq (.block 3 (.seq (.rg 14 false [] [⟨.mv 37 (.t 35), none⟩,
⟨.mv 9 (.t 37), none⟩] [])
(.seq (.rg 15 true [] [⟨.mv 38 (.t 9), none⟩,
⟨.bin 39 .gtr (.t 38) (.c (.d true (.int .i64 0))), none⟩,
⟨.mv 40 (.t 39), none⟩,
⟨.mv 41 (.t 4), some (40, true)⟩,
⟨.mv 42 (.t 9), some (40, true)⟩,
⟨.ix 43 (.t 41) (.t 42) 1, some (40, true)⟩,
⟨.load 44 (.t 43) 0, some (40, true)⟩,
⟨.bin 45 .quo (.t 44) (.c (.d true (.int .i64 2))), some (40, true)⟩,
⟨.mv 46 (.t 4), some (40, true)⟩,
⟨.mv 47 (.t 9), some (40, true)⟩,
⟨.bin 48 .sub (.t 47) (.c (.d true (.int .i64 1))), some (40, true)⟩,
⟨.ix 49 (.t 46) (.t 48) 1, some (40, true)⟩,
⟨.load 50 (.t 49) 0, some (40, true)⟩,
⟨.bin 51 .quo (.t 50) (.c (.d true (.int .i64 2))), some (40, true)⟩,
⟨.bin 52 .eql (.t 45) (.t 51), some (40, true)⟩,
⟨.pick 53 (.t 40) (.t 52) (.c (.d true (.bool false))), none⟩] [])
(.cond (.t 53) (.seq (.rg 16 false [] [⟨.mv 4 (.c (.nil 1)), none⟩,
⟨.mv 5 (.c (.d true (.bool true))), none⟩,
⟨.mv 6 (.c (.d true (.int .i64 0))), none⟩] [])
.ret) .skip))))
(.rg 17 false [] [⟨.bin 54 .add (.t 35) (.c (.d true (.int .i64 1))), none⟩,
⟨.mv 35 (.t 54), none⟩] []))))
def c_clause_Make : C :=
(.seq (.rg 0 false [] [⟨.mv 4 (.c (.nil 1)), none⟩,
⟨.mv 5 (.c (.d true (.bool false))), none⟩,
⟨.mv 6 (.c (.d true (.int .i64 0))), none⟩] [])
(.seq (.seq (.rg 1 false [] [⟨.mv 10 (.t 0), none⟩,
⟨.bin 11 .lss (.t 10) (.c (.d true (.int .i64 0))), none⟩,
⟨.mv 12 (.t 11), none⟩,
⟨.mv 13 (.t 0), some (12, false)⟩,
⟨.bin 14 .gtr (.t 13) (.c (.d true (.int .i64 4000))), some (12, false)⟩,
⟨.pick 15 (.t 12) (.c (.d true (.bool true))) (.t 14), none⟩] [])
(.cond (.t 15) (.seq (.rg 2 false [] [⟨.mv 4 (.c (.nil 1)), none⟩,
⟨.mv 5 (.c (.d true (.bool false))), none⟩,
⟨.mv 6 (.c (.d true (.int .i64 2))), none⟩] [])
.ret) .skip))
(.seq (.seq (.rg 3 false [] [⟨.mv 16 (.t 1), none⟩,
⟨.len 17 (.t 16), none⟩,
⟨.mv 18 (.c (.d true (.int .i64 0))), none⟩] [])
(.block 0 (.loop c_clause_Make_l1)))
(.seq (.rg 9 false [] [⟨.mv 27 (.t 1), none⟩,
⟨.call 28 k_slices_Clone_of_int [(.t 27)] (some 20), none⟩,
⟨.mv 4 (.t 28), none⟩] [])
(.seq (.rg 10 false [] [⟨.mv 29 (.t 4), none⟩,
⟨.call 30 k_slices_Sort_of_int [(.t 29)] none, none⟩] [])
(.seq (.rg 11 false [] [⟨.mv 31 (.t 4), none⟩,
⟨.call 32 k_slices_Compact_of_int [(.t 31)] none, none⟩,
⟨.mv 4 (.t 32), none⟩] [])
(.seq (.seq (.rg 12 false [] [⟨.mv 33 (.t 4), none⟩,
⟨.len 34 (.t 33), none⟩,
⟨.mv 35 (.c (.d true (.int .i64 0))), none⟩] [])
(.block 2 (.loop c_clause_Make_l2)))
(.seq (.rg 18 false [] [⟨.mv 55 (.t 4), none⟩,
⟨.mv 4 (.t 55), none⟩,
⟨.mv 5 (.c (.d true (.bool false))), none⟩,
⟨.mv 6 (.c (.d true (.int .i64 0))), none⟩] [])
.ret))))))))
def n_clause_Make : Fn := ⟨c_clause_Make, [.s 4, .s 5, .s 6], (some [false, false])⟩

def c_slices_siftDownOrdered_of_int_l1 : C :=
(.block 1 (.seq (.rg 1 false [] [⟨.mv 11 (.t 8), none⟩,
⟨.bin 12 .mul (.c (.d true (.int .i64 2))) (.t 11), none⟩,
⟨.bin 13 .add (.t 12) (.c (.d true (.int .i64 1))), none⟩,
⟨.mv 9 (.t 13), none⟩] [])
(.seq (.seq (.rg 2 false [] [⟨.mv 14 (.t 9), none⟩,
⟨.mv 15 (.t 2), none⟩,
⟨.bin 16 .geq (.t 14) (.t 15), none⟩] [])
(.cond (.t 16) (.exit 0) .skip))
(.seq (.seq (.rg 3 true [] [⟨.mv 17 (.t 9), none⟩,
⟨.bin 18 .add (.t 17) (.c (.d true (.int .i64 1))), none⟩,
⟨.mv 19 (.t 2), none⟩,
⟨.bin 20 .lss (.t 18) (.t 19), none⟩,
⟨.mv 21 (.t 20), none⟩,
⟨.mv 22 (.t 0), some (21, true)⟩,
⟨.mv 23 (.t 3), some (21, true)⟩,
⟨.mv 24 (.t 9), some (21, true)⟩,
⟨.bin 25 .add (.t 23) (.t 24), some (21, true)⟩,
⟨.ix 26 (.t 22) (.t 25) 1, some (21, true)⟩,
⟨.load 27 (.t 26) 0, some (21, true)⟩,
⟨.mv 28 (.t 0), some (21, true)⟩,
⟨.mv 29 (.t 3), some (21, true)⟩,
⟨.mv 30 (.t 9), some (21, true)⟩,
⟨.bin 31 .add (.t 29) (.t 30), some (21, true)⟩,
⟨.bin 32 .add (.t 31) (.c (.d true (.int .i64 1))), some (21, true)⟩,
⟨.ix 33 (.t 28) (.t 32) 1, some (21, true)⟩,
⟨.load 34 (.t 33) 0, some (21, true)⟩,
⟨.call 35 k_cmp_Less_of_int [(.t 27), (.t 34)] none, some (21, true)⟩,
⟨.pick 36 (.t 21) (.t 35) (.c (.d true (.bool false))), none⟩] [])
(.cond (.t 36) (.rg 4 false [] [⟨.mv 37 (.t 9), none⟩,
⟨.bin 38 .add (.t 37) (.c (.d true (.int .i64 1))), none⟩,
⟨.mv 9 (.t 38), none⟩] []) .skip))
(.seq (.seq (.rg 5 true [] [⟨.mv 39 (.t 0), none⟩,
⟨.mv 40 (.t 3), none⟩,
⟨.mv 41 (.t 8), none⟩,
⟨.bin 42 .add (.t 40) (.t 41), none⟩,
⟨.ix 43 (.t 39) (.t 42) 1, none⟩,
⟨.load 44 (.t 43) 0, none⟩,
⟨.mv 45 (.t 0), none⟩,
⟨.mv 46 (.t 3), none⟩,
⟨.mv 47 (.t 9), none⟩,
⟨.bin 48 .add (.t 46) (.t 47), none⟩,
⟨.ix 49 (.t 45) (.t 48) 1, none⟩,
⟨.load 50 (.t 49) 0, none⟩,
⟨.call 51 k_cmp_Less_of_int [(.t 44), (.t 50)] none, none⟩,
⟨.un 52 .not (.t 51), none⟩] [])
(.cond (.t 52) .ret .skip))
(.seq (.rg 6 true [] [⟨.mv 53 (.t 0), none⟩,
⟨.mv 54 (.t 3), none⟩,
⟨.mv 55 (.t 8), none⟩,
⟨.bin 56 .add (.t 54) (.t 55), none⟩,
⟨.mv 57 (.t 0), none⟩,
⟨.mv 58 (.t 3), none⟩,
⟨.mv 59 (.t 9), none⟩,
⟨.bin 60 .add (.t 58) (.t 59), none⟩,
⟨.mv 61 (.t 0), none⟩,
⟨.mv 62 (.t 3), none⟩,
⟨.mv 63 (.t 9), none⟩,
⟨.bin 64 .add (.t 62) (.t 63), none⟩,
⟨.ix 65 (.t 61) (.t 64) 1, none⟩,
⟨.load 66 (.t 65) 0, none⟩,
⟨.mv 67 (.t 0), none⟩,
⟨.mv 68 (.t 3), none⟩,
⟨.mv 69 (.t 8), none⟩,
⟨.bin 70 .add (.t 68) (.t 69), none⟩,
⟨.ix 71 (.t 67) (.t 70) 1, none⟩,
⟨.load 72 (.t 71) 0, none⟩,
⟨.ix 73 (.t 53) (.t 56) 1, none⟩,
⟨.store (.t 73) (.t 66) 0, none⟩,
⟨.ix 74 (.t 57) (.t 60) 1, none⟩,
⟨.store (.t 74) (.t 72) 0, none⟩] [])
(.rg 7 false [] [⟨.mv 75 (.t 9), none⟩,
⟨.mv 8 (.t 75), none⟩] [])))))))
def c_slices_siftDownOrdered_of_int : C :=
(.seq (.rg 0 false [] [⟨.mv 10 (.t 1), none⟩,
⟨.mv 8 (.t 10), none⟩] [])
(.block 0 (.loop c_slices_siftDownOrdered_of_int_l1)))
def n_slices_siftDownOrdered_of_int : Fn := ⟨c_slices_siftDownOrdered_of_int, [], none⟩

def c_slices_nextPowerOfTwo : C :=
(.seq (.rg 0 false [] [⟨.mv 2 (.c (.d true (.int .u64 0))), none⟩] [])
(.seq (.rg 1 false [] [⟨.mv 3 (.t 0), none⟩,
⟨.cvt 4 .u64 (.t 3), none⟩,
⟨.call 5 k_bits_Len [(.t 4)] none, none⟩,
⟨.bin 6 .shl (.c (.d true (.int .u64 1))) (.t 5), none⟩,
⟨.mv 2 (.t 6), none⟩] [])
.ret))
def n_slices_nextPowerOfTwo : Fn := ⟨c_slices_nextPowerOfTwo, [.s 2], (some [false])⟩

def c_slices_xorshift_Next : C :=
(.seq (.rg 0 false [] [⟨.mv 2 (.c (.d true (.int .u64 0))), none⟩] [])
(.seq (.rg 1 true [] [⟨.mv 3 (.t 0), none⟩,
⟨.chk 4 (.t 3), none⟩,
⟨.load 5 (.t 4) 0, none⟩,
⟨.mv 6 (.t 0), none⟩,
⟨.chk 7 (.t 6), none⟩,
⟨.load 8 (.t 7) 0, none⟩,
⟨.bin 9 .shl (.t 8) (.c (.d true (.int .u64 13))), none⟩,
⟨.bin 10 .xor (.t 5) (.t 9), none⟩,
⟨.chk 11 (.t 3), none⟩,
⟨.store (.t 11) (.t 10) 0, none⟩] [])
(.seq (.rg 2 true [] [⟨.mv 12 (.t 0), none⟩,
⟨.chk 13 (.t 12), none⟩,
⟨.load 14 (.t 13) 0, none⟩,
⟨.mv 15 (.t 0), none⟩,
⟨.chk 16 (.t 15), none⟩,
⟨.load 17 (.t 16) 0, none⟩,
⟨.bin 18 .shr (.t 17) (.c (.d true (.int .u64 7))), none⟩,
⟨.bin 19 .xor (.t 14) (.t 18), none⟩,
⟨.chk 20 (.t 12), none⟩,
⟨.store (.t 20) (.t 19) 0, none⟩] [])
(.seq (.rg 3 true [] [⟨.mv 21 (.t 0), none⟩,
⟨.chk 22 (.t 21), none⟩,
⟨.load 23 (.t 22) 0, none⟩,
⟨.mv 24 (.t 0), none⟩,
⟨.chk 25 (.t 24), none⟩,
⟨.load 26 (.t 25) 0, none⟩,
⟨.bin 27 .shl (.t 26) (.c (.d true (.int .u64 17))), none⟩,
⟨.bin 28 .xor (.t 23) (.t 27), none⟩,
⟨.chk 29 (.t 21), none⟩,
⟨.store (.t 29) (.t 28) 0, none⟩] [])
(.seq (.rg 4 false [] [⟨.mv 30 (.t 0), none⟩,
⟨.chk 31 (.t 30), none⟩,
⟨.load 32 (.t 31) 0, none⟩,
⟨.mv 2 (.t 32), none⟩] [])
.ret)))))
def n_slices_xorshift_Next : Fn := ⟨c_slices_xorshift_Next, [.s 2], none⟩

def c_slices_medianAdjacentOrdered_of_int : C :=
(.seq (.rg 0 false [] [⟨.mv 6 (.c (.d true (.int .i64 0))), none⟩] [])
(.seq (.rg 1 false [] [⟨.mv 7 (.t 0), none⟩,
⟨.mv 8 (.t 1), none⟩,
⟨.bin 9 .sub (.t 8) (.c (.d true (.int .i64 1))), none⟩,
⟨.mv 10 (.t 1), none⟩,
⟨.mv 11 (.t 1), none⟩,
⟨.bin 12 .add (.t 11) (.c (.d true (.int .i64 1))), none⟩,
⟨.mv 13 (.t 2), none⟩,
⟨.call 14 k_slices_medianOrdered_of_int [(.t 7), (.t 9), (.t 10), (.t 12), (.t 13)] none, none⟩,
⟨.mv 6 (.t 14), none⟩] [])
.ret))
def n_slices_medianAdjacentOrdered_of_int : Fn := ⟨c_slices_medianAdjacentOrdered_of_int, [.s 6], none⟩

def c_slices_medianOrdered_of_int : C :=
(.seq (.rg 0 false [] [⟨.mv 10 (.c (.d true (.int .i64 0))), none⟩] [])
(.seq (.rg 1 false [] [⟨.mv 12 (.t 0), none⟩,
⟨.mv 13 (.t 1), none⟩,
⟨.mv 14 (.t 2), none⟩,
⟨.mv 15 (.t 4), none⟩,
⟨.call 16 k_slices_order2Ordered_of_int [(.t 12), (.t 13), (.t 14), (.t 15)] none, none⟩,
⟨.mv 11 (.t 16), none⟩,
⟨.xt 17 (.t 11) 0, none⟩,
⟨.xt 18 (.t 11) 1, none⟩,
⟨.mv 1 (.t 17), none⟩,
⟨.mv 2 (.t 18), none⟩] [])
(.seq (.rg 2 false [] [⟨.mv 20 (.t 0), none⟩,
⟨.mv 21 (.t 2), none⟩,
⟨.mv 22 (.t 3), none⟩,
⟨.mv 23 (.t 4), none⟩,
⟨.call 24 k_slices_order2Ordered_of_int [(.t 20), (.t 21), (.t 22), (.t 23)] none, none⟩,
⟨.mv 19 (.t 24), none⟩,
⟨.xt 25 (.t 19) 0, none⟩,
⟨.xt 26 (.t 19) 1, none⟩,
⟨.mv 2 (.t 25), none⟩,
⟨.mv 3 (.t 26), none⟩] [])
(.seq (.rg 3 false [] [⟨.mv 28 (.t 0), none⟩,
⟨.mv 29 (.t 1), none⟩,
⟨.mv 30 (.t 2), none⟩,
⟨.mv 31 (.t 4), none⟩,
⟨.call 32 k_slices_order2Ordered_of_int [(.t 28), (.t 29), (.t 30), (.t 31)] none, none⟩,
⟨.mv 27 (.t 32), none⟩,
⟨.xt 33 (.t 27) 0, none⟩,
⟨.xt 34 (.t 27) 1, none⟩,
⟨.mv 1 (.t 33), none⟩,
⟨.mv 2 (.t 34), none⟩] [])
(.seq (.rg 4 false [] [⟨.mv 35 (.t 2), none⟩,
⟨.mv 10 (.t 35), none⟩] [])
.ret)))))
def n_slices_medianOrdered_of_int : Fn := ⟨c_slices_medianOrdered_of_int, [.s 10], none⟩

def c_unit_State : C :=
(.seq (.rg 0 false [] [⟨.box 2 0 (.t 0) 4, none⟩,
⟨.mv 4 (.c (.d true (.int .u8 0))), none⟩,
⟨.mv 5 (.c (.d true (.int .i64 0))), none⟩,
⟨.mv 6 (.c (.d true (.int .i64 0))), none⟩] [])
(.seq (.seq (.rg 1 false [] [⟨.load 11 (.t 2) 4, none⟩,
⟨.call 12 k_assign_Check [(.t 11)] none, none⟩,
⟨.mv 7 (.t 12), none⟩] [])
(.seq (.rg 2 false [] [⟨.mv 13 (.t 7), none⟩,
⟨.bin 14 .neq (.t 13) (.c (.d true (.int .i64 0))), none⟩] [])
(.cond (.t 14) (.seq (.rg 3 false [] [⟨.mv 15 (.t 7), none⟩,
⟨.mv 4 (.c (.d true (.int .u8 0))), none⟩,
⟨.mv 5 (.c (.d true (.int .i64 0))), none⟩,
⟨.mv 6 (.t 15), none⟩] [])
.ret) .skip)))
(.seq (.seq (.rg 4 false [] [⟨.fad 16 (.t 2) 0 0, none⟩,
⟨.load 17 (.t 16) 0, none⟩,
⟨.mv 18 (.t 1), none⟩,
⟨.call 19 k_clause_Check [(.t 17), (.t 18)] none, none⟩,
⟨.mv 8 (.t 19), none⟩] [])
(.seq (.rg 5 false [] [⟨.mv 20 (.t 8), none⟩,
⟨.bin 21 .neq (.t 20) (.c (.d true (.int .i64 0))), none⟩] [])
(.cond (.t 21) (.seq (.rg 6 false [] [⟨.mv 22 (.t 8), none⟩,
⟨.mv 4 (.c (.d true (.int .u8 0))), none⟩,
⟨.mv 5 (.c (.d true (.int .i64 0))), none⟩,
⟨.mv 6 (.t 22), none⟩] [])
.ret) .skip)))
(.seq (.rg 7 false [] [⟨.load 24 (.t 2) 4, none⟩,
⟨.call 25 k_unit_values [(.t 24)] none, none⟩,
⟨.mv 26 (.t 1), none⟩,
⟨.call 27 k_unit_state [(.t 25), (.t 26)] none, none⟩,
⟨.mv 23 (.t 27), none⟩,
⟨.xt 28 (.t 23) 0, none⟩,
⟨.xt 29 (.t 23) 1, none⟩,
⟨.mv 9 (.t 28), none⟩,
⟨.mv 10 (.t 29), none⟩] [])
(.seq (.rg 8 false [] [⟨.mv 30 (.t 9), none⟩,
⟨.mv 31 (.t 10), none⟩,
⟨.mv 4 (.t 30), none⟩,
⟨.mv 5 (.t 31), none⟩,
⟨.mv 6 (.c (.d true (.int .i64 0))), none⟩] [])
.ret)))))
def n_unit_State : Fn := ⟨c_unit_State, [.s 4, .s 5, .s 6], (some [false, false])⟩

def c_assign_Level : C :=
(.seq (.rg 0 false [] [⟨.box 2 0 (.t 0) 4, none⟩,
⟨.box 3 1 (.t 1) 0, none⟩,
⟨.mv 4 (.c (.d true (.int .i64 0))), none⟩,
⟨.mv 5 (.c (.d true (.int .i64 0))), none⟩] [])
(.seq (.seq (.rg 1 false [] [⟨.load 10 (.t 2) 4, none⟩,
⟨.load 11 (.t 3) 0, none⟩,
⟨.call 12 k_assign_open [(.t 10), (.t 11)] none, none⟩,
⟨.mv 6 (.t 12), none⟩] [])
(.seq (.rg 2 false [] [⟨.mv 13 (.t 6), none⟩,
⟨.bin 14 .neq (.t 13) (.c (.d true (.int .i64 0))), none⟩] [])
(.cond (.t 14) (.seq (.rg 3 false [] [⟨.mv 15 (.t 6), none⟩,
⟨.mv 4 (.c (.d true (.int .i64 0))), none⟩,
⟨.mv 5 (.t 15), none⟩] [])
.ret) .skip)))
(.seq (.rg 4 false [] [⟨.fad 16 (.t 2) 1 0, none⟩,
⟨.load 17 (.t 16) 0, none⟩,
⟨.fn 18 k_assign_Level_1 [(.t 3)], none⟩,
⟨.call 19 k_slices_IndexFunc_of_int [(.t 17), (.t 18)] none, none⟩,
⟨.mv 7 (.t 19), none⟩] [])
(.seq (.seq (.rg 5 false [] [⟨.mv 20 (.t 7), none⟩,
⟨.bin 21 .lss (.t 20) (.c (.d true (.int .i64 0))), none⟩] [])
(.cond (.t 21) (.seq (.rg 6 false [] [⟨.mv 4 (.c (.d true (.int .i64 0))), none⟩,
⟨.mv 5 (.c (.d true (.int .i64 6))), none⟩] [])
.ret) .skip))
(.seq (.rg 7 false [] [⟨.fad 23 (.t 2) 2 0, none⟩,
⟨.load 24 (.t 23) 0, none⟩,
⟨.mv 25 (.t 7), none⟩,
⟨.call 26 k_slices_BinarySearch_of_int [(.t 24), (.t 25)] none, none⟩,
⟨.mv 22 (.t 26), none⟩,
⟨.xt 27 (.t 22) 0, none⟩,
⟨.xt 28 (.t 22) 1, none⟩,
⟨.mv 8 (.t 27), none⟩,
⟨.mv 9 (.t 28), none⟩] [])
(.seq (.seq (.rg 8 false [] [⟨.mv 29 (.t 9), none⟩] [])
(.cond (.t 29) (.rg 9 false [] [⟨.mv 30 (.t 8), none⟩,
⟨.bin 31 .add (.t 30) (.c (.d true (.int .i64 1))), none⟩,
⟨.mv 8 (.t 31), none⟩] []) .skip))
(.seq (.rg 10 false [] [⟨.mv 32 (.t 8), none⟩,
⟨.mv 4 (.t 32), none⟩,
⟨.mv 5 (.c (.d true (.int .i64 0))), none⟩] [])
.ret)))))))
def n_assign_Level : Fn := ⟨c_assign_Level, [.s 4, .s 5], (some [false, false])⟩

def c_jump_levels_1 : C :=
(.seq (.rg 0 false [] [⟨.box 2 0 (.t 0) 3, none⟩,
⟨.box 3 1 (.t 1) 3, none⟩,
⟨.mv 4 (.c (.d true (.int .i64 0))), none⟩] [])
(.seq (.rg 1 false [] [⟨.fad 5 (.t 3) 1 0, none⟩,
⟨.load 6 (.t 5) 0, none⟩,
⟨.fad 7 (.t 2) 1 0, none⟩,
⟨.load 8 (.t 7) 0, none⟩,
⟨.call 9 k_cmp_Compare_of_int [(.t 6), (.t 8)] none, none⟩,
⟨.mv 4 (.t 9), none⟩] [])
.ret))
def n_jump_levels_1 : Fn := ⟨c_jump_levels_1, [.s 4], none⟩

def c_cmp_Compare_of_int : C :=
(.seq (.rg 0 false [] [⟨.mv 4 (.c (.d true (.int .i64 0))), none⟩] [])
(.seq (.rg 1 false [] [⟨.mv 7 (.t 0), none⟩,
⟨.call 8 k_cmp_isNaN_of_int [(.t 7)] none, none⟩,
⟨.mv 5 (.t 8), none⟩] [])
(.seq (.rg 2 false [] [⟨.mv 9 (.t 1), none⟩,
⟨.call 10 k_cmp_isNaN_of_int [(.t 9)] none, none⟩,
⟨.mv 6 (.t 10), none⟩] [])
(.seq (.seq (.rg 3 false [] [⟨.mv 11 (.t 5), none⟩] [])
(.cond (.t 11) (.seq (.seq (.rg 4 false [] [⟨.mv 12 (.t 6), none⟩] [])
(.cond (.t 12) (.seq (.rg 5 false [] [⟨.mv 4 (.c (.d true (.int .i64 0))), none⟩] [])
.ret) .skip))
(.seq (.rg 6 false [] [⟨.mv 4 (.c (.d true (.int .i64 (-1)))), none⟩] [])
.ret)) .skip))
(.seq (.seq (.rg 7 false [] [⟨.mv 13 (.t 6), none⟩] [])
(.cond (.t 13) (.seq (.rg 8 false [] [⟨.mv 4 (.c (.d true (.int .i64 1))), none⟩] [])
.ret) .skip))
(.seq (.seq (.rg 9 false [] [⟨.mv 14 (.t 0), none⟩,
⟨.mv 15 (.t 1), none⟩,
⟨.bin 16 .lss (.t 14) (.t 15), none⟩] [])
(.cond (.t 16) (.seq (.rg 10 false [] [⟨.mv 4 (.c (.d true (.int .i64 (-1)))), none⟩] [])
.ret) .skip))
(.seq (.seq (.rg 11 false [] [⟨.mv 17 (.t 0), none⟩,
⟨.mv 18 (.t 1), none⟩,
⟨.bin 19 .gtr (.t 17) (.t 18), none⟩] [])
(.cond (.t 19) (.seq (.rg 12 false [] [⟨.mv 4 (.c (.d true (.int .i64 1))), none⟩] [])
.ret) .skip))
(.seq (.rg 13 false [] [⟨.mv 4 (.c (.d true (.int .i64 0))), none⟩] [])
.ret))))))))
def n_cmp_Compare_of_int : Fn := ⟨c_cmp_Compare_of_int, [.s 4], (some [false, false])⟩

def c_slices_SortFunc_of_jump_at : C :=
(.seq (.rg 0 false [] [⟨.mv 5 (.t 0), none⟩,
⟨.len 6 (.t 5), none⟩,
⟨.mv 4 (.t 6), none⟩] [])
(.rg 1 false [] [⟨.mv 7 (.t 0), none⟩,
⟨.mv 8 (.t 4), none⟩,
⟨.mv 9 (.t 4), none⟩,
⟨.cvt 10 .u64 (.t 9), none⟩,
⟨.call 11 k_bits_Len [(.t 10)] none, none⟩,
⟨.mv 12 (.t 1), none⟩,
⟨.call 13 k_slices_pdqsortCmpFunc_of_jump_at [(.t 7), (.c (.d true (.int .i64 0))), (.t 8), (.t 11), (.t 12)] none, none⟩] []))
def n_slices_SortFunc_of_jump_at : Fn := ⟨c_slices_SortFunc_of_jump_at, [], none⟩

def c_assign_put : C :=
(.seq (.rg 0 false [] [⟨.box 2 0 (.t 0) 4, none⟩,
⟨.alloc 4 1 [.k (.int .i64 0), .r 2 1, .r 3 1], none⟩,
⟨.mv 5 (.c (.d true (.int .i64 0))), none⟩] [])
(.seq (.seq (.rg 1 false [] [⟨.load 9 (.t 2) 4, none⟩,
⟨.mv 10 (.t 1), none⟩,
⟨.call 11 k_assign_open [(.t 9), (.t 10)] none, none⟩,
⟨.mv 6 (.t 11), none⟩] [])
(.seq (.rg 2 false [] [⟨.mv 12 (.t 6), none⟩,
⟨.bin 13 .neq (.t 12) (.c (.d true (.int .i64 0))), none⟩] [])
(.cond (.t 13) (.seq (.rg 3 false [] [⟨.bld 14 [.k (.int .i64 0), .n 1, .n 1] [], none⟩,
⟨.mv 15 (.t 6), none⟩,
⟨.store (.t 4) (.t 14) 4, none⟩,
⟨.mv 5 (.t 15), none⟩] [])
.ret) .skip)))
(.seq (.seq (.rg 4 false [] [⟨.fad 16 (.t 2) 1 0, none⟩,
⟨.load 17 (.t 16) 0, none⟩,
⟨.mv 18 (.t 1), none⟩,
⟨.call 19 k_slices_Contains_of_int [(.t 17), (.t 18)] none, none⟩,
⟨.mv 20 (.t 19), none⟩,
⟨.fad 21 (.t 2) 1 0, some (20, false)⟩,
⟨.load 22 (.t 21) 0, some (20, false)⟩,
⟨.mv 23 (.t 1), some (20, false)⟩,
⟨.bin 24 .xor (.t 23) (.c (.d true (.int .i64 1))), some (20, false)⟩,
⟨.call 25 k_slices_Contains_of_int [(.t 22), (.t 24)] none, some (20, false)⟩,
⟨.pick 26 (.t 20) (.c (.d true (.bool true))) (.t 25), none⟩] [])
(.cond (.t 26) (.seq (.rg 5 false [] [⟨.bld 27 [.k (.int .i64 0), .n 1, .n 1] [], none⟩,
⟨.store (.t 4) (.t 27) 4, none⟩,
⟨.mv 5 (.c (.d true (.int .i64 18))), none⟩] [])
.ret) .skip))
(.seq (.rg 6 true [] [⟨.fad 28 (.t 2) 1 0, none⟩,
⟨.load 29 (.t 28) 0, none⟩,
⟨.len 30 (.t 29), none⟩,
⟨.fad 31 (.t 2) 2 0, none⟩,
⟨.load 32 (.t 31) 0, none⟩,
⟨.len 33 (.t 32), none⟩,
⟨.mv 7 (.t 30), none⟩,
⟨.mv 8 (.t 33), none⟩] [])
(.seq (.rg 7 true [] [⟨.fad 34 (.t 2) 0 0, none⟩,
⟨.load 35 (.t 34) 0, none⟩,
⟨.fad 36 (.t 2) 1 0, none⟩,
⟨.load 37 (.t 36) 0, none⟩,
⟨.mv 38 (.t 7), none⟩,
⟨.mv 39 (.t 7), none⟩,
⟨.slc 40 1 (.t 37) none (some (.t 38)) (some (.t 39)), none⟩,
⟨.mv 41 (.t 1), none⟩,
⟨.bsl 42 4 1 1 (.k (.int .i64 0)) [(0, (.t 41))], none⟩,
⟨.app 43 5 1 (.t 40) (.t 42), none⟩,
⟨.bsl 44 6 1 0 (.k (.int .i64 0)) [], none⟩,
⟨.fad 45 (.t 2) 2 0, none⟩,
⟨.load 46 (.t 45) 0, none⟩,
⟨.mv 47 (.t 8), none⟩,
⟨.mv 48 (.t 8), none⟩,
⟨.slc 49 1 (.t 46) none (some (.t 47)) (some (.t 48)), none⟩,
⟨.app 50 7 1 (.t 44) (.t 49), none⟩,
⟨.bld 51 [.k (.int .i64 0), .n 1, .n 1] [(0, 0, (.t 35)), (1, 0, (.t 43)), (2, 0, (.t 50))], none⟩,
⟨.store (.t 4) (.t 51) 4, none⟩,
⟨.mv 5 (.c (.d true (.int .i64 0))), none⟩] [])
.ret)))))
def n_assign_put : Fn := ⟨c_assign_put, [.c 4 4, .s 5], (some [false, false])⟩

def c_slices_order2Ordered_of_int : C :=
(.seq (.rg 0 false [] [⟨.mv 8 (.c (.d true (.int .i64 0))), none⟩,
⟨.mv 9 (.c (.d true (.int .i64 0))), none⟩] [])
(.seq (.seq (.rg 1 true [] [⟨.mv 10 (.t 0), none⟩,
⟨.mv 11 (.t 2), none⟩,
⟨.ix 12 (.t 10) (.t 11) 1, none⟩,
⟨.load 13 (.t 12) 0, none⟩,
⟨.mv 14 (.t 0), none⟩,
⟨.mv 15 (.t 1), none⟩,
⟨.ix 16 (.t 14) (.t 15) 1, none⟩,
⟨.load 17 (.t 16) 0, none⟩,
⟨.call 18 k_cmp_Less_of_int [(.t 13), (.t 17)] none, none⟩] [])
(.cond (.t 18) (.seq (.rg 2 false [] [⟨.mv 19 (.t 3), none⟩,
⟨.chk 20 (.t 19), none⟩,
⟨.load 21 (.t 20) 0, none⟩,
⟨.bin 22 .add (.t 21) (.c (.d true (.int .i64 1))), none⟩,
⟨.chk 23 (.t 19), none⟩,
⟨.store (.t 23) (.t 22) 0, none⟩] [])
(.seq (.rg 3 false [] [⟨.mv 24 (.t 2), none⟩,
⟨.mv 25 (.t 1), none⟩,
⟨.mv 8 (.t 24), none⟩,
⟨.mv 9 (.t 25), none⟩] [])
.ret)) .skip))
(.seq (.rg 4 false [] [⟨.mv 26 (.t 1), none⟩,
⟨.mv 27 (.t 2), none⟩,
⟨.mv 8 (.t 26), none⟩,
⟨.mv 9 (.t 27), none⟩] [])
.ret)))
def n_slices_order2Ordered_of_int : Fn := ⟨c_slices_order2Ordered_of_int, [.s 8, .s 9], none⟩

def c_assign_open : C :=
(.seq (.rg 0 false [] [⟨.box 2 0 (.t 0) 4, none⟩,
⟨.mv 4 (.c (.d true (.int .i64 0))), none⟩] [])
(.seq (.seq (.rg 1 false [] [⟨.load 6 (.t 2) 4, none⟩,
⟨.call 7 k_assign_Check [(.t 6)] none, none⟩,
⟨.mv 5 (.t 7), none⟩] [])
(.seq (.rg 2 false [] [⟨.mv 8 (.t 5), none⟩,
⟨.bin 9 .neq (.t 8) (.c (.d true (.int .i64 0))), none⟩] [])
(.cond (.t 9) (.seq (.rg 3 false [] [⟨.mv 10 (.t 5), none⟩,
⟨.mv 4 (.t 10), none⟩] [])
.ret) .skip)))
(.seq (.seq (.rg 4 false [] [⟨.fad 11 (.t 2) 0 0, none⟩,
⟨.load 12 (.t 11) 0, none⟩,
⟨.mv 13 (.t 1), none⟩,
⟨.call 14 k_assign_known [(.t 12), (.t 13)] none, none⟩,
⟨.un 15 .not (.t 14), none⟩] [])
(.cond (.t 15) (.seq (.rg 5 false [] [⟨.mv 4 (.c (.d true (.int .i64 2))), none⟩] [])
.ret) .skip))
(.seq (.rg 6 false [] [⟨.mv 4 (.c (.d true (.int .i64 0))), none⟩] [])
.ret))))
def n_assign_open : Fn := ⟨c_assign_open, [.s 4], (some [false, false])⟩

def c_assign_Level_1 : C :=
(.seq (.rg 0 false [] [⟨.mv 3 (.c (.d true (.bool false))), none⟩] [])
(.seq (.rg 1 false [] [⟨.mv 4 (.t 0), none⟩,
⟨.bin 5 .quo (.t 4) (.c (.d true (.int .i64 2))), none⟩,
⟨.load 6 (.t 1) 0, none⟩,
⟨.bin 7 .quo (.t 6) (.c (.d true (.int .i64 2))), none⟩,
⟨.bin 8 .eql (.t 5) (.t 7), none⟩,
⟨.mv 3 (.t 8), none⟩] [])
.ret))
def n_assign_Level_1 : Fn := ⟨c_assign_Level_1, [.s 3], none⟩

def c_slices_pdqsortCmpFunc_of_jump_at_l1 : C :=
(.block 1 (.seq (.rg 2 false [] [⟨.mv 21 (.t 2), none⟩,
⟨.mv 22 (.t 1), none⟩,
⟨.bin 23 .sub (.t 21) (.t 22), none⟩,
⟨.mv 12 (.t 23), none⟩] [])
(.seq (.seq (.rg 3 false [] [⟨.mv 24 (.t 12), none⟩,
⟨.bin 25 .leq (.t 24) (.c (.d true (.int .i64 12))), none⟩] [])
(.cond (.t 25) (.seq (.rg 4 false [] [⟨.mv 26 (.t 0), none⟩,
⟨.mv 27 (.t 1), none⟩,
⟨.mv 28 (.t 2), none⟩,
⟨.mv 29 (.t 4), none⟩,
⟨.call 30 k_slices_insertionSortCmpFunc_of_jump_at [(.t 26), (.t 27), (.t 28), (.t 29)] none, none⟩] [])
.ret) .skip))
(.seq (.seq (.rg 5 false [] [⟨.mv 31 (.t 3), none⟩,
⟨.bin 32 .eql (.t 31) (.c (.d true (.int .i64 0))), none⟩] [])
(.cond (.t 32) (.seq (.rg 6 false [] [⟨.mv 33 (.t 0), none⟩,
⟨.mv 34 (.t 1), none⟩,
⟨.mv 35 (.t 2), none⟩,
⟨.mv 36 (.t 4), none⟩,
⟨.call 37 k_slices_heapSortCmpFunc_of_jump_at [(.t 33), (.t 34), (.t 35), (.t 36)] none, none⟩] [])
.ret) .skip))
(.seq (.seq (.rg 7 false [] [⟨.mv 38 (.t 10), none⟩,
⟨.un 39 .not (.t 38), none⟩] [])
(.cond (.t 39) (.seq (.rg 8 false [] [⟨.mv 40 (.t 0), none⟩,
⟨.mv 41 (.t 1), none⟩,
⟨.mv 42 (.t 2), none⟩,
⟨.mv 43 (.t 4), none⟩,
⟨.call 44 k_slices_breakPatternsCmpFunc_of_jump_at [(.t 40), (.t 41), (.t 42), (.t 43)] none, none⟩] [])
(.rg 9 false [] [⟨.mv 45 (.t 3), none⟩,
⟨.bin 46 .sub (.t 45) (.c (.d true (.int .i64 1))), none⟩,
⟨.mv 3 (.t 46), none⟩] [])) .skip))
(.seq (.rg 10 false [] [⟨.mv 48 (.t 0), none⟩,
⟨.mv 49 (.t 1), none⟩,
⟨.mv 50 (.t 2), none⟩,
⟨.mv 51 (.t 4), none⟩,
⟨.call 52 k_slices_choosePivotCmpFunc_of_jump_at [(.t 48), (.t 49), (.t 50), (.t 51)] none, none⟩,
⟨.mv 47 (.t 52), none⟩,
⟨.xt 53 (.t 47) 0, none⟩,
⟨.xt 54 (.t 47) 1, none⟩,
⟨.mv 13 (.t 53), none⟩,
⟨.mv 14 (.t 54), none⟩] [])
(.seq (.seq (.rg 11 false [] [⟨.mv 55 (.t 14), none⟩,
⟨.bin 56 .eql (.t 55) (.c (.d true (.int .i64 2))), none⟩] [])
(.cond (.t 56) (.seq (.rg 12 false [] [⟨.mv 57 (.t 0), none⟩,
⟨.mv 58 (.t 1), none⟩,
⟨.mv 59 (.t 2), none⟩,
⟨.mv 60 (.t 4), none⟩,
⟨.call 61 k_slices_reverseRangeCmpFunc_of_jump_at [(.t 57), (.t 58), (.t 59), (.t 60)] none, none⟩] [])
(.seq (.rg 13 false [] [⟨.mv 62 (.t 2), none⟩,
⟨.bin 63 .sub (.t 62) (.c (.d true (.int .i64 1))), none⟩,
⟨.mv 64 (.t 13), none⟩,
⟨.mv 65 (.t 1), none⟩,
⟨.bin 66 .sub (.t 64) (.t 65), none⟩,
⟨.bin 67 .sub (.t 63) (.t 66), none⟩,
⟨.mv 13 (.t 67), none⟩] [])
(.rg 14 false [] [⟨.mv 14 (.c (.d true (.int .i64 1))), none⟩] []))) .skip))
(.seq (.seq (.rg 15 false [] [⟨.mv 68 (.t 10), none⟩,
⟨.mv 69 (.t 68), none⟩,
⟨.mv 70 (.t 11), some (69, true)⟩,
⟨.pick 71 (.t 69) (.t 70) (.c (.d true (.bool false))), none⟩,
⟨.mv 72 (.t 71), none⟩,
⟨.mv 73 (.t 14), some (72, true)⟩,
⟨.bin 74 .eql (.t 73) (.c (.d true (.int .i64 1))), some (72, true)⟩,
⟨.pick 75 (.t 72) (.t 74) (.c (.d true (.bool false))), none⟩] [])
(.cond (.t 75) (.seq (.rg 16 false [] [⟨.mv 76 (.t 0), none⟩,
⟨.mv 77 (.t 1), none⟩,
⟨.mv 78 (.t 2), none⟩,
⟨.mv 79 (.t 4), none⟩,
⟨.call 80 k_slices_partialInsertionSortCmpFunc_of_jump_at [(.t 76), (.t 77), (.t 78), (.t 79)] none, none⟩] [])
(.cond (.t 80) .ret .skip)) .skip))
(.seq (.seq (.rg 17 true [] [⟨.mv 81 (.t 1), none⟩,
⟨.bin 82 .gtr (.t 81) (.c (.d true (.int .i64 0))), none⟩,
⟨.mv 83 (.t 82), none⟩,
⟨.mv 84 (.t 4), some (83, true)⟩,
⟨.mv 85 (.t 0), some (83, true)⟩,
⟨.mv 86 (.t 1), some (83, true)⟩,
⟨.bin 87 .sub (.t 86) (.c (.d true (.int .i64 1))), some (83, true)⟩,
⟨.ix 88 (.t 85) (.t 87) 2, some (83, true)⟩,
⟨.load 89 (.t 88) 3, some (83, true)⟩,
⟨.mv 90 (.t 0), some (83, true)⟩,
⟨.mv 91 (.t 13), some (83, true)⟩,
⟨.ix 92 (.t 90) (.t 91) 2, some (83, true)⟩,
⟨.load 93 (.t 92) 3, some (83, true)⟩,
⟨.callv 94 (.t 84) [(.t 89), (.t 93)] none, some (83, true)⟩,
⟨.bin 95 .lss (.t 94) (.c (.d true (.int .i64 0))), some (83, true)⟩,
⟨.un 96 .not (.t 95), some (83, true)⟩,
⟨.pick 97 (.t 83) (.t 96) (.c (.d true (.bool false))), none⟩] [])
(.cond (.t 97) (.seq (.rg 18 false [] [⟨.mv 98 (.t 0), none⟩,
⟨.mv 99 (.t 1), none⟩,
⟨.mv 100 (.t 2), none⟩,
⟨.mv 101 (.t 13), none⟩,
⟨.mv 102 (.t 4), none⟩,
⟨.call 103 k_slices_partitionEqualCmpFunc_of_jump_at [(.t 98), (.t 99), (.t 100), (.t 101), (.t 102)] none, none⟩,
⟨.mv 15 (.t 103), none⟩] [])
(.seq (.rg 19 false [] [⟨.mv 104 (.t 15), none⟩,
⟨.mv 1 (.t 104), none⟩] [])
(.exit 1))) .skip))
(.seq (.rg 20 false [] [⟨.mv 106 (.t 0), none⟩,
⟨.mv 107 (.t 1), none⟩,
⟨.mv 108 (.t 2), none⟩,
⟨.mv 109 (.t 13), none⟩,
⟨.mv 110 (.t 4), none⟩,
⟨.call 111 k_slices_partitionCmpFunc_of_jump_at [(.t 106), (.t 107), (.t 108), (.t 109), (.t 110)] none, none⟩,
⟨.mv 105 (.t 111), none⟩,
⟨.xt 112 (.t 105) 0, none⟩,
⟨.xt 113 (.t 105) 1, none⟩,
⟨.mv 16 (.t 112), none⟩,
⟨.mv 17 (.t 113), none⟩] [])
(.seq (.rg 21 false [] [⟨.mv 114 (.t 17), none⟩,
⟨.mv 11 (.t 114), none⟩] [])
(.seq (.rg 22 false [] [⟨.mv 115 (.t 16), none⟩,
⟨.mv 116 (.t 1), none⟩,
⟨.bin 117 .sub (.t 115) (.t 116), none⟩,
⟨.mv 118 (.t 2), none⟩,
⟨.mv 119 (.t 16), none⟩,
⟨.bin 120 .sub (.t 118) (.t 119), none⟩,
⟨.mv 18 (.t 117), none⟩,
⟨.mv 19 (.t 120), none⟩] [])
(.seq (.rg 23 false [] [⟨.mv 121 (.t 12), none⟩,
⟨.bin 122 .quo (.t 121) (.c (.d true (.int .i64 8))), none⟩,
⟨.mv 20 (.t 122), none⟩] [])
(.seq (.rg 24 false [] [⟨.mv 123 (.t 18), none⟩,
⟨.mv 124 (.t 19), none⟩,
⟨.bin 125 .lss (.t 123) (.t 124), none⟩] [])
(.cond (.t 125) (.seq (.rg 25 false [] [⟨.mv 126 (.t 18), none⟩,
⟨.mv 127 (.t 20), none⟩,
⟨.bin 128 .geq (.t 126) (.t 127), none⟩,
⟨.mv 10 (.t 128), none⟩] [])
(.seq (.rg 26 false [] [⟨.mv 129 (.t 0), none⟩,
⟨.mv 130 (.t 1), none⟩,
⟨.mv 131 (.t 16), none⟩,
⟨.mv 132 (.t 3), none⟩,
⟨.mv 133 (.t 4), none⟩,
⟨.call 134 k_slices_pdqsortCmpFunc_of_jump_at [(.t 129), (.t 130), (.t 131), (.t 132), (.t 133)] none, none⟩] [])
(.rg 27 false [] [⟨.mv 135 (.t 16), none⟩,
⟨.bin 136 .add (.t 135) (.c (.d true (.int .i64 1))), none⟩,
⟨.mv 1 (.t 136), none⟩] []))) (.seq (.rg 28 false [] [⟨.mv 137 (.t 19), none⟩,
⟨.mv 138 (.t 20), none⟩,
⟨.bin 139 .geq (.t 137) (.t 138), none⟩,
⟨.mv 10 (.t 139), none⟩] [])
(.seq (.rg 29 false [] [⟨.mv 140 (.t 0), none⟩,
⟨.mv 141 (.t 16), none⟩,
⟨.bin 142 .add (.t 141) (.c (.d true (.int .i64 1))), none⟩,
⟨.mv 143 (.t 2), none⟩,
⟨.mv 144 (.t 3), none⟩,
⟨.mv 145 (.t 4), none⟩,
⟨.call 146 k_slices_pdqsortCmpFunc_of_jump_at [(.t 140), (.t 142), (.t 143), (.t 144), (.t 145)] none, none⟩] [])
(.rg 30 false [] [⟨.mv 147 (.t 16), none⟩,
⟨.mv 2 (.t 147), none⟩] []))))))))))))))))))
def c_slices_pdqsortCmpFunc_of_jump_at : C :=
(.seq (.rg 0 false [] [⟨.mv 10 (.c (.d true (.bool true))), none⟩] [])
(.seq (.rg 1 false [] [⟨.mv 11 (.c (.d true (.bool true))), none⟩] [])
(.block 0 (.loop c_slices_pdqsortCmpFunc_of_jump_at_l1))))
def n_slices_pdqsortCmpFunc_of_jump_at : Fn := ⟨c_slices_pdqsortCmpFunc_of_jump_at, [], none⟩

def c_slices_Contains_of_int : C :=
(.seq (.rg 0 false [] [⟨.mv 4 (.c (.d true (.bool false))), none⟩] [])
(.seq (.rg 1 false [] [⟨.mv 5 (.t 0), none⟩,
⟨.mv 6 (.t 1), none⟩,
⟨.call 7 k_slices_Index_of_int [(.t 5), (.t 6)] none, none⟩,
⟨.bin 8 .geq (.t 7) (.c (.d true (.int .i64 0))), none⟩,
⟨.mv 4 (.t 8), none⟩] [])
.ret))
def n_slices_Contains_of_int : Fn := ⟨c_slices_Contains_of_int, [.s 4], (some [false, false])⟩

def c_slices_insertionSortCmpFunc_of_jump_at_l1 : C :=
(.seq (.seq (.rg 4 true [] [⟨.mv 18 (.t 9), none⟩,
⟨.mv 19 (.t 1), none⟩,
⟨.bin 20 .gtr (.t 18) (.t 19), none⟩,
⟨.mv 21 (.t 20), none⟩,
⟨.mv 22 (.t 3), some (21, true)⟩,
⟨.mv 23 (.t 0), some (21, true)⟩,
⟨.mv 24 (.t 9), some (21, true)⟩,
⟨.ix 25 (.t 23) (.t 24) 2, some (21, true)⟩,
⟨.load 26 (.t 25) 3, some (21, true)⟩,
⟨.mv 27 (.t 0), some (21, true)⟩,
⟨.mv 28 (.t 9), some (21, true)⟩,
⟨.bin 29 .sub (.t 28) (.c (.d true (.int .i64 1))), some (21, true)⟩,
⟨.ix 30 (.t 27) (.t 29) 2, some (21, true)⟩,
⟨.load 31 (.t 30) 3, some (21, true)⟩,
⟨.callv 32 (.t 22) [(.t 26), (.t 31)] none, some (21, true)⟩,
⟨.bin 33 .lss (.t 32) (.c (.d true (.int .i64 0))), some (21, true)⟩,
⟨.pick 34 (.t 21) (.t 33) (.c (.d true (.bool false))), none⟩] [])
(.cond (.t 34) .skip (.exit 2)))
(.seq (.block 3 (.rg 6 true [] [⟨.mv 37 (.t 0), none⟩,
⟨.mv 38 (.t 9), none⟩,
⟨.mv 39 (.t 0), none⟩,
⟨.mv 40 (.t 9), none⟩,
⟨.bin 41 .sub (.t 40) (.c (.d true (.int .i64 1))), none⟩,
⟨.mv 42 (.t 0), none⟩,
⟨.mv 43 (.t 9), none⟩,
⟨.bin 44 .sub (.t 43) (.c (.d true (.int .i64 1))), none⟩,
⟨.ix 45 (.t 42) (.t 44) 2, none⟩,
⟨.load 46 (.t 45) 3, none⟩,
⟨.mv 47 (.t 0), none⟩,
⟨.mv 48 (.t 9), none⟩,
⟨.ix 49 (.t 47) (.t 48) 2, none⟩,
⟨.load 50 (.t 49) 3, none⟩,
⟨.ix 51 (.t 37) (.t 38) 2, none⟩,
⟨.store (.t 51) (.t 46) 3, none⟩,
⟨.ix 52 (.t 39) (.t 41) 2, none⟩,
⟨.store (.t 52) (.t 50) 3, none⟩] []))
(.rg 5 false [] [⟨.mv 35 (.t 9), none⟩,
⟨.bin 36 .sub (.t 35) (.c (.d true (.int .i64 1))), none⟩,
⟨.mv 9 (.t 36), none⟩] [])))
def c_slices_insertionSortCmpFunc_of_jump_at_l2 : C :=
(.seq (.seq (.rg 1 false [] [⟨.mv 12 (.t 8), none⟩,
⟨.mv 13 (.t 2), none⟩,
⟨.bin 14 .lss (.t 12) (.t 13), none⟩] [])
(.cond (.t 14) .skip (.exit 0)))
(.seq (.block 1 (.seq (.rg 3 false [] [⟨.mv 17 (.t 8), none⟩,
⟨.mv 9 (.t 17), none⟩] [])
(.block 2 (.loop c_slices_insertionSortCmpFunc_of_jump_at_l1))))
(.rg 2 false [] [⟨.mv 15 (.t 8), none⟩,
⟨.bin 16 .add (.t 15) (.c (.d true (.int .i64 1))), none⟩,
⟨.mv 8 (.t 16), none⟩] [])))
def c_slices_insertionSortCmpFunc_of_jump_at : C :=
(.seq (.rg 0 false [] [⟨.mv 10 (.t 1), none⟩,
⟨.bin 11 .add (.t 10) (.c (.d true (.int .i64 1))), none⟩,
⟨.mv 8 (.t 11), none⟩] [])
(.block 0 (.loop c_slices_insertionSortCmpFunc_of_jump_at_l2)))
def n_slices_insertionSortCmpFunc_of_jump_at : Fn := ⟨c_slices_insertionSortCmpFunc_of_jump_at, [], none⟩

def c_slices_heapSortCmpFunc_of_jump_at_l1 : C :=
(.seq (.seq (.rg 4 false [] [⟨.mv 20 (.t 11), none⟩,
⟨.bin 21 .geq (.t 20) (.c (.d true (.int .i64 0))), none⟩] [])
(.cond (.t 21) .skip (.exit 0)))
(.seq (.block 1 (.rg 6 false [] [⟨.mv 24 (.t 0), none⟩,
⟨.mv 25 (.t 11), none⟩,
⟨.mv 26 (.t 10), none⟩,
⟨.mv 27 (.t 8), none⟩,
⟨.mv 28 (.t 3), none⟩,
⟨.call 29 k_slices_siftDownCmpFunc_of_jump_at [(.t 24), (.t 25), (.t 26), (.t 27), (.t 28)] none, none⟩] []))
(.rg 5 false [] [⟨.mv 22 (.t 11), none⟩,
⟨.bin 23 .sub (.t 22) (.c (.d true (.int .i64 1))), none⟩,
⟨.mv 11 (.t 23), none⟩] [])))
def c_slices_heapSortCmpFunc_of_jump_at_l2 : C :=
(.seq (.seq (.rg 8 false [] [⟨.mv 32 (.t 12), none⟩,
⟨.bin 33 .geq (.t 32) (.c (.d true (.int .i64 0))), none⟩] [])
(.cond (.t 33) .skip (.exit 2)))
(.seq (.block 3 (.seq (.rg 10 true [] [⟨.mv 36 (.t 0), none⟩,
⟨.mv 37 (.t 8), none⟩,
⟨.mv 38 (.t 0), none⟩,
⟨.mv 39 (.t 8), none⟩,
⟨.mv 40 (.t 12), none⟩,
⟨.bin 41 .add (.t 39) (.t 40), none⟩,
⟨.mv 42 (.t 0), none⟩,
⟨.mv 43 (.t 8), none⟩,
⟨.mv 44 (.t 12), none⟩,
⟨.bin 45 .add (.t 43) (.t 44), none⟩,
⟨.ix 46 (.t 42) (.t 45) 2, none⟩,
⟨.load 47 (.t 46) 3, none⟩,
⟨.mv 48 (.t 0), none⟩,
⟨.mv 49 (.t 8), none⟩,
⟨.ix 50 (.t 48) (.t 49) 2, none⟩,
⟨.load 51 (.t 50) 3, none⟩,
⟨.ix 52 (.t 36) (.t 37) 2, none⟩,
⟨.store (.t 52) (.t 47) 3, none⟩,
⟨.ix 53 (.t 38) (.t 41) 2, none⟩,
⟨.store (.t 53) (.t 51) 3, none⟩] [])
(.rg 11 false [] [⟨.mv 54 (.t 0), none⟩,
⟨.mv 55 (.t 9), none⟩,
⟨.mv 56 (.t 12), none⟩,
⟨.mv 57 (.t 8), none⟩,
⟨.mv 58 (.t 3), none⟩,
⟨.call 59 k_slices_siftDownCmpFunc_of_jump_at [(.t 54), (.t 55), (.t 56), (.t 57), (.t 58)] none, none⟩] [])))
(.rg 9 false [] [⟨.mv 34 (.t 12), none⟩,
⟨.bin 35 .sub (.t 34) (.c (.d true (.int .i64 1))), none⟩,
⟨.mv 12 (.t 35), none⟩] [])))
def c_slices_heapSortCmpFunc_of_jump_at : C :=
(.seq (.rg 0 false [] [⟨.mv 13 (.t 1), none⟩,
⟨.mv 8 (.t 13), none⟩] [])
(.seq (.rg 1 false [] [⟨.mv 9 (.c (.d true (.int .i64 0))), none⟩] [])
(.seq (.rg 2 false [] [⟨.mv 14 (.t 2), none⟩,
⟨.mv 15 (.t 1), none⟩,
⟨.bin 16 .sub (.t 14) (.t 15), none⟩,
⟨.mv 10 (.t 16), none⟩] [])
(.seq (.seq (.rg 3 false [] [⟨.mv 17 (.t 10), none⟩,
⟨.bin 18 .sub (.t 17) (.c (.d true (.int .i64 1))), none⟩,
⟨.bin 19 .quo (.t 18) (.c (.d true (.int .i64 2))), none⟩,
⟨.mv 11 (.t 19), none⟩] [])
(.block 0 (.loop c_slices_heapSortCmpFunc_of_jump_at_l1)))
(.seq (.rg 7 false [] [⟨.mv 30 (.t 10), none⟩,
⟨.bin 31 .sub (.t 30) (.c (.d true (.int .i64 1))), none⟩,
⟨.mv 12 (.t 31), none⟩] [])
(.block 2 (.loop c_slices_heapSortCmpFunc_of_jump_at_l2)))))))
def n_slices_heapSortCmpFunc_of_jump_at : Fn := ⟨c_slices_heapSortCmpFunc_of_jump_at, [], none⟩

def c_slices_breakPatternsCmpFunc_of_jump_at_l1 : C :=
(.seq (.seq (.rg 5 false [] [⟨.mv 28 (.t 11), none⟩,
⟨.mv 29 (.t 1), none⟩,
⟨.mv 30 (.t 8), none⟩,
⟨.bin 31 .quo (.t 30) (.c (.d true (.int .i64 4))), none⟩,
⟨.bin 32 .mul (.t 31) (.c (.d true (.int .i64 2))), none⟩,
⟨.bin 33 .add (.t 29) (.t 32), none⟩,
⟨.bin 34 .add (.t 33) (.c (.d true (.int .i64 1))), none⟩,
⟨.bin 35 .leq (.t 28) (.t 34), none⟩] [])
(.cond (.t 35) .skip (.exit 0)))
(.seq (.block 1 (.seq (.rg 7 false [] [⟨.call 38 k_slices_xorshift_Next [(.t 9)] none, none⟩,
⟨.mv 39 (.t 10), none⟩,
⟨.bin 40 .sub (.t 39) (.c (.d true (.int .u64 1))), none⟩,
⟨.bin 41 .and (.t 38) (.t 40), none⟩,
⟨.cvt 42 .i64 (.t 41), none⟩,
⟨.mv 12 (.t 42), none⟩] [])
(.seq (.seq (.rg 8 false [] [⟨.mv 43 (.t 12), none⟩,
⟨.mv 44 (.t 8), none⟩,
⟨.bin 45 .geq (.t 43) (.t 44), none⟩] [])
(.cond (.t 45) (.rg 9 false [] [⟨.mv 46 (.t 12), none⟩,
⟨.mv 47 (.t 8), none⟩,
⟨.bin 48 .sub (.t 46) (.t 47), none⟩,
⟨.mv 12 (.t 48), none⟩] []) .skip))
(.rg 10 true [] [⟨.mv 49 (.t 0), none⟩,
⟨.mv 50 (.t 11), none⟩,
⟨.mv 51 (.t 0), none⟩,
⟨.mv 52 (.t 1), none⟩,
⟨.mv 53 (.t 12), none⟩,
⟨.bin 54 .add (.t 52) (.t 53), none⟩,
⟨.mv 55 (.t 0), none⟩,
⟨.mv 56 (.t 1), none⟩,
⟨.mv 57 (.t 12), none⟩,
⟨.bin 58 .add (.t 56) (.t 57), none⟩,
⟨.ix 59 (.t 55) (.t 58) 2, none⟩,
⟨.load 60 (.t 59) 3, none⟩,
⟨.mv 61 (.t 0), none⟩,
⟨.mv 62 (.t 11), none⟩,
⟨.ix 63 (.t 61) (.t 62) 2, none⟩,
⟨.load 64 (.t 63) 3, none⟩,
⟨.ix 65 (.t 49) (.t 50) 2, none⟩,
⟨.store (.t 65) (.t 60) 3, none⟩,
⟨.ix 66 (.t 51) (.t 54) 2, none⟩,
⟨.store (.t 66) (.t 64) 3, none⟩] []))))
(.rg 6 false [] [⟨.mv 36 (.t 11), none⟩,
⟨.bin 37 .add (.t 36) (.c (.d true (.int .i64 1))), none⟩,
⟨.mv 11 (.t 37), none⟩] [])))
def c_slices_breakPatternsCmpFunc_of_jump_at : C :=
(.seq (.rg 0 false [] [⟨.mv 13 (.t 2), none⟩,
⟨.mv 14 (.t 1), none⟩,
⟨.bin 15 .sub (.t 13) (.t 14), none⟩,
⟨.mv 8 (.t 15), none⟩] [])
(.seq (.rg 1 false [] [⟨.mv 16 (.t 8), none⟩,
⟨.bin 17 .geq (.t 16) (.c (.d true (.int .i64 8))), none⟩] [])
(.cond (.t 17) (.seq (.rg 2 false [] [⟨.mv 18 (.t 8), none⟩,
⟨.cvt 19 .u64 (.t 18), none⟩,
⟨.alloc 9 0 [.k (.int .u64 0)], none⟩,
⟨.store (.t 9) (.t 19) 0, none⟩] [])
(.seq (.rg 3 false [] [⟨.mv 20 (.t 8), none⟩,
⟨.call 21 k_slices_nextPowerOfTwo [(.t 20)] none, none⟩,
⟨.mv 10 (.t 21), none⟩] [])
(.seq (.rg 4 false [] [⟨.mv 22 (.t 1), none⟩,
⟨.mv 23 (.t 8), none⟩,
⟨.bin 24 .quo (.t 23) (.c (.d true (.int .i64 4))), none⟩,
⟨.bin 25 .mul (.t 24) (.c (.d true (.int .i64 2))), none⟩,
⟨.bin 26 .add (.t 22) (.t 25), none⟩,
⟨.bin 27 .sub (.t 26) (.c (.d true (.int .i64 1))), none⟩,
⟨.mv 11 (.t 27), none⟩] [])
(.block 0 (.loop c_slices_breakPatternsCmpFunc_of_jump_at_l1))))) .skip)))
def n_slices_breakPatternsCmpFunc_of_jump_at : Fn := ⟨c_slices_breakPatternsCmpFunc_of_jump_at, [], none⟩

def c_slices_choosePivotCmpFunc_of_jump_at : C :=
(.seq (.rg 0 false [] [⟨.mv 8 (.c (.d true (.int .i64 0))), none⟩,
⟨.mv 9 (.c (.d true (.int .i64 0))), none⟩] [])
(.seq (.rg 1 false [] [⟨.mv 15 (.t 2), none⟩,
⟨.mv 16 (.t 1), none⟩,
⟨.bin 17 .sub (.t 15) (.t 16), none⟩,
⟨.mv 10 (.t 17), none⟩] [])
(.seq (.rg 2 false [] [⟨.alloc 11 0 [.k (.int .i64 0)], none⟩] [])
(.seq (.rg 3 false [] [⟨.mv 18 (.t 1), none⟩,
⟨.mv 19 (.t 10), none⟩,
⟨.bin 20 .quo (.t 19) (.c (.d true (.int .i64 4))), none⟩,
⟨.bin 21 .mul (.t 20) (.c (.d true (.int .i64 1))), none⟩,
⟨.bin 22 .add (.t 18) (.t 21), none⟩,
⟨.mv 12 (.t 22), none⟩] [])
(.seq (.rg 4 false [] [⟨.mv 23 (.t 1), none⟩,
⟨.mv 24 (.t 10), none⟩,
⟨.bin 25 .quo (.t 24) (.c (.d true (.int .i64 4))), none⟩,
⟨.bin 26 .mul (.t 25) (.c (.d true (.int .i64 2))), none⟩,
⟨.bin 27 .add (.t 23) (.t 26), none⟩,
⟨.mv 13 (.t 27), none⟩] [])
(.seq (.rg 5 false [] [⟨.mv 28 (.t 1), none⟩,
⟨.mv 29 (.t 10), none⟩,
⟨.bin 30 .quo (.t 29) (.c (.d true (.int .i64 4))), none⟩,
⟨.bin 31 .mul (.t 30) (.c (.d true (.int .i64 3))), none⟩,
⟨.bin 32 .add (.t 28) (.t 31), none⟩,
⟨.mv 14 (.t 32), none⟩] [])
(.seq (.seq (.rg 6 false [] [⟨.mv 33 (.t 10), none⟩,
⟨.bin 34 .geq (.t 33) (.c (.d true (.int .i64 8))), none⟩] [])
(.cond (.t 34) (.seq (.seq (.rg 7 false [] [⟨.mv 35 (.t 10), none⟩,
⟨.bin 36 .geq (.t 35) (.c (.d true (.int .i64 50))), none⟩] [])
(.cond (.t 36) (.seq (.rg 8 false [] [⟨.mv 37 (.t 0), none⟩,
⟨.mv 38 (.t 12), none⟩,
⟨.mv 39 (.t 3), none⟩,
⟨.call 40 k_slices_medianAdjacentCmpFunc_of_jump_at [(.t 37), (.t 38), (.t 11), (.t 39)] none, none⟩,
⟨.mv 12 (.t 40), none⟩] [])
(.seq (.rg 9 false [] [⟨.mv 41 (.t 0), none⟩,
⟨.mv 42 (.t 13), none⟩,
⟨.mv 43 (.t 3), none⟩,
⟨.call 44 k_slices_medianAdjacentCmpFunc_of_jump_at [(.t 41), (.t 42), (.t 11), (.t 43)] none, none⟩,
⟨.mv 13 (.t 44), none⟩] [])
(.rg 10 false [] [⟨.mv 45 (.t 0), none⟩,
⟨.mv 46 (.t 14), none⟩,
⟨.mv 47 (.t 3), none⟩,
⟨.call 48 k_slices_medianAdjacentCmpFunc_of_jump_at [(.t 45), (.t 46), (.t 11), (.t 47)] none, none⟩,
⟨.mv 14 (.t 48), none⟩] []))) .skip))
(.rg 11 false [] [⟨.mv 49 (.t 0), none⟩,
⟨.mv 50 (.t 12), none⟩,
⟨.mv 51 (.t 13), none⟩,
⟨.mv 52 (.t 14), none⟩,
⟨.mv 53 (.t 3), none⟩,
⟨.call 54 k_slices_medianCmpFunc_of_jump_at [(.t 49), (.t 50), (.t 51), (.t 52), (.t 11), (.t 53)] none, none⟩,
⟨.mv 13 (.t 54), none⟩] [])) .skip))
(.seq (.rg 12 false [] [⟨.load 55 (.t 11) 0, none⟩] [])
(.block 0 (.seq (.rg 14 false [] [⟨.bin 58 .eql (.t 55) (.c (.d true (.int .i64 0))), none⟩,
⟨.mv 57 (.t 58), none⟩] [])
(.cond (.t 57) (.seq (.rg 15 false [] [⟨.mv 59 (.t 13), none⟩,
⟨.mv 8 (.t 59), none⟩,
⟨.mv 9 (.c (.d true (.int .i64 1))), none⟩] [])
.ret) (.seq (.rg 16 false [] [⟨.bin 61 .eql (.t 55) (.c (.d true (.int .i64 12))), none⟩,
⟨.mv 60 (.t 61), none⟩] [])
(.cond (.t 60) (.seq (.rg 17 false [] [⟨.mv 62 (.t 13), none⟩,
⟨.mv 8 (.t 62), none⟩,
⟨.mv 9 (.c (.d true (.int .i64 2))), none⟩] [])
.ret) (.seq (.rg 13 false [] [⟨.mv 56 (.t 13), none⟩,
⟨.mv 8 (.t 56), none⟩,
⟨.mv 9 (.c (.d true (.int .i64 0))), none⟩] [])
.ret))))))))))))))
def n_slices_choosePivotCmpFunc_of_jump_at : Fn := ⟨c_slices_choosePivotCmpFunc_of_jump_at, [.s 8, .s 9], none⟩

def c_slices_reverseRangeCmpFunc_of_jump_at_l1 : C :=
(.seq (.seq (.rg 2 false [] [⟨.mv 13 (.t 8), none⟩,
⟨.mv 14 (.t 9), none⟩,
⟨.bin 15 .lss (.t 13) (.t 14), none⟩] [])
(.cond (.t 15) .skip (.exit 0)))
(.block 1 (.seq (.rg 3 true [] [⟨.mv 16 (.t 0), none⟩,
⟨.mv 17 (.t 8), none⟩,
⟨.mv 18 (.t 0), none⟩,
⟨.mv 19 (.t 9), none⟩,
⟨.mv 20 (.t 0), none⟩,
⟨.mv 21 (.t 9), none⟩,
⟨.ix 22 (.t 20) (.t 21) 2, none⟩,
⟨.load 23 (.t 22) 3, none⟩,
⟨.mv 24 (.t 0), none⟩,
⟨.mv 25 (.t 8), none⟩,
⟨.ix 26 (.t 24) (.t 25) 2, none⟩,
⟨.load 27 (.t 26) 3, none⟩,
⟨.ix 28 (.t 16) (.t 17) 2, none⟩,
⟨.store (.t 28) (.t 23) 3, none⟩,
⟨.ix 29 (.t 18) (.t 19) 2, none⟩,
⟨.store (.t 29) (.t 27) 3, none⟩] [])
(.seq (.rg 4 false [] [⟨.mv 30 (.t 8), none⟩,
⟨.bin 31 .add (.t 30) (.c (.d true (.int .i64 1))), none⟩,
⟨.mv 8 (.t 31), none⟩] [])
(.rg 5 false [] [⟨.mv 32 (.t 9), none⟩,
⟨.bin 33 .sub (.t 32) (.c (.d true (.int .i64 1))), none⟩,
⟨.mv 9 (.t 33), none⟩] [])))))
def c_slices_reverseRangeCmpFunc_of_jump_at : C :=
(.seq (.rg 0 false [] [⟨.mv 10 (.t 1), none⟩,
⟨.mv 8 (.t 10), none⟩] [])
(.seq (.rg 1 false [] [⟨.mv 11 (.t 2), none⟩,
⟨.bin 12 .sub (.t 11) (.c (.d true (.int .i64 1))), none⟩,
⟨.mv 9 (.t 12), none⟩] [])
(.block 0 (.loop c_slices_reverseRangeCmpFunc_of_jump_at_l1))))
def n_slices_reverseRangeCmpFunc_of_jump_at : Fn := ⟨c_slices_reverseRangeCmpFunc_of_jump_at, [], none⟩

def c_slices_partialInsertionSortCmpFunc_of_jump_at_l1 : C :=
(.seq (.seq (.rg 5 true [] [⟨.mv 19 (.t 9), none⟩,
⟨.mv 20 (.t 2), none⟩,
⟨.bin 21 .lss (.t 19) (.t 20), none⟩,
⟨.mv 22 (.t 21), none⟩,
⟨.mv 23 (.t 3), some (22, true)⟩,
⟨.mv 24 (.t 0), some (22, true)⟩,
⟨.mv 25 (.t 9), some (22, true)⟩,
⟨.ix 26 (.t 24) (.t 25) 2, some (22, true)⟩,
⟨.load 27 (.t 26) 3, some (22, true)⟩,
⟨.mv 28 (.t 0), some (22, true)⟩,
⟨.mv 29 (.t 9), some (22, true)⟩,
⟨.bin 30 .sub (.t 29) (.c (.d true (.int .i64 1))), some (22, true)⟩,
⟨.ix 31 (.t 28) (.t 30) 2, some (22, true)⟩,
⟨.load 32 (.t 31) 3, some (22, true)⟩,
⟨.callv 33 (.t 23) [(.t 27), (.t 32)] none, some (22, true)⟩,
⟨.bin 34 .lss (.t 33) (.c (.d true (.int .i64 0))), some (22, true)⟩,
⟨.un 35 .not (.t 34), some (22, true)⟩,
⟨.pick 36 (.t 22) (.t 35) (.c (.d true (.bool false))), none⟩] [])
(.cond (.t 36) .skip (.exit 2)))
(.block 3 (.rg 6 false [] [⟨.mv 37 (.t 9), none⟩,
⟨.bin 38 .add (.t 37) (.c (.d true (.int .i64 1))), none⟩,
⟨.mv 9 (.t 38), none⟩] [])))
def c_slices_partialInsertionSortCmpFunc_of_jump_at_l2 : C :=
(.seq (.seq (.rg 14 false [] [⟨.mv 68 (.t 11), none⟩,
⟨.bin 69 .geq (.t 68) (.c (.d true (.int .i64 1))), none⟩] [])
(.cond (.t 69) .skip (.exit 4)))
(.seq (.block 5 (.seq (.seq (.rg 16 true [] [⟨.mv 72 (.t 3), none⟩,
⟨.mv 73 (.t 0), none⟩,
⟨.mv 74 (.t 11), none⟩,
⟨.ix 75 (.t 73) (.t 74) 2, none⟩,
⟨.load 76 (.t 75) 3, none⟩,
⟨.mv 77 (.t 0), none⟩,
⟨.mv 78 (.t 11), none⟩,
⟨.bin 79 .sub (.t 78) (.c (.d true (.int .i64 1))), none⟩,
⟨.ix 80 (.t 77) (.t 79) 2, none⟩,
⟨.load 81 (.t 80) 3, none⟩,
⟨.callv 82 (.t 72) [(.t 76), (.t 81)] none, none⟩,
⟨.bin 83 .lss (.t 82) (.c (.d true (.int .i64 0))), none⟩,
⟨.un 84 .not (.t 83), none⟩] [])
(.cond (.t 84) (.exit 4) .skip))
(.rg 17 true [] [⟨.mv 85 (.t 0), none⟩,
⟨.mv 86 (.t 11), none⟩,
⟨.mv 87 (.t 0), none⟩,
⟨.mv 88 (.t 11), none⟩,
⟨.bin 89 .sub (.t 88) (.c (.d true (.int .i64 1))), none⟩,
⟨.mv 90 (.t 0), none⟩,
⟨.mv 91 (.t 11), none⟩,
⟨.bin 92 .sub (.t 91) (.c (.d true (.int .i64 1))), none⟩,
⟨.ix 93 (.t 90) (.t 92) 2, none⟩,
⟨.load 94 (.t 93) 3, none⟩,
⟨.mv 95 (.t 0), none⟩,
⟨.mv 96 (.t 11), none⟩,
⟨.ix 97 (.t 95) (.t 96) 2, none⟩,
⟨.load 98 (.t 97) 3, none⟩,
⟨.ix 99 (.t 85) (.t 86) 2, none⟩,
⟨.store (.t 99) (.t 94) 3, none⟩,
⟨.ix 100 (.t 87) (.t 89) 2, none⟩,
⟨.store (.t 100) (.t 98) 3, none⟩] [])))
(.rg 15 false [] [⟨.mv 70 (.t 11), none⟩,
⟨.bin 71 .sub (.t 70) (.c (.d true (.int .i64 1))), none⟩,
⟨.mv 11 (.t 71), none⟩] [])))
def c_slices_partialInsertionSortCmpFunc_of_jump_at_l3 : C :=
(.seq (.seq (.rg 20 false [] [⟨.mv 107 (.t 12), none⟩,
⟨.mv 108 (.t 2), none⟩,
⟨.bin 109 .lss (.t 107) (.t 108), none⟩] [])
(.cond (.t 109) .skip (.exit 6)))
(.seq (.block 7 (.seq (.seq (.rg 22 true [] [⟨.mv 112 (.t 3), none⟩,
⟨.mv 113 (.t 0), none⟩,
⟨.mv 114 (.t 12), none⟩,
⟨.ix 115 (.t 113) (.t 114) 2, none⟩,
⟨.load 116 (.t 115) 3, none⟩,
⟨.mv 117 (.t 0), none⟩,
⟨.mv 118 (.t 12), none⟩,
⟨.bin 119 .sub (.t 118) (.c (.d true (.int .i64 1))), none⟩,
⟨.ix 120 (.t 117) (.t 119) 2, none⟩,
⟨.load 121 (.t 120) 3, none⟩,
⟨.callv 122 (.t 112) [(.t 116), (.t 121)] none, none⟩,
⟨.bin 123 .lss (.t 122) (.c (.d true (.int .i64 0))), none⟩,
⟨.un 124 .not (.t 123), none⟩] [])
(.cond (.t 124) (.exit 6) .skip))
(.rg 23 true [] [⟨.mv 125 (.t 0), none⟩,
⟨.mv 126 (.t 12), none⟩,
⟨.mv 127 (.t 0), none⟩,
⟨.mv 128 (.t 12), none⟩,
⟨.bin 129 .sub (.t 128) (.c (.d true (.int .i64 1))), none⟩,
⟨.mv 130 (.t 0), none⟩,
⟨.mv 131 (.t 12), none⟩,
⟨.bin 132 .sub (.t 131) (.c (.d true (.int .i64 1))), none⟩,
⟨.ix 133 (.t 130) (.t 132) 2, none⟩,
⟨.load 134 (.t 133) 3, none⟩,
⟨.mv 135 (.t 0), none⟩,
⟨.mv 136 (.t 12), none⟩,
⟨.ix 137 (.t 135) (.t 136) 2, none⟩,
⟨.load 138 (.t 137) 3, none⟩,
⟨.ix 139 (.t 125) (.t 126) 2, none⟩,
⟨.store (.t 139) (.t 134) 3, none⟩,
⟨.ix 140 (.t 127) (.t 129) 2, none⟩,
⟨.store (.t 140) (.t 138) 3, none⟩] [])))
(.rg 21 false [] [⟨.mv 110 (.t 12), none⟩,
⟨.bin 111 .add (.t 110) (.c (.d true (.int .i64 1))), none⟩,
⟨.mv 12 (.t 111), none⟩] [])))
def c_slices_partialInsertionSortCmpFunc_of_jump_at_l4 : C :=
(.seq (.seq (.rg 3 false [] [⟨.mv 15 (.t 10), none⟩,
⟨.bin 16 .lss (.t 15) (.c (.d true (.int .i64 5))), none⟩] [])
(.cond (.t 16) .skip (.exit 0)))
(.seq (.block 1 (.seq (.block 2 (.loop c_slices_partialInsertionSortCmpFunc_of_jump_at_l1))
(.seq (.seq (.rg 7 false [] [⟨.mv 39 (.t 9), none⟩,
⟨.mv 40 (.t 2), none⟩,
⟨.bin 41 .eql (.t 39) (.t 40), none⟩] [])
(.cond (.t 41) (.seq (.rg 8 false [] [⟨.mv 8 (.c (.d true (.bool true))), none⟩] [])
.ret) .skip))
(.seq (.seq (.rg 9 false [] [⟨.mv 42 (.t 2), none⟩,
⟨.mv 43 (.t 1), none⟩,
⟨.bin 44 .sub (.t 42) (.t 43), none⟩,
⟨.bin 45 .lss (.t 44) (.c (.d true (.int .i64 50))), none⟩] [])
(.cond (.t 45) (.seq (.rg 10 false [] [⟨.mv 8 (.c (.d true (.bool false))), none⟩] [])
.ret) .skip))
(.seq (.rg 11 true [] [⟨.mv 46 (.t 0), none⟩,
⟨.mv 47 (.t 9), none⟩,
⟨.mv 48 (.t 0), none⟩,
⟨.mv 49 (.t 9), none⟩,
⟨.bin 50 .sub (.t 49) (.c (.d true (.int .i64 1))), none⟩,
⟨.mv 51 (.t 0), none⟩,
⟨.mv 52 (.t 9), none⟩,
⟨.bin 53 .sub (.t 52) (.c (.d true (.int .i64 1))), none⟩,
⟨.ix 54 (.t 51) (.t 53) 2, none⟩,
⟨.load 55 (.t 54) 3, none⟩,
⟨.mv 56 (.t 0), none⟩,
⟨.mv 57 (.t 9), none⟩,
⟨.ix 58 (.t 56) (.t 57) 2, none⟩,
⟨.load 59 (.t 58) 3, none⟩,
⟨.ix 60 (.t 46) (.t 47) 2, none⟩,
⟨.store (.t 60) (.t 55) 3, none⟩,
⟨.ix 61 (.t 48) (.t 50) 2, none⟩,
⟨.store (.t 61) (.t 59) 3, none⟩] [])
(.seq (.seq (.rg 12 false [] [⟨.mv 62 (.t 9), none⟩,
⟨.mv 63 (.t 1), none⟩,
⟨.bin 64 .sub (.t 62) (.t 63), none⟩,
⟨.bin 65 .geq (.t 64) (.c (.d true (.int .i64 2))), none⟩] [])
(.cond (.t 65) (.seq (.rg 13 false [] [⟨.mv 66 (.t 9), none⟩,
⟨.bin 67 .sub (.t 66) (.c (.d true (.int .i64 1))), none⟩,
⟨.mv 11 (.t 67), none⟩] [])
(.block 4 (.loop c_slices_partialInsertionSortCmpFunc_of_jump_at_l2))) .skip))
(.seq (.rg 18 false [] [⟨.mv 101 (.t 2), none⟩,
⟨.mv 102 (.t 9), none⟩,
⟨.bin 103 .sub (.t 101) (.t 102), none⟩,
⟨.bin 104 .geq (.t 103) (.c (.d true (.int .i64 2))), none⟩] [])
(.cond (.t 104) (.seq (.rg 19 false [] [⟨.mv 105 (.t 9), none⟩,
⟨.bin 106 .add (.t 105) (.c (.d true (.int .i64 1))), none⟩,
⟨.mv 12 (.t 106), none⟩] [])
(.block 6 (.loop c_slices_partialInsertionSortCmpFunc_of_jump_at_l3))) .skip))))))))
(.rg 4 false [] [⟨.mv 17 (.t 10), none⟩,
⟨.bin 18 .add (.t 17) (.c (.d true (.int .i64 1))), none⟩,
⟨.mv 10 (.t 18), none⟩] [])))
def c_slices_partialInsertionSortCmpFunc_of_jump_at : C :=
(.seq (.rg 0 false [] [⟨.mv 8 (.c (.d true (.bool false))), none⟩] [])
(.seq (.rg 1 false [] [⟨.mv 13 (.t 1), none⟩,
⟨.bin 14 .add (.t 13) (.c (.d true (.int .i64 1))), none⟩,
⟨.mv 9 (.t 14), none⟩] [])
(.seq (.seq (.rg 2 false [] [⟨.mv 10 (.c (.d true (.int .i64 0))), none⟩] [])
(.block 0 (.loop c_slices_partialInsertionSortCmpFunc_of_jump_at_l4)))
(.seq (.rg 24 false [] [⟨.mv 8 (.c (.d true (.bool false))), none⟩] [])
.ret))))
def n_slices_partialInsertionSortCmpFunc_of_jump_at : Fn := ⟨c_slices_partialInsertionSortCmpFunc_of_jump_at, [.s 8], none⟩

def c_slices_partitionEqualCmpFunc_of_jump_at_l1 : C :=
(.seq (.seq (.rg 3 true [] [⟨.mv 31 (.t 11), none⟩,
⟨.mv 32 (.t 12), none⟩,
⟨.bin 33 .leq (.t 31) (.t 32), none⟩,
⟨.mv 34 (.t 33), none⟩,
⟨.mv 35 (.t 4), some (34, true)⟩,
⟨.mv 36 (.t 0), some (34, true)⟩,
⟨.mv 37 (.t 1), some (34, true)⟩,
⟨.ix 38 (.t 36) (.t 37) 2, some (34, true)⟩,
⟨.load 39 (.t 38) 3, some (34, true)⟩,
⟨.mv 40 (.t 0), some (34, true)⟩,
⟨.mv 41 (.t 11), some (34, true)⟩,
⟨.ix 42 (.t 40) (.t 41) 2, some (34, true)⟩,
⟨.load 43 (.t 42) 3, some (34, true)⟩,
⟨.callv 44 (.t 35) [(.t 39), (.t 43)] none, some (34, true)⟩,
⟨.bin 45 .lss (.t 44) (.c (.d true (.int .i64 0))), some (34, true)⟩,
⟨.un 46 .not (.t 45), some (34, true)⟩,
⟨.pick 47 (.t 34) (.t 46) (.c (.d true (.bool false))), none⟩] [])
(.cond (.t 47) .skip (.exit 2)))
(.block 3 (.rg 4 false [] [⟨.mv 48 (.t 11), none⟩,
⟨.bin 49 .add (.t 48) (.c (.d true (.int .i64 1))), none⟩,
⟨.mv 11 (.t 49), none⟩] [])))
def c_slices_partitionEqualCmpFunc_of_jump_at_l2 : C :=
(.seq (.seq (.rg 5 true [] [⟨.mv 50 (.t 11), none⟩,
⟨.mv 51 (.t 12), none⟩,
⟨.bin 52 .leq (.t 50) (.t 51), none⟩,
⟨.mv 53 (.t 52), none⟩,
⟨.mv 54 (.t 4), some (53, true)⟩,
⟨.mv 55 (.t 0), some (53, true)⟩,
⟨.mv 56 (.t 1), some (53, true)⟩,
⟨.ix 57 (.t 55) (.t 56) 2, some (53, true)⟩,
⟨.load 58 (.t 57) 3, some (53, true)⟩,
⟨.mv 59 (.t 0), some (53, true)⟩,
⟨.mv 60 (.t 12), some (53, true)⟩,
⟨.ix 61 (.t 59) (.t 60) 2, some (53, true)⟩,
⟨.load 62 (.t 61) 3, some (53, true)⟩,
⟨.callv 63 (.t 54) [(.t 58), (.t 62)] none, some (53, true)⟩,
⟨.bin 64 .lss (.t 63) (.c (.d true (.int .i64 0))), some (53, true)⟩,
⟨.pick 65 (.t 53) (.t 64) (.c (.d true (.bool false))), none⟩] [])
(.cond (.t 65) .skip (.exit 4)))
(.block 5 (.rg 6 false [] [⟨.mv 66 (.t 12), none⟩,
⟨.bin 67 .sub (.t 66) (.c (.d true (.int .i64 1))), none⟩,
⟨.mv 12 (.t 67), none⟩] [])))
def c_slices_partitionEqualCmpFunc_of_jump_at_l3 : C :=
(.block 1 (.seq (.block 2 (.loop c_slices_partitionEqualCmpFunc_of_jump_at_l1))
(.seq (.block 4 (.loop c_slices_partitionEqualCmpFunc_of_jump_at_l2))
(.seq (.seq (.rg 7 false [] [⟨.mv 68 (.t 11), none⟩,
⟨.mv 69 (.t 12), none⟩,
⟨.bin 70 .gtr (.t 68) (.t 69), none⟩] [])
(.cond (.t 70) (.exit 0) .skip))
(.seq (.rg 8 true [] [⟨.mv 71 (.t 0), none⟩,
⟨.mv 72 (.t 11), none⟩,
⟨.mv 73 (.t 0), none⟩,
⟨.mv 74 (.t 12), none⟩,
⟨.mv 75 (.t 0), none⟩,
⟨.mv 76 (.t 12), none⟩,
⟨.ix 77 (.t 75) (.t 76) 2, none⟩,
⟨.load 78 (.t 77) 3, none⟩,
⟨.mv 79 (.t 0), none⟩,
⟨.mv 80 (.t 11), none⟩,
⟨.ix 81 (.t 79) (.t 80) 2, none⟩,
⟨.load 82 (.t 81) 3, none⟩,
⟨.ix 83 (.t 71) (.t 72) 2, none⟩,
⟨.store (.t 83) (.t 78) 3, none⟩,
⟨.ix 84 (.t 73) (.t 74) 2, none⟩,
⟨.store (.t 84) (.t 82) 3, none⟩] [])
(.seq (.rg 9 false [] [⟨.mv 85 (.t 11), none⟩,
⟨.bin 86 .add (.t 85) (.c (.d true (.int .i64 1))), none⟩,
⟨.mv 11 (.t 86), none⟩] [])
(.rg 10 false [] [⟨.mv 87 (.t 12), none⟩,
⟨.bin 88 .sub (.t 87) (.c (.d true (.int .i64 1))), none⟩,
⟨.mv 12 (.t 88), none⟩] [])))))))
def c_slices_partitionEqualCmpFunc_of_jump_at : C :=
(.seq (.rg 0 false [] [⟨.mv 10 (.c (.d true (.int .i64 0))), none⟩] [])
(.seq (.rg 1 true [] [⟨.mv 13 (.t 0), none⟩,
⟨.mv 14 (.t 1), none⟩,
⟨.mv 15 (.t 0), none⟩,
⟨.mv 16 (.t 3), none⟩,
⟨.mv 17 (.t 0), none⟩,
⟨.mv 18 (.t 3), none⟩,
⟨.ix 19 (.t 17) (.t 18) 2, none⟩,
⟨.load 20 (.t 19) 3, none⟩,
⟨.mv 21 (.t 0), none⟩,
⟨.mv 22 (.t 1), none⟩,
⟨.ix 23 (.t 21) (.t 22) 2, none⟩,
⟨.load 24 (.t 23) 3, none⟩,
⟨.ix 25 (.t 13) (.t 14) 2, none⟩,
⟨.store (.t 25) (.t 20) 3, none⟩,
⟨.ix 26 (.t 15) (.t 16) 2, none⟩,
⟨.store (.t 26) (.t 24) 3, none⟩] [])
(.seq (.rg 2 false [] [⟨.mv 27 (.t 1), none⟩,
⟨.bin 28 .add (.t 27) (.c (.d true (.int .i64 1))), none⟩,
⟨.mv 29 (.t 2), none⟩,
⟨.bin 30 .sub (.t 29) (.c (.d true (.int .i64 1))), none⟩,
⟨.mv 11 (.t 28), none⟩,
⟨.mv 12 (.t 30), none⟩] [])
(.seq (.block 0 (.loop c_slices_partitionEqualCmpFunc_of_jump_at_l3))
(.seq (.rg 11 false [] [⟨.mv 89 (.t 11), none⟩,
⟨.mv 10 (.t 89), none⟩] [])
.ret)))))
def n_slices_partitionEqualCmpFunc_of_jump_at : Fn := ⟨c_slices_partitionEqualCmpFunc_of_jump_at, [.s 10], none⟩

def c_slices_partitionCmpFunc_of_jump_at_l1 : C :=
(.seq (.seq (.rg 3 true [] [⟨.mv 32 (.t 12), none⟩,
⟨.mv 33 (.t 13), none⟩,
⟨.bin 34 .leq (.t 32) (.t 33), none⟩,
⟨.mv 35 (.t 34), none⟩,
⟨.mv 36 (.t 4), some (35, true)⟩,
⟨.mv 37 (.t 0), some (35, true)⟩,
⟨.mv 38 (.t 12), some (35, true)⟩,
⟨.ix 39 (.t 37) (.t 38) 2, some (35, true)⟩,
⟨.load 40 (.t 39) 3, some (35, true)⟩,
⟨.mv 41 (.t 0), some (35, true)⟩,
⟨.mv 42 (.t 1), some (35, true)⟩,
⟨.ix 43 (.t 41) (.t 42) 2, some (35, true)⟩,
⟨.load 44 (.t 43) 3, some (35, true)⟩,
⟨.callv 45 (.t 36) [(.t 40), (.t 44)] none, some (35, true)⟩,
⟨.bin 46 .lss (.t 45) (.c (.d true (.int .i64 0))), some (35, true)⟩,
⟨.pick 47 (.t 35) (.t 46) (.c (.d true (.bool false))), none⟩] [])
(.cond (.t 47) .skip (.exit 0)))
(.block 1 (.rg 4 false [] [⟨.mv 48 (.t 12), none⟩,
⟨.bin 49 .add (.t 48) (.c (.d true (.int .i64 1))), none⟩,
⟨.mv 12 (.t 49), none⟩] [])))
def c_slices_partitionCmpFunc_of_jump_at_l2 : C :=
(.seq (.seq (.rg 5 true [] [⟨.mv 50 (.t 12), none⟩,
⟨.mv 51 (.t 13), none⟩,
⟨.bin 52 .leq (.t 50) (.t 51), none⟩,
⟨.mv 53 (.t 52), none⟩,
⟨.mv 54 (.t 4), some (53, true)⟩,
⟨.mv 55 (.t 0), some (53, true)⟩,
⟨.mv 56 (.t 13), some (53, true)⟩,
⟨.ix 57 (.t 55) (.t 56) 2, some (53, true)⟩,
⟨.load 58 (.t 57) 3, some (53, true)⟩,
⟨.mv 59 (.t 0), some (53, true)⟩,
⟨.mv 60 (.t 1), some (53, true)⟩,
⟨.ix 61 (.t 59) (.t 60) 2, some (53, true)⟩,
⟨.load 62 (.t 61) 3, some (53, true)⟩,
⟨.callv 63 (.t 54) [(.t 58), (.t 62)] none, some (53, true)⟩,
⟨.bin 64 .lss (.t 63) (.c (.d true (.int .i64 0))), some (53, true)⟩,
⟨.un 65 .not (.t 64), some (53, true)⟩,
⟨.pick 66 (.t 53) (.t 65) (.c (.d true (.bool false))), none⟩] [])
(.cond (.t 66) .skip (.exit 2)))
(.block 3 (.rg 6 false [] [⟨.mv 67 (.t 13), none⟩,
⟨.bin 68 .sub (.t 67) (.c (.d true (.int .i64 1))), none⟩,
⟨.mv 13 (.t 68), none⟩] [])))
def c_slices_partitionCmpFunc_of_jump_at_l3 : C :=
(.seq (.seq (.rg 13 true [] [⟨.mv 105 (.t 12), none⟩,
⟨.mv 106 (.t 13), none⟩,
⟨.bin 107 .leq (.t 105) (.t 106), none⟩,
⟨.mv 108 (.t 107), none⟩,
⟨.mv 109 (.t 4), some (108, true)⟩,
⟨.mv 110 (.t 0), some (108, true)⟩,
⟨.mv 111 (.t 12), some (108, true)⟩,
⟨.ix 112 (.t 110) (.t 111) 2, some (108, true)⟩,
⟨.load 113 (.t 112) 3, some (108, true)⟩,
⟨.mv 114 (.t 0), some (108, true)⟩,
⟨.mv 115 (.t 1), some (108, true)⟩,
⟨.ix 116 (.t 114) (.t 115) 2, some (108, true)⟩,
⟨.load 117 (.t 116) 3, some (108, true)⟩,
⟨.callv 118 (.t 109) [(.t 113), (.t 117)] none, some (108, true)⟩,
⟨.bin 119 .lss (.t 118) (.c (.d true (.int .i64 0))), some (108, true)⟩,
⟨.pick 120 (.t 108) (.t 119) (.c (.d true (.bool false))), none⟩] [])
(.cond (.t 120) .skip (.exit 6)))
(.block 7 (.rg 14 false [] [⟨.mv 121 (.t 12), none⟩,
⟨.bin 122 .add (.t 121) (.c (.d true (.int .i64 1))), none⟩,
⟨.mv 12 (.t 122), none⟩] [])))
def c_slices_partitionCmpFunc_of_jump_at_l4 : C :=
(.seq (.seq (.rg 15 true [] [⟨.mv 123 (.t 12), none⟩,
⟨.mv 124 (.t 13), none⟩,
⟨.bin 125 .leq (.t 123) (.t 124), none⟩,
⟨.mv 126 (.t 125), none⟩,
⟨.mv 127 (.t 4), some (126, true)⟩,
⟨.mv 128 (.t 0), some (126, true)⟩,
⟨.mv 129 (.t 13), some (126, true)⟩,
⟨.ix 130 (.t 128) (.t 129) 2, some (126, true)⟩,
⟨.load 131 (.t 130) 3, some (126, true)⟩,
⟨.mv 132 (.t 0), some (126, true)⟩,
⟨.mv 133 (.t 1), some (126, true)⟩,
⟨.ix 134 (.t 132) (.t 133) 2, some (126, true)⟩,
⟨.load 135 (.t 134) 3, some (126, true)⟩,
⟨.callv 136 (.t 127) [(.t 131), (.t 135)] none, some (126, true)⟩,
⟨.bin 137 .lss (.t 136) (.c (.d true (.int .i64 0))), some (126, true)⟩,
⟨.un 138 .not (.t 137), some (126, true)⟩,
⟨.pick 139 (.t 126) (.t 138) (.c (.d true (.bool false))), none⟩] [])
(.cond (.t 139) .skip (.exit 8)))
(.block 9 (.rg 16 false [] [⟨.mv 140 (.t 13), none⟩,
⟨.bin 141 .sub (.t 140) (.c (.d true (.int .i64 1))), none⟩,
⟨.mv 13 (.t 141), none⟩] [])))
def c_slices_partitionCmpFunc_of_jump_at_l5 : C :=
(.block 5 (.seq (.block 6 (.loop c_slices_partitionCmpFunc_of_jump_at_l3))
(.seq (.block 8 (.loop c_slices_partitionCmpFunc_of_jump_at_l4))
(.seq (.seq (.rg 17 false [] [⟨.mv 142 (.t 12), none⟩,
⟨.mv 143 (.t 13), none⟩,
⟨.bin 144 .gtr (.t 142) (.t 143), none⟩] [])
(.cond (.t 144) (.exit 4) .skip))
(.seq (.rg 18 true [] [⟨.mv 145 (.t 0), none⟩,
⟨.mv 146 (.t 12), none⟩,
⟨.mv 147 (.t 0), none⟩,
⟨.mv 148 (.t 13), none⟩,
⟨.mv 149 (.t 0), none⟩,
⟨.mv 150 (.t 13), none⟩,
⟨.ix 151 (.t 149) (.t 150) 2, none⟩,
⟨.load 152 (.t 151) 3, none⟩,
⟨.mv 153 (.t 0), none⟩,
⟨.mv 154 (.t 12), none⟩,
⟨.ix 155 (.t 153) (.t 154) 2, none⟩,
⟨.load 156 (.t 155) 3, none⟩,
⟨.ix 157 (.t 145) (.t 146) 2, none⟩,
⟨.store (.t 157) (.t 152) 3, none⟩,
⟨.ix 158 (.t 147) (.t 148) 2, none⟩,
⟨.store (.t 158) (.t 156) 3, none⟩] [])
(.seq (.rg 19 false [] [⟨.mv 159 (.t 12), none⟩,
⟨.bin 160 .add (.t 159) (.c (.d true (.int .i64 1))), none⟩,
⟨.mv 12 (.t 160), none⟩] [])
(.rg 20 false [] [⟨.mv 161 (.t 13), none⟩,
⟨.bin 162 .sub (.t 161) (.c (.d true (.int .i64 1))), none⟩,
⟨.mv 13 (.t 162), none⟩] [])))))))
def c_slices_partitionCmpFunc_of_jump_at : C :=
(.seq (.rg 0 false [] [⟨.mv 10 (.c (.d true (.int .i64 0))), none⟩,
⟨.mv 11 (.c (.d true (.bool false))), none⟩] [])
(.seq (.rg 1 true [] [⟨.mv 14 (.t 0), none⟩,
⟨.mv 15 (.t 1), none⟩,
⟨.mv 16 (.t 0), none⟩,
⟨.mv 17 (.t 3), none⟩,
⟨.mv 18 (.t 0), none⟩,
⟨.mv 19 (.t 3), none⟩,
⟨.ix 20 (.t 18) (.t 19) 2, none⟩,
⟨.load 21 (.t 20) 3, none⟩,
⟨.mv 22 (.t 0), none⟩,
⟨.mv 23 (.t 1), none⟩,
⟨.ix 24 (.t 22) (.t 23) 2, none⟩,
⟨.load 25 (.t 24) 3, none⟩,
⟨.ix 26 (.t 14) (.t 15) 2, none⟩,
⟨.store (.t 26) (.t 21) 3, none⟩,
⟨.ix 27 (.t 16) (.t 17) 2, none⟩,
⟨.store (.t 27) (.t 25) 3, none⟩] [])
(.seq (.rg 2 false [] [⟨.mv 28 (.t 1), none⟩,
⟨.bin 29 .add (.t 28) (.c (.d true (.int .i64 1))), none⟩,
⟨.mv 30 (.t 2), none⟩,
⟨.bin 31 .sub (.t 30) (.c (.d true (.int .i64 1))), none⟩,
⟨.mv 12 (.t 29), none⟩,
⟨.mv 13 (.t 31), none⟩] [])
(.seq (.block 0 (.loop c_slices_partitionCmpFunc_of_jump_at_l1))
(.seq (.block 2 (.loop c_slices_partitionCmpFunc_of_jump_at_l2))
(.seq (.seq (.rg 7 false [] [⟨.mv 69 (.t 12), none⟩,
⟨.mv 70 (.t 13), none⟩,
⟨.bin 71 .gtr (.t 69) (.t 70), none⟩] [])
(.cond (.t 71) (.seq (.rg 8 true [] [⟨.mv 72 (.t 0), none⟩,
⟨.mv 73 (.t 13), none⟩,
⟨.mv 74 (.t 0), none⟩,
⟨.mv 75 (.t 1), none⟩,
⟨.mv 76 (.t 0), none⟩,
⟨.mv 77 (.t 1), none⟩,
⟨.ix 78 (.t 76) (.t 77) 2, none⟩,
⟨.load 79 (.t 78) 3, none⟩,
⟨.mv 80 (.t 0), none⟩,
⟨.mv 81 (.t 13), none⟩,
⟨.ix 82 (.t 80) (.t 81) 2, none⟩,
⟨.load 83 (.t 82) 3, none⟩,
⟨.ix 84 (.t 72) (.t 73) 2, none⟩,
⟨.store (.t 84) (.t 79) 3, none⟩,
⟨.ix 85 (.t 74) (.t 75) 2, none⟩,
⟨.store (.t 85) (.t 83) 3, none⟩] [])
(.seq (.rg 9 false [] [⟨.mv 86 (.t 13), none⟩,
⟨.mv 10 (.t 86), none⟩,
⟨.mv 11 (.c (.d true (.bool true))), none⟩] [])
.ret)) .skip))
(.seq (.rg 10 true [] [⟨.mv 87 (.t 0), none⟩,
⟨.mv 88 (.t 12), none⟩,
⟨.mv 89 (.t 0), none⟩,
⟨.mv 90 (.t 13), none⟩,
⟨.mv 91 (.t 0), none⟩,
⟨.mv 92 (.t 13), none⟩,
⟨.ix 93 (.t 91) (.t 92) 2, none⟩,
⟨.load 94 (.t 93) 3, none⟩,
⟨.mv 95 (.t 0), none⟩,
⟨.mv 96 (.t 12), none⟩,
⟨.ix 97 (.t 95) (.t 96) 2, none⟩,
⟨.load 98 (.t 97) 3, none⟩,
⟨.ix 99 (.t 87) (.t 88) 2, none⟩,
⟨.store (.t 99) (.t 94) 3, none⟩,
⟨.ix 100 (.t 89) (.t 90) 2, none⟩,
⟨.store (.t 100) (.t 98) 3, none⟩] [])
(.seq (.rg 11 false [] [⟨.mv 101 (.t 12), none⟩,
⟨.bin 102 .add (.t 101) (.c (.d true (.int .i64 1))), none⟩,
⟨.mv 12 (.t 102), none⟩] [])
(.seq (.rg 12 false [] [⟨.mv 103 (.t 13), none⟩,
⟨.bin 104 .sub (.t 103) (.c (.d true (.int .i64 1))), none⟩,
⟨.mv 13 (.t 104), none⟩] [])
(.seq (.block 4 (.loop c_slices_partitionCmpFunc_of_jump_at_l5))
(.seq (.rg 21 true [] [⟨.mv 163 (.t 0), none⟩,
⟨.mv 164 (.t 13), none⟩,
⟨.mv 165 (.t 0), none⟩,
⟨.mv 166 (.t 1), none⟩,
⟨.mv 167 (.t 0), none⟩,
⟨.mv 168 (.t 1), none⟩,
⟨.ix 169 (.t 167) (.t 168) 2, none⟩,
⟨.load 170 (.t 169) 3, none⟩,
⟨.mv 171 (.t 0), none⟩,
⟨.mv 172 (.t 13), none⟩,
⟨.ix 173 (.t 171) (.t 172) 2, none⟩,
⟨.load 174 (.t 173) 3, none⟩,
⟨.ix 175 (.t 163) (.t 164) 2, none⟩,
⟨.store (.t 175) (.t 170) 3, none⟩,
⟨.ix 176 (.t 165) (.t 166) 2, none⟩,
⟨.store (.t 176) (.t 174) 3, none⟩] [])
(.seq (.rg 22 false [] [⟨.mv 177 (.t 13), none⟩,
⟨.mv 10 (.t 177), none⟩,
⟨.mv 11 (.c (.d true (.bool false))), none⟩] [])
.ret))))))))))))
def n_slices_partitionCmpFunc_of_jump_at : Fn := ⟨c_slices_partitionCmpFunc_of_jump_at, [.s 10, .s 11], none⟩

def c_slices_siftDownCmpFunc_of_jump_at_l1 : C :=
(.block 1 (.seq (.rg 1 false [] [⟨.mv 13 (.t 10), none⟩,
⟨.bin 14 .mul (.c (.d true (.int .i64 2))) (.t 13), none⟩,
⟨.bin 15 .add (.t 14) (.c (.d true (.int .i64 1))), none⟩,
⟨.mv 11 (.t 15), none⟩] [])
(.seq (.seq (.rg 2 false [] [⟨.mv 16 (.t 11), none⟩,
⟨.mv 17 (.t 2), none⟩,
⟨.bin 18 .geq (.t 16) (.t 17), none⟩] [])
(.cond (.t 18) (.exit 0) .skip))
(.seq (.seq (.rg 3 true [] [⟨.mv 19 (.t 11), none⟩,
⟨.bin 20 .add (.t 19) (.c (.d true (.int .i64 1))), none⟩,
⟨.mv 21 (.t 2), none⟩,
⟨.bin 22 .lss (.t 20) (.t 21), none⟩,
⟨.mv 23 (.t 22), none⟩,
⟨.mv 24 (.t 4), some (23, true)⟩,
⟨.mv 25 (.t 0), some (23, true)⟩,
⟨.mv 26 (.t 3), some (23, true)⟩,
⟨.mv 27 (.t 11), some (23, true)⟩,
⟨.bin 28 .add (.t 26) (.t 27), some (23, true)⟩,
⟨.ix 29 (.t 25) (.t 28) 2, some (23, true)⟩,
⟨.load 30 (.t 29) 3, some (23, true)⟩,
⟨.mv 31 (.t 0), some (23, true)⟩,
⟨.mv 32 (.t 3), some (23, true)⟩,
⟨.mv 33 (.t 11), some (23, true)⟩,
⟨.bin 34 .add (.t 32) (.t 33), some (23, true)⟩,
⟨.bin 35 .add (.t 34) (.c (.d true (.int .i64 1))), some (23, true)⟩,
⟨.ix 36 (.t 31) (.t 35) 2, some (23, true)⟩,
⟨.load 37 (.t 36) 3, some (23, true)⟩,
⟨.callv 38 (.t 24) [(.t 30), (.t 37)] none, some (23, true)⟩,
⟨.bin 39 .lss (.t 38) (.c (.d true (.int .i64 0))), some (23, true)⟩,
⟨.pick 40 (.t 23) (.t 39) (.c (.d true (.bool false))), none⟩] [])
(.cond (.t 40) (.rg 4 false [] [⟨.mv 41 (.t 11), none⟩,
⟨.bin 42 .add (.t 41) (.c (.d true (.int .i64 1))), none⟩,
⟨.mv 11 (.t 42), none⟩] []) .skip))
(.seq (.seq (.rg 5 true [] [⟨.mv 43 (.t 4), none⟩,
⟨.mv 44 (.t 0), none⟩,
⟨.mv 45 (.t 3), none⟩,
⟨.mv 46 (.t 10), none⟩,
⟨.bin 47 .add (.t 45) (.t 46), none⟩,
⟨.ix 48 (.t 44) (.t 47) 2, none⟩,
⟨.load 49 (.t 48) 3, none⟩,
⟨.mv 50 (.t 0), none⟩,
⟨.mv 51 (.t 3), none⟩,
⟨.mv 52 (.t 11), none⟩,
⟨.bin 53 .add (.t 51) (.t 52), none⟩,
⟨.ix 54 (.t 50) (.t 53) 2, none⟩,
⟨.load 55 (.t 54) 3, none⟩,
⟨.callv 56 (.t 43) [(.t 49), (.t 55)] none, none⟩,
⟨.bin 57 .lss (.t 56) (.c (.d true (.int .i64 0))), none⟩,
⟨.un 58 .not (.t 57), none⟩] [])
(.cond (.t 58) .ret .skip))
(.seq (.rg 6 true [] [⟨.mv 59 (.t 0), none⟩,
⟨.mv 60 (.t 3), none⟩,
⟨.mv 61 (.t 10), none⟩,
⟨.bin 62 .add (.t 60) (.t 61), none⟩,
⟨.mv 63 (.t 0), none⟩,
⟨.mv 64 (.t 3), none⟩,
⟨.mv 65 (.t 11), none⟩,
⟨.bin 66 .add (.t 64) (.t 65), none⟩,
⟨.mv 67 (.t 0), none⟩,
⟨.mv 68 (.t 3), none⟩,
⟨.mv 69 (.t 11), none⟩,
⟨.bin 70 .add (.t 68) (.t 69), none⟩,
⟨.ix 71 (.t 67) (.t 70) 2, none⟩,
⟨.load 72 (.t 71) 3, none⟩,
⟨.mv 73 (.t 0), none⟩,
⟨.mv 74 (.t 3), none⟩,
⟨.mv 75 (.t 10), none⟩,
⟨.bin 76 .add (.t 74) (.t 75), none⟩,
⟨.ix 77 (.t 73) (.t 76) 2, none⟩,
⟨.load 78 (.t 77) 3, none⟩,
⟨.ix 79 (.t 59) (.t 62) 2, none⟩,
⟨.store (.t 79) (.t 72) 3, none⟩,
⟨.ix 80 (.t 63) (.t 66) 2, none⟩,
⟨.store (.t 80) (.t 78) 3, none⟩] [])
(.rg 7 false [] [⟨.mv 81 (.t 11), none⟩,
⟨.mv 10 (.t 81), none⟩] [])))))))
def c_slices_siftDownCmpFunc_of_jump_at : C :=
(.seq (.rg 0 false [] [⟨.mv 12 (.t 1), none⟩,
⟨.mv 10 (.t 12), none⟩] [])
(.block 0 (.loop c_slices_siftDownCmpFunc_of_jump_at_l1)))
def n_slices_siftDownCmpFunc_of_jump_at : Fn := ⟨c_slices_siftDownCmpFunc_of_jump_at, [], none⟩

def c_slices_medianAdjacentCmpFunc_of_jump_at : C :=
(.seq (.rg 0 false [] [⟨.mv 8 (.c (.d true (.int .i64 0))), none⟩] [])
(.seq (.rg 1 false [] [⟨.mv 9 (.t 0), none⟩,
⟨.mv 10 (.t 1), none⟩,
⟨.bin 11 .sub (.t 10) (.c (.d true (.int .i64 1))), none⟩,
⟨.mv 12 (.t 1), none⟩,
⟨.mv 13 (.t 1), none⟩,
⟨.bin 14 .add (.t 13) (.c (.d true (.int .i64 1))), none⟩,
⟨.mv 15 (.t 2), none⟩,
⟨.mv 16 (.t 3), none⟩,
⟨.call 17 k_slices_medianCmpFunc_of_jump_at [(.t 9), (.t 11), (.t 12), (.t 14), (.t 15), (.t 16)] none, none⟩,
⟨.mv 8 (.t 17), none⟩] [])
.ret))
def n_slices_medianAdjacentCmpFunc_of_jump_at : Fn := ⟨c_slices_medianAdjacentCmpFunc_of_jump_at, [.s 8], none⟩

def c_slices_medianCmpFunc_of_jump_at : C :=
(.seq (.rg 0 false [] [⟨.mv 12 (.c (.d true (.int .i64 0))), none⟩] [])
(.seq (.rg 1 false [] [⟨.mv 14 (.t 0), none⟩,
⟨.mv 15 (.t 1), none⟩,
⟨.mv 16 (.t 2), none⟩,
⟨.mv 17 (.t 4), none⟩,
⟨.mv 18 (.t 5), none⟩,
⟨.call 19 k_slices_order2CmpFunc_of_jump_at [(.t 14), (.t 15), (.t 16), (.t 17), (.t 18)] none, none⟩,
⟨.mv 13 (.t 19), none⟩,
⟨.xt 20 (.t 13) 0, none⟩,
⟨.xt 21 (.t 13) 1, none⟩,
⟨.mv 1 (.t 20), none⟩,
⟨.mv 2 (.t 21), none⟩] [])
(.seq (.rg 2 false [] [⟨.mv 23 (.t 0), none⟩,
⟨.mv 24 (.t 2), none⟩,
⟨.mv 25 (.t 3), none⟩,
⟨.mv 26 (.t 4), none⟩,
⟨.mv 27 (.t 5), none⟩,
⟨.call 28 k_slices_order2CmpFunc_of_jump_at [(.t 23), (.t 24), (.t 25), (.t 26), (.t 27)] none, none⟩,
⟨.mv 22 (.t 28), none⟩,
⟨.xt 29 (.t 22) 0, none⟩,
⟨.xt 30 (.t 22) 1, none⟩,
⟨.mv 2 (.t 29), none⟩,
⟨.mv 3 (.t 30), none⟩] [])
(.seq (.rg 3 false [] [⟨.mv 32 (.t 0), none⟩,
⟨.mv 33 (.t 1), none⟩,
⟨.mv 34 (.t 2), none⟩,
⟨.mv 35 (.t 4), none⟩,
⟨.mv 36 (.t 5), none⟩,
⟨.call 37 k_slices_order2CmpFunc_of_jump_at [(.t 32), (.t 33), (.t 34), (.t 35), (.t 36)] none, none⟩,
⟨.mv 31 (.t 37), none⟩,
⟨.xt 38 (.t 31) 0, none⟩,
⟨.xt 39 (.t 31) 1, none⟩,
⟨.mv 1 (.t 38), none⟩,
⟨.mv 2 (.t 39), none⟩] [])
(.seq (.rg 4 false [] [⟨.mv 40 (.t 2), none⟩,
⟨.mv 12 (.t 40), none⟩] [])
.ret)))))
def n_slices_medianCmpFunc_of_jump_at : Fn := ⟨c_slices_medianCmpFunc_of_jump_at, [.s 12], none⟩

def c_slices_order2CmpFunc_of_jump_at : C :=
(.seq (.rg 0 false [] [⟨.mv 10 (.c (.d true (.int .i64 0))), none⟩,
⟨.mv 11 (.c (.d true (.int .i64 0))), none⟩] [])
(.seq (.seq (.rg 1 true [] [⟨.mv 12 (.t 4), none⟩,
⟨.mv 13 (.t 0), none⟩,
⟨.mv 14 (.t 2), none⟩,
⟨.ix 15 (.t 13) (.t 14) 2, none⟩,
⟨.load 16 (.t 15) 3, none⟩,
⟨.mv 17 (.t 0), none⟩,
⟨.mv 18 (.t 1), none⟩,
⟨.ix 19 (.t 17) (.t 18) 2, none⟩,
⟨.load 20 (.t 19) 3, none⟩,
⟨.callv 21 (.t 12) [(.t 16), (.t 20)] none, none⟩,
⟨.bin 22 .lss (.t 21) (.c (.d true (.int .i64 0))), none⟩] [])
(.cond (.t 22) (.seq (.rg 2 false [] [⟨.mv 23 (.t 3), none⟩,
⟨.chk 24 (.t 23), none⟩,
⟨.load 25 (.t 24) 0, none⟩,
⟨.bin 26 .add (.t 25) (.c (.d true (.int .i64 1))), none⟩,
⟨.chk 27 (.t 23), none⟩,
⟨.store (.t 27) (.t 26) 0, none⟩] [])
(.seq (.rg 3 false [] [⟨.mv 28 (.t 2), none⟩,
⟨.mv 29 (.t 1), none⟩,
⟨.mv 10 (.t 28), none⟩,
⟨.mv 11 (.t 29), none⟩] [])
.ret)) .skip))
(.seq (.rg 4 false [] [⟨.mv 30 (.t 1), none⟩,
⟨.mv 31 (.t 2), none⟩,
⟨.mv 10 (.t 30), none⟩,
⟨.mv 11 (.t 31), none⟩] [])
.ret)))
def n_slices_order2CmpFunc_of_jump_at : Fn := ⟨c_slices_order2CmpFunc_of_jump_at, [.s 10, .s 11], none⟩

def fnList : List (Nat × Fn) := [(k_law40_PushNames, n_law40_PushNames),
(k_frames_Clauses, n_frames_Clauses),
(k_frames_Put, n_frames_Put),
(k_frames_Check, n_frames_Check),
(k_frames_Before, n_frames_Before),
(k_ref37_Same, n_ref37_Same),
(k_ref13_Same, n_ref13_Same),
(k_shrink_First, n_shrink_First),
(k_law40_stays, n_law40_stays),
(k_push_Sound, n_push_Sound),
(k_push_Push, n_push_Push),
(k_push_Fixed, n_push_Fixed),
(k_push_Inductive, n_push_Inductive),
(k_push_Invariant, n_push_Invariant),
(k_law40_alive, n_law40_alive),
(k_unroll_Of, n_unroll_Of),
(k_solve_Run, n_solve_Run),
(k_unroll_Trace, n_unroll_Trace),
(k_frames_asked, n_frames_asked),
(k_frames_all, n_frames_all),
(k_clause_Check, n_clause_Check),
(k_slices_ContainsFunc_of_Lint, n_slices_ContainsFunc_of_Lint),
(k_frames_Put_1, n_frames_Put_1),
(k_frames_part, n_frames_part),
(k_frames_count, n_frames_count),
(k_slices_ContainsFunc_of_int, n_slices_ContainsFunc_of_int),
(k_gates_Check, n_gates_Check),
(k_frames_begun, n_frames_begun),
(k_frames_asks_put, n_frames_asks_put),
(k_frames_told, n_frames_told),
(k_frames_Before_1, n_frames_Before_1),
(k_frames_asks_latch, n_frames_asks_latch),
(k_frames_asks_lit, n_frames_asks_lit),
(k_frames_asks_step, n_frames_asks_step),
(k_ref13_SameAll, n_ref13_SameAll),
(k_shrink_first, n_shrink_first),
(k_push_asked, n_push_asked),
(k_push_turned, n_push_turned),
(k_push_Push_1, n_push_Push_1),
(k_slices_Equal_of_int, n_slices_Equal_of_int),
(k_slices_IndexFunc_of_LLint, n_slices_IndexFunc_of_LLint),
(k_push_Fixed_1, n_push_Fixed_1),
(k_preds_Check, n_preds_Check),
(k_preds_Put, n_preds_Put),
(k_push_ask, n_push_ask),
(k_preds_Clauses, n_preds_Clauses),
(k_unroll_made, n_unroll_made),
(k_slices_Sort_of_int, n_slices_Sort_of_int),
(k_slices_Compact_of_int, n_slices_Compact_of_int),
(k_solve_check, n_solve_check),
(k_unit_Run, n_unit_Run),
(k_solve_solver_fail, n_solve_solver_fail),
(k_solve_solver_choose, n_solve_solver_choose),
(k_solve_solver_model, n_solve_solver_model),
(k_gates_Vars, n_gates_Vars),
(k_tseitin_Check, n_tseitin_Check),
(k_unroll_value, n_unroll_value),
(k_clause_known, n_clause_known),
(k_slices_IndexFunc_of_Lint, n_slices_IndexFunc_of_Lint),
(k_slices_BinarySearch_of_int, n_slices_BinarySearch_of_int),
(k_slices_IndexFunc_of_int, n_slices_IndexFunc_of_int),
(k_gates_starts, n_gates_starts),
(k_gates_Check_1, n_gates_Check_1),
(k_gates_Check_2, n_gates_Check_2),
(k_slices_ContainsFunc_of_api_Latch, n_slices_ContainsFunc_of_api_Latch),
(k_unroll_Free, n_unroll_Free),
(k_shrink_first_1, n_shrink_first_1),
(k_preds_Put_1, n_preds_Put_1),
(k_preds_builder_put, n_preds_builder_put),
(k_push_put, n_push_put),
(k_preds_over, n_preds_over),
(k_preds_builder_and, n_preds_builder_and),
(k_preds_builder_pred, n_preds_builder_pred),
(k_unroll_frames_frame, n_unroll_frames_frame),
(k_unroll_lit, n_unroll_lit),
(k_slices_pdqsortOrdered_of_int, n_slices_pdqsortOrdered_of_int),
(k_bits_Len, n_bits_Len),
(k_assign_Check, n_assign_Check),
(k_unit_values, n_unit_values),
(k_unit_next, n_unit_next),
(k_learn_Clause, n_learn_Clause),
(k_solve_solver_learn, n_solve_solver_learn),
(k_jump_Back, n_jump_Back),
(k_decide_Next, n_decide_Next),
(k_cmp_Less_of_int, n_cmp_Less_of_int),
(k_slices_isNaN_of_int, n_slices_isNaN_of_int),
(k_slices_IndexFunc_of_api_Latch, n_slices_IndexFunc_of_api_Latch),
(k_preds_builder_put_1, n_preds_builder_put_1),
(k_preds_over_1, n_preds_over_1),
(k_lits_And, n_lits_And),
(k_slices_Index_of_api_And, n_slices_Index_of_api_And),
(k_unroll_frames_fresh, n_unroll_frames_fresh),
(k_unroll_frames_add, n_unroll_frames_add),
(k_slices_insertionSortOrdered_of_int, n_slices_insertionSortOrdered_of_int),
(k_slices_heapSortOrdered_of_int, n_slices_heapSortOrdered_of_int),
(k_slices_breakPatternsOrdered_of_int, n_slices_breakPatternsOrdered_of_int),
(k_slices_choosePivotOrdered_of_int, n_slices_choosePivotOrdered_of_int),
(k_slices_reverseRangeOrdered_of_int, n_slices_reverseRangeOrdered_of_int),
(k_slices_partialInsertionSortOrdered_of_int, n_slices_partialInsertionSortOrdered_of_int),
(k_slices_partitionEqualOrdered_of_int, n_slices_partitionEqualOrdered_of_int),
(k_slices_partitionOrdered_of_int, n_slices_partitionOrdered_of_int),
(k_bits_Len32, n_bits_Len32),
(k_bits_Len64, n_bits_Len64),
(k_assign_known, n_assign_known),
(k_unit_state, n_unit_state),
(k_learn_check, n_learn_check),
(k_learn_conflict, n_learn_conflict),
(k_slices_Index_of_int, n_slices_Index_of_int),
(k_jump_levels, n_jump_levels),
(k_jump_second, n_jump_second),
(k_assign_Undo, n_assign_Undo),
(k_assign_Imply, n_assign_Imply),
(k_decide_Check, n_decide_Check),
(k_decide_pop, n_decide_pop),
(k_cmp_isNaN_of_int, n_cmp_isNaN_of_int),
(k_lits_check, n_lits_check),
(k_clause_Make, n_clause_Make),
(k_slices_siftDownOrdered_of_int, n_slices_siftDownOrdered_of_int),
(k_slices_nextPowerOfTwo, n_slices_nextPowerOfTwo),
(k_slices_xorshift_Next, n_slices_xorshift_Next),
(k_slices_medianAdjacentOrdered_of_int, n_slices_medianAdjacentOrdered_of_int),
(k_slices_medianOrdered_of_int, n_slices_medianOrdered_of_int),
(k_unit_State, n_unit_State),
(k_assign_Level, n_assign_Level),
(k_jump_levels_1, n_jump_levels_1),
(k_cmp_Compare_of_int, n_cmp_Compare_of_int),
(k_slices_SortFunc_of_jump_at, n_slices_SortFunc_of_jump_at),
(k_assign_put, n_assign_put),
(k_slices_order2Ordered_of_int, n_slices_order2Ordered_of_int),
(k_assign_open, n_assign_open),
(k_assign_Level_1, n_assign_Level_1),
(k_slices_pdqsortCmpFunc_of_jump_at, n_slices_pdqsortCmpFunc_of_jump_at),
(k_slices_Contains_of_int, n_slices_Contains_of_int),
(k_slices_insertionSortCmpFunc_of_jump_at, n_slices_insertionSortCmpFunc_of_jump_at),
(k_slices_heapSortCmpFunc_of_jump_at, n_slices_heapSortCmpFunc_of_jump_at),
(k_slices_breakPatternsCmpFunc_of_jump_at, n_slices_breakPatternsCmpFunc_of_jump_at),
(k_slices_choosePivotCmpFunc_of_jump_at, n_slices_choosePivotCmpFunc_of_jump_at),
(k_slices_reverseRangeCmpFunc_of_jump_at, n_slices_reverseRangeCmpFunc_of_jump_at),
(k_slices_partialInsertionSortCmpFunc_of_jump_at, n_slices_partialInsertionSortCmpFunc_of_jump_at),
(k_slices_partitionEqualCmpFunc_of_jump_at, n_slices_partitionEqualCmpFunc_of_jump_at),
(k_slices_partitionCmpFunc_of_jump_at, n_slices_partitionCmpFunc_of_jump_at),
(k_slices_siftDownCmpFunc_of_jump_at, n_slices_siftDownCmpFunc_of_jump_at),
(k_slices_medianAdjacentCmpFunc_of_jump_at, n_slices_medianAdjacentCmpFunc_of_jump_at),
(k_slices_medianCmpFunc_of_jump_at, n_slices_medianCmpFunc_of_jump_at),
(k_slices_order2CmpFunc_of_jump_at, n_slices_order2CmpFunc_of_jump_at)]
def fnOf (f : Nat) : Option Fn := lk fnList f
theorem fn_law40_PushNames : fnOf k_law40_PushNames = some n_law40_PushNames := by kernel_rfl
theorem fn_frames_Clauses : fnOf k_frames_Clauses = some n_frames_Clauses := by kernel_rfl
theorem fn_frames_Put : fnOf k_frames_Put = some n_frames_Put := by kernel_rfl
theorem fn_frames_Check : fnOf k_frames_Check = some n_frames_Check := by kernel_rfl
theorem fn_frames_Before : fnOf k_frames_Before = some n_frames_Before := by kernel_rfl
theorem fn_ref37_Same : fnOf k_ref37_Same = some n_ref37_Same := by kernel_rfl
theorem fn_ref13_Same : fnOf k_ref13_Same = some n_ref13_Same := by kernel_rfl
theorem fn_shrink_First : fnOf k_shrink_First = some n_shrink_First := by kernel_rfl
theorem fn_law40_stays : fnOf k_law40_stays = some n_law40_stays := by kernel_rfl
theorem fn_push_Sound : fnOf k_push_Sound = some n_push_Sound := by kernel_rfl
theorem fn_push_Push : fnOf k_push_Push = some n_push_Push := by kernel_rfl
theorem fn_push_Fixed : fnOf k_push_Fixed = some n_push_Fixed := by kernel_rfl
theorem fn_push_Inductive : fnOf k_push_Inductive = some n_push_Inductive := by kernel_rfl
theorem fn_push_Invariant : fnOf k_push_Invariant = some n_push_Invariant := by kernel_rfl
theorem fn_law40_alive : fnOf k_law40_alive = some n_law40_alive := by kernel_rfl
theorem fn_unroll_Of : fnOf k_unroll_Of = some n_unroll_Of := by kernel_rfl
theorem fn_solve_Run : fnOf k_solve_Run = some n_solve_Run := by kernel_rfl
theorem fn_unroll_Trace : fnOf k_unroll_Trace = some n_unroll_Trace := by kernel_rfl
theorem fn_frames_asked : fnOf k_frames_asked = some n_frames_asked := by kernel_rfl
theorem fn_frames_all : fnOf k_frames_all = some n_frames_all := by kernel_rfl
theorem fn_clause_Check : fnOf k_clause_Check = some n_clause_Check := by kernel_rfl
theorem fn_slices_ContainsFunc_of_Lint : fnOf k_slices_ContainsFunc_of_Lint = some n_slices_ContainsFunc_of_Lint := by kernel_rfl
theorem fn_frames_Put_1 : fnOf k_frames_Put_1 = some n_frames_Put_1 := by kernel_rfl
theorem fn_frames_part : fnOf k_frames_part = some n_frames_part := by kernel_rfl
theorem fn_frames_count : fnOf k_frames_count = some n_frames_count := by kernel_rfl
theorem fn_slices_ContainsFunc_of_int : fnOf k_slices_ContainsFunc_of_int = some n_slices_ContainsFunc_of_int := by kernel_rfl
theorem fn_gates_Check : fnOf k_gates_Check = some n_gates_Check := by kernel_rfl
theorem fn_frames_begun : fnOf k_frames_begun = some n_frames_begun := by kernel_rfl
theorem fn_frames_asks_put : fnOf k_frames_asks_put = some n_frames_asks_put := by kernel_rfl
theorem fn_frames_told : fnOf k_frames_told = some n_frames_told := by kernel_rfl
theorem fn_frames_Before_1 : fnOf k_frames_Before_1 = some n_frames_Before_1 := by kernel_rfl
theorem fn_frames_asks_latch : fnOf k_frames_asks_latch = some n_frames_asks_latch := by kernel_rfl
theorem fn_frames_asks_lit : fnOf k_frames_asks_lit = some n_frames_asks_lit := by kernel_rfl
theorem fn_frames_asks_step : fnOf k_frames_asks_step = some n_frames_asks_step := by kernel_rfl
theorem fn_ref13_SameAll : fnOf k_ref13_SameAll = some n_ref13_SameAll := by kernel_rfl
theorem fn_shrink_first : fnOf k_shrink_first = some n_shrink_first := by kernel_rfl
theorem fn_push_asked : fnOf k_push_asked = some n_push_asked := by kernel_rfl
theorem fn_push_turned : fnOf k_push_turned = some n_push_turned := by kernel_rfl
theorem fn_push_Push_1 : fnOf k_push_Push_1 = some n_push_Push_1 := by kernel_rfl
theorem fn_slices_Equal_of_int : fnOf k_slices_Equal_of_int = some n_slices_Equal_of_int := by kernel_rfl
theorem fn_slices_IndexFunc_of_LLint : fnOf k_slices_IndexFunc_of_LLint = some n_slices_IndexFunc_of_LLint := by kernel_rfl
theorem fn_push_Fixed_1 : fnOf k_push_Fixed_1 = some n_push_Fixed_1 := by kernel_rfl
theorem fn_preds_Check : fnOf k_preds_Check = some n_preds_Check := by kernel_rfl
theorem fn_preds_Put : fnOf k_preds_Put = some n_preds_Put := by kernel_rfl
theorem fn_push_ask : fnOf k_push_ask = some n_push_ask := by kernel_rfl
theorem fn_preds_Clauses : fnOf k_preds_Clauses = some n_preds_Clauses := by kernel_rfl
theorem fn_unroll_made : fnOf k_unroll_made = some n_unroll_made := by kernel_rfl
theorem fn_slices_Sort_of_int : fnOf k_slices_Sort_of_int = some n_slices_Sort_of_int := by kernel_rfl
theorem fn_slices_Compact_of_int : fnOf k_slices_Compact_of_int = some n_slices_Compact_of_int := by kernel_rfl
theorem fn_solve_check : fnOf k_solve_check = some n_solve_check := by kernel_rfl
theorem fn_unit_Run : fnOf k_unit_Run = some n_unit_Run := by kernel_rfl
theorem fn_solve_solver_fail : fnOf k_solve_solver_fail = some n_solve_solver_fail := by kernel_rfl
theorem fn_solve_solver_choose : fnOf k_solve_solver_choose = some n_solve_solver_choose := by kernel_rfl
theorem fn_solve_solver_model : fnOf k_solve_solver_model = some n_solve_solver_model := by kernel_rfl
theorem fn_gates_Vars : fnOf k_gates_Vars = some n_gates_Vars := by kernel_rfl
theorem fn_tseitin_Check : fnOf k_tseitin_Check = some n_tseitin_Check := by kernel_rfl
theorem fn_unroll_value : fnOf k_unroll_value = some n_unroll_value := by kernel_rfl
theorem fn_clause_known : fnOf k_clause_known = some n_clause_known := by kernel_rfl
theorem fn_slices_IndexFunc_of_Lint : fnOf k_slices_IndexFunc_of_Lint = some n_slices_IndexFunc_of_Lint := by kernel_rfl
theorem fn_slices_BinarySearch_of_int : fnOf k_slices_BinarySearch_of_int = some n_slices_BinarySearch_of_int := by kernel_rfl
theorem fn_slices_IndexFunc_of_int : fnOf k_slices_IndexFunc_of_int = some n_slices_IndexFunc_of_int := by kernel_rfl
theorem fn_gates_starts : fnOf k_gates_starts = some n_gates_starts := by kernel_rfl
theorem fn_gates_Check_1 : fnOf k_gates_Check_1 = some n_gates_Check_1 := by kernel_rfl
theorem fn_gates_Check_2 : fnOf k_gates_Check_2 = some n_gates_Check_2 := by kernel_rfl
theorem fn_slices_ContainsFunc_of_api_Latch : fnOf k_slices_ContainsFunc_of_api_Latch = some n_slices_ContainsFunc_of_api_Latch := by kernel_rfl
theorem fn_unroll_Free : fnOf k_unroll_Free = some n_unroll_Free := by kernel_rfl
theorem fn_shrink_first_1 : fnOf k_shrink_first_1 = some n_shrink_first_1 := by kernel_rfl
theorem fn_preds_Put_1 : fnOf k_preds_Put_1 = some n_preds_Put_1 := by kernel_rfl
theorem fn_preds_builder_put : fnOf k_preds_builder_put = some n_preds_builder_put := by kernel_rfl
theorem fn_push_put : fnOf k_push_put = some n_push_put := by kernel_rfl
theorem fn_preds_over : fnOf k_preds_over = some n_preds_over := by kernel_rfl
theorem fn_preds_builder_and : fnOf k_preds_builder_and = some n_preds_builder_and := by kernel_rfl
theorem fn_preds_builder_pred : fnOf k_preds_builder_pred = some n_preds_builder_pred := by kernel_rfl
theorem fn_unroll_frames_frame : fnOf k_unroll_frames_frame = some n_unroll_frames_frame := by kernel_rfl
theorem fn_unroll_lit : fnOf k_unroll_lit = some n_unroll_lit := by kernel_rfl
theorem fn_slices_pdqsortOrdered_of_int : fnOf k_slices_pdqsortOrdered_of_int = some n_slices_pdqsortOrdered_of_int := by kernel_rfl
theorem fn_bits_Len : fnOf k_bits_Len = some n_bits_Len := by kernel_rfl
theorem fn_assign_Check : fnOf k_assign_Check = some n_assign_Check := by kernel_rfl
theorem fn_unit_values : fnOf k_unit_values = some n_unit_values := by kernel_rfl
theorem fn_unit_next : fnOf k_unit_next = some n_unit_next := by kernel_rfl
theorem fn_learn_Clause : fnOf k_learn_Clause = some n_learn_Clause := by kernel_rfl
theorem fn_solve_solver_learn : fnOf k_solve_solver_learn = some n_solve_solver_learn := by kernel_rfl
theorem fn_jump_Back : fnOf k_jump_Back = some n_jump_Back := by kernel_rfl
theorem fn_decide_Next : fnOf k_decide_Next = some n_decide_Next := by kernel_rfl
theorem fn_cmp_Less_of_int : fnOf k_cmp_Less_of_int = some n_cmp_Less_of_int := by kernel_rfl
theorem fn_slices_isNaN_of_int : fnOf k_slices_isNaN_of_int = some n_slices_isNaN_of_int := by kernel_rfl
theorem fn_slices_IndexFunc_of_api_Latch : fnOf k_slices_IndexFunc_of_api_Latch = some n_slices_IndexFunc_of_api_Latch := by kernel_rfl
theorem fn_preds_builder_put_1 : fnOf k_preds_builder_put_1 = some n_preds_builder_put_1 := by kernel_rfl
theorem fn_preds_over_1 : fnOf k_preds_over_1 = some n_preds_over_1 := by kernel_rfl
theorem fn_lits_And : fnOf k_lits_And = some n_lits_And := by kernel_rfl
theorem fn_slices_Index_of_api_And : fnOf k_slices_Index_of_api_And = some n_slices_Index_of_api_And := by kernel_rfl
theorem fn_unroll_frames_fresh : fnOf k_unroll_frames_fresh = some n_unroll_frames_fresh := by kernel_rfl
theorem fn_unroll_frames_add : fnOf k_unroll_frames_add = some n_unroll_frames_add := by kernel_rfl
theorem fn_slices_insertionSortOrdered_of_int : fnOf k_slices_insertionSortOrdered_of_int = some n_slices_insertionSortOrdered_of_int := by kernel_rfl
theorem fn_slices_heapSortOrdered_of_int : fnOf k_slices_heapSortOrdered_of_int = some n_slices_heapSortOrdered_of_int := by kernel_rfl
theorem fn_slices_breakPatternsOrdered_of_int : fnOf k_slices_breakPatternsOrdered_of_int = some n_slices_breakPatternsOrdered_of_int := by kernel_rfl
theorem fn_slices_choosePivotOrdered_of_int : fnOf k_slices_choosePivotOrdered_of_int = some n_slices_choosePivotOrdered_of_int := by kernel_rfl
theorem fn_slices_reverseRangeOrdered_of_int : fnOf k_slices_reverseRangeOrdered_of_int = some n_slices_reverseRangeOrdered_of_int := by kernel_rfl
theorem fn_slices_partialInsertionSortOrdered_of_int : fnOf k_slices_partialInsertionSortOrdered_of_int = some n_slices_partialInsertionSortOrdered_of_int := by kernel_rfl
theorem fn_slices_partitionEqualOrdered_of_int : fnOf k_slices_partitionEqualOrdered_of_int = some n_slices_partitionEqualOrdered_of_int := by kernel_rfl
theorem fn_slices_partitionOrdered_of_int : fnOf k_slices_partitionOrdered_of_int = some n_slices_partitionOrdered_of_int := by kernel_rfl
theorem fn_bits_Len32 : fnOf k_bits_Len32 = some n_bits_Len32 := by kernel_rfl
theorem fn_bits_Len64 : fnOf k_bits_Len64 = some n_bits_Len64 := by kernel_rfl
theorem fn_assign_known : fnOf k_assign_known = some n_assign_known := by kernel_rfl
theorem fn_unit_state : fnOf k_unit_state = some n_unit_state := by kernel_rfl
theorem fn_learn_check : fnOf k_learn_check = some n_learn_check := by kernel_rfl
theorem fn_learn_conflict : fnOf k_learn_conflict = some n_learn_conflict := by kernel_rfl
theorem fn_slices_Index_of_int : fnOf k_slices_Index_of_int = some n_slices_Index_of_int := by kernel_rfl
theorem fn_jump_levels : fnOf k_jump_levels = some n_jump_levels := by kernel_rfl
theorem fn_jump_second : fnOf k_jump_second = some n_jump_second := by kernel_rfl
theorem fn_assign_Undo : fnOf k_assign_Undo = some n_assign_Undo := by kernel_rfl
theorem fn_assign_Imply : fnOf k_assign_Imply = some n_assign_Imply := by kernel_rfl
theorem fn_decide_Check : fnOf k_decide_Check = some n_decide_Check := by kernel_rfl
theorem fn_decide_pop : fnOf k_decide_pop = some n_decide_pop := by kernel_rfl
theorem fn_cmp_isNaN_of_int : fnOf k_cmp_isNaN_of_int = some n_cmp_isNaN_of_int := by kernel_rfl
theorem fn_lits_check : fnOf k_lits_check = some n_lits_check := by kernel_rfl
theorem fn_clause_Make : fnOf k_clause_Make = some n_clause_Make := by kernel_rfl
theorem fn_slices_siftDownOrdered_of_int : fnOf k_slices_siftDownOrdered_of_int = some n_slices_siftDownOrdered_of_int := by kernel_rfl
theorem fn_slices_nextPowerOfTwo : fnOf k_slices_nextPowerOfTwo = some n_slices_nextPowerOfTwo := by kernel_rfl
theorem fn_slices_xorshift_Next : fnOf k_slices_xorshift_Next = some n_slices_xorshift_Next := by kernel_rfl
theorem fn_slices_medianAdjacentOrdered_of_int : fnOf k_slices_medianAdjacentOrdered_of_int = some n_slices_medianAdjacentOrdered_of_int := by kernel_rfl
theorem fn_slices_medianOrdered_of_int : fnOf k_slices_medianOrdered_of_int = some n_slices_medianOrdered_of_int := by kernel_rfl
theorem fn_unit_State : fnOf k_unit_State = some n_unit_State := by kernel_rfl
theorem fn_assign_Level : fnOf k_assign_Level = some n_assign_Level := by kernel_rfl
theorem fn_jump_levels_1 : fnOf k_jump_levels_1 = some n_jump_levels_1 := by kernel_rfl
theorem fn_cmp_Compare_of_int : fnOf k_cmp_Compare_of_int = some n_cmp_Compare_of_int := by kernel_rfl
theorem fn_slices_SortFunc_of_jump_at : fnOf k_slices_SortFunc_of_jump_at = some n_slices_SortFunc_of_jump_at := by kernel_rfl
theorem fn_assign_put : fnOf k_assign_put = some n_assign_put := by kernel_rfl
theorem fn_slices_order2Ordered_of_int : fnOf k_slices_order2Ordered_of_int = some n_slices_order2Ordered_of_int := by kernel_rfl
theorem fn_assign_open : fnOf k_assign_open = some n_assign_open := by kernel_rfl
theorem fn_assign_Level_1 : fnOf k_assign_Level_1 = some n_assign_Level_1 := by kernel_rfl
theorem fn_slices_pdqsortCmpFunc_of_jump_at : fnOf k_slices_pdqsortCmpFunc_of_jump_at = some n_slices_pdqsortCmpFunc_of_jump_at := by kernel_rfl
theorem fn_slices_Contains_of_int : fnOf k_slices_Contains_of_int = some n_slices_Contains_of_int := by kernel_rfl
theorem fn_slices_insertionSortCmpFunc_of_jump_at : fnOf k_slices_insertionSortCmpFunc_of_jump_at = some n_slices_insertionSortCmpFunc_of_jump_at := by kernel_rfl
theorem fn_slices_heapSortCmpFunc_of_jump_at : fnOf k_slices_heapSortCmpFunc_of_jump_at = some n_slices_heapSortCmpFunc_of_jump_at := by kernel_rfl
theorem fn_slices_breakPatternsCmpFunc_of_jump_at : fnOf k_slices_breakPatternsCmpFunc_of_jump_at = some n_slices_breakPatternsCmpFunc_of_jump_at := by kernel_rfl
theorem fn_slices_choosePivotCmpFunc_of_jump_at : fnOf k_slices_choosePivotCmpFunc_of_jump_at = some n_slices_choosePivotCmpFunc_of_jump_at := by kernel_rfl
theorem fn_slices_reverseRangeCmpFunc_of_jump_at : fnOf k_slices_reverseRangeCmpFunc_of_jump_at = some n_slices_reverseRangeCmpFunc_of_jump_at := by kernel_rfl
theorem fn_slices_partialInsertionSortCmpFunc_of_jump_at : fnOf k_slices_partialInsertionSortCmpFunc_of_jump_at = some n_slices_partialInsertionSortCmpFunc_of_jump_at := by kernel_rfl
theorem fn_slices_partitionEqualCmpFunc_of_jump_at : fnOf k_slices_partitionEqualCmpFunc_of_jump_at = some n_slices_partitionEqualCmpFunc_of_jump_at := by kernel_rfl
theorem fn_slices_partitionCmpFunc_of_jump_at : fnOf k_slices_partitionCmpFunc_of_jump_at = some n_slices_partitionCmpFunc_of_jump_at := by kernel_rfl
theorem fn_slices_siftDownCmpFunc_of_jump_at : fnOf k_slices_siftDownCmpFunc_of_jump_at = some n_slices_siftDownCmpFunc_of_jump_at := by kernel_rfl
theorem fn_slices_medianAdjacentCmpFunc_of_jump_at : fnOf k_slices_medianAdjacentCmpFunc_of_jump_at = some n_slices_medianAdjacentCmpFunc_of_jump_at := by kernel_rfl
theorem fn_slices_medianCmpFunc_of_jump_at : fnOf k_slices_medianCmpFunc_of_jump_at = some n_slices_medianCmpFunc_of_jump_at := by kernel_rfl
theorem fn_slices_order2CmpFunc_of_jump_at : fnOf k_slices_order2CmpFunc_of_jump_at = some n_slices_order2CmpFunc_of_jump_at := by kernel_rfl
theorem fn_slices_Clone_of_int : fnOf k_slices_Clone_of_int = none := by kernel_rfl
theorem fn_slices_Delete_of_int : fnOf k_slices_Delete_of_int = none := by kernel_rfl
theorem fn_slices_Clone_of_Lint : fnOf k_slices_Clone_of_Lint = none := by kernel_rfl
theorem fn_slices_Clone_of_api_And : fnOf k_slices_Clone_of_api_And = none := by kernel_rfl
theorem fn_slices_Clone_of_api_Latch : fnOf k_slices_Clone_of_api_Latch = none := by kernel_rfl
end Go.Proofs.YtcgjebaomhfbdaaGreat.Vm
