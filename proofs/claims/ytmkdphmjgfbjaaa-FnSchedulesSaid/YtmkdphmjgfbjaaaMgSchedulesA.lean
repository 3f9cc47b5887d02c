/-
 The compiled code of functions of the seat (written by mkcode.py). No condition.
-/
import Derived.Test.YtmkdphmjgfbjaaaLiftK
import Derived.Test.YtmkdphmjgfbjaaaProg
import Derived.KernelRfl
import Derived.Test.YtmkdphmjgfbjaaaLiftW
import Derived.Test.YtmkdphmjgfbjaaaLiftE
namespace Go.Proofs.Ytmkdphmjgfbjaaa
open Go.Lift
def C_laws_FnSchedules : Fun := ⟨1, 90,
 .seq (
 .reg [iI 2 (.mv (.c (.d (.bool false))))]) (
 .seq (
 .seq (
 .reg [iM 13 0, iI 14 (.len (.t 13)), iI 15 (.bin .gtr (.t 14) (.c (.d (.int 1048576))))]) (
 .cond (.t 15) (
 .seq (
 .reg [iI 2 (.mv (.c (.d (.bool true))))]) (
 .ret)) (
 .skip))) (
 .seq (
 .reg [iM 16 0, iI 17 (.call 4 [(.t 16), (.c (.d (.int 0)))]), iI 3 (.zer [.d (.int 0), .d (.int 0), .d (.int 0)]),
 ⟨none, none, .st 3 (.t 3) (.t 17)⟩]) (
 .seq (
 .reg [iM 18 0, iI 19 (.ldn 3 (.t 3)), iI 20 (.call 5 [(.t 18), (.c (.d (.int 10))), (.t 19), (.c (.d (.int 5)))]), iI 4 (.zer [.d (.int 0), .d (.int 0), .d (.int 0), .nil, .nil]),
 ⟨none, none, .st 5 (.t 4) (.t 20)⟩]) (
 .seq (
 .reg [iM 21 0, iI 22 (.ldn 5 (.t 4)), iI 23 (.call 6 [(.t 21), (.c (.d (.int 100))), (.t 22)]), iM 5 23]) (
 .seq (
 .reg [iM 24 0, iI 25 (.call 7 [(.t 24), (.c (.d (.int 110))), (.c (.d (.int 1))), (.c (.d (.int 4)))]), iM 6 25]) (
 .seq (
 .reg [iI 27 (.ldn 5 (.t 4)), iM 28 5, iM 29 6, iI 30 (.call 8 [(.t 27), (.t 28), (.t 29)]), iM 26 30, iI 31 (.ext 0 (.t 26)), iI 32 (.ext 1 (.t 26)), iM 7 31, iM 8 32]) (
 .seq (
 .reg [iI 34 (.ldn 5 (.t 4)), iM 35 5, iI 36 (.call 8 [(.t 34), (.t 35), (.c (.d (.int 1)))]), iM 33 36, iI 37 (.ext 0 (.t 33)), iI 38 (.ext 1 (.t 33)), iM 9 37, iM 10 38]) (
 .seq (
 .reg [iI 39 (.ldn 5 (.t 4)), iM 40 5, iM 41 7, iI 42 (.call 9 [(.t 39), (.t 40), (.t 41)]), iM 11 42]) (
 .seq (
 .reg [iI 43 (.ldn 5 (.t 4)), iM 44 5, iI 45 (.call 10 [(.t 43), (.t 44)]), iM 12 45]) (
 .seq (
 .reg [iM 46 8, iM 47 46, iG 48 47 true (.mv (.t 10)), iI 49 (.pick (.t 47) (.t 48) (.c (.d (.bool false)))), iM 50 49, iG 51 50 true (.ldn 5 (.t 4)), iG 52 50 true (.mv (.t 5)), iG 53 50 true (.mv (.t 6)), iG 54 50 true (.mv (.t 7)), iG 55 50 true (.call 11 [(.t 51), (.t 52), (.t 53), (.t 54)]), iI 56 (.pick (.t 50) (.t 55) (.c (.d (.bool false)))), iM 57 56, iG 58 57 true (.ldn 5 (.t 4)), iG 59 57 true (.mv (.t 5)), iG 60 57 true (.mv (.t 9)), iG 61 57 true (.call 11 [(.t 58), (.t 59), (.c (.d (.int 1))), (.t 60)]), iI 62 (.pick (.t 57) (.t 61) (.c (.d (.bool false)))), iM 63 62, iG 64 63 true (.ldn 5 (.t 4)), iG 65 63 true (.mv (.t 5)), iG 66 63 true (.mv (.t 9)), iG 67 63 true (.call 9 [(.t 64), (.t 65), (.t 66)]), iG 68 63 true (.mv (.t 12)), iG 69 63 true (.bin .eql (.t 67) (.t 68)), iI 70 (.pick (.t 63) (.t 69) (.c (.d (.bool false)))), iM 71 70, iG 72 71 true (.mv (.t 11)), iG 73 71 true (.ldn 5 (.t 4)), iG 74 71 true (.mv (.t 5)), iG 75 71 true (.call 12 [(.t 73), (.t 74)]), iG 76 71 true (.bin .geq (.t 72) (.t 75)), iI 77 (.pick (.t 71) (.t 76) (.c (.d (.bool false)))), iM 78 77, iG 79 78 true (.mv (.t 11)), iG 80 78 true (.mv (.t 6)), iG 81 78 true (.bin .mul (.t 79) (.t 80)), iG 82 78 true (.mv (.t 12)), iG 83 78 true (.bin .geq (.t 81) (.t 82)), iI 84 (.pick (.t 78) (.t 83) (.c (.d (.bool false)))), iM 85 84, iG 86 85 true (.mv (.t 11)), iG 87 85 true (.mv (.t 12)), iG 88 85 true (.bin .leq (.t 86) (.t 87)), iI 89 (.pick (.t 85) (.t 88) (.c (.d (.bool false)))), iM 2 89]) (
 .ret))))))))))),
 [.t 2]⟩
theorem k_laws_FnSchedules : cFun Try.prog Try.f3 = some C_laws_FnSchedules.erase := by kernel_rfl
def L0_impl_ListSchedule : C :=
 .seq (
 .reg [iI 119 (.bin .lss (.t 118) (.t 117))]) (
 .seq (
 .cond (.t 119) (
 .skip) (
 .exit 8)) (
 .seq (
 .block 9 (
 .seq (
 .reg [iM 120 118, iM 19 120]) (
 .seq (
 .draw [iI 121 (.ld (.t 10)), iM 122 19, iI 123 (.idx 1 (.t 121) (.t 122)), iI 124 (.ld (.t 123)), iI 125 (.ld (.t 8)), iM 126 19, iI 127 (.idx 1 (.t 125) (.t 126)), iI 128 (.ld (.t 127))]
 [iI 129 (.bin .add (.t 124) (.t 128)), iM 20 129]) (
 .seq (
 .reg [iI 130 (.ld (.t 10)), iM 131 19, iI 132 (.idx 1 (.t 130) (.t 131)), iI 133 (.ld (.t 132)), iI 134 (.bin .geq (.t 133) (.c (.d (.int 0)))), iM 135 134, iG 136 135 true (.mv (.t 20)), iG 137 135 true (.mv (.t 13)), iG 138 135 true (.bin .gtr (.t 136) (.t 137)), iI 139 (.pick (.t 135) (.t 138) (.c (.d (.bool false)))), iM 140 139, iG 141 140 true (.mv (.t 18)), iG 142 140 true (.bin .lss (.t 141) (.c (.d (.int 0)))), iG 143 140 true (.mv (.t 142)), iG 144 143 false (.mv (.t 20)), iG 145 143 false (.mv (.t 18)), iG 146 143 false (.bin .lss (.t 144) (.t 145)), iG 147 140 true (.pick (.t 143) (.c (.d (.bool true))) (.t 146)), iI 148 (.pick (.t 140) (.t 147) (.c (.d (.bool false))))]) (
 .cond (.t 148) (
 .reg [iM 149 20, iM 18 149]) (
 .skip)))))) (
 .reg [iI 150 (.bin .add (.t 118) (.c (.d (.int 1)))), iM 118 150])))
def L1_impl_ListSchedule : C :=
 .seq (
 .reg [iI 81 (.bin .lss (.t 80) (.t 79))]) (
 .seq (
 .cond (.t 81) (
 .skip) (
 .exit 6)) (
 .seq (
 .block 7 (
 .seq (
 .reg [iM 82 80, iI 83 (.idx 2 (.t 78) (.t 80)), iI 84 (.ldn 2 (.t 83)), iI 17 (.zer [.d (.int 0), .d (.int 0)]), iM 16 82,
 ⟨none, none, .st 2 (.t 17) (.t 84)⟩]) (
 .seq (
 .reg [iM 85 14, iM 86 2, iI 87 (.bin .lss (.t 85) (.t 86)), iM 88 87, iG 89 88 true (.ld (.t 10)), iG 90 88 true (.mv (.t 16)), iG 91 88 true (.idx 1 (.t 89) (.t 90)), iG 92 88 true (.ld (.t 91)), iG 93 88 true (.bin .lss (.t 92) (.c (.d (.int 0)))), iI 94 (.pick (.t 88) (.t 93) (.c (.d (.bool false)))), iM 95 94, iG 96 95 true (.mv (.t 12)), iG 97 95 true (.fld 0 (.t 17)), iG 98 95 true (.ld (.t 97)), iG 99 95 true (.mv (.t 13)), iG 100 95 true (.cvl (.t 96) [(.t 98), (.t 99)]), iI 101 (.pick (.t 95) (.t 100) (.c (.d (.bool false)))), iM 102 101, iG 103 102 true (.mv (.t 12)), iG 104 102 true (.fld 1 (.t 17)), iG 105 102 true (.ld (.t 104)), iG 106 102 true (.mv (.t 13)), iG 107 102 true (.cvl (.t 103) [(.t 105), (.t 106)]), iI 108 (.pick (.t 102) (.t 107) (.c (.d (.bool false))))]) (
 .cond (.t 108) (
 .seq (
 .reg [iI 109 (.ld (.t 10)), iM 110 16, iM 111 13, iI 112 (.idx 1 (.t 109) (.t 110)),
 ⟨none, none, .st 1 (.t 112) (.t 111)⟩]) (
 .reg [iM 113 14, iI 114 (.bin .add (.t 113) (.c (.d (.int 1)))), iM 14 114])) (
 .skip))))) (
 .reg [iI 115 (.bin .add (.t 80) (.c (.d (.int 1)))), iM 80 115])))
def L2_impl_ListSchedule : C :=
 .seq (
 .reg [iI 55 (.bin .lss (.t 54) (.t 53))]) (
 .seq (
 .cond (.t 55) (
 .skip) (
 .exit 4)) (
 .seq (
 .block 5 (
 .seq (
 .reg [iM 56 54, iM 15 56]) (
 .seq (
 .draw [iI 57 (.ld (.t 10)), iM 58 15, iI 59 (.idx 1 (.t 57) (.t 58)), iI 60 (.ld (.t 59)), iI 61 (.bin .geq (.t 60) (.c (.d (.int 0)))), iM 62 61, iG 63 62 true (.ld (.t 10)), iG 64 62 true (.mv (.t 15)), iG 65 62 true (.idx 1 (.t 63) (.t 64)), iG 66 62 true (.ld (.t 65)), iG 67 62 true (.ld (.t 8)), iG 68 62 true (.mv (.t 15)), iG 69 62 true (.idx 1 (.t 67) (.t 68)), iG 70 62 true (.ld (.t 69)), iG 71 62 true (.bin .add (.t 66) (.t 70)), iG 72 62 true (.mv (.t 13))]
 [iG 73 62 true (.bin .gtr (.t 71) (.t 72)), iI 74 (.pick (.t 62) (.t 73) (.c (.d (.bool false))))]) (
 .cond (.t 74) (
 .reg [iM 75 14, iI 76 (.bin .add (.t 75) (.c (.d (.int 1)))), iM 14 76]) (
 .skip))))) (
 .reg [iI 77 (.bin .add (.t 54) (.c (.d (.int 1)))), iM 54 77])))
def L3_impl_ListSchedule : C :=
 .block 3 (
 .seq (
 .reg [iI 14 (.mv (.c (.d (.int 0))))]) (
 .seq (
 .seq (
 .reg [iM 52 1, iI 53 (.len (.t 52)), iI 54 (.mv (.c (.d (.int 0))))]) (
 .block 4 (
 .loop L2_impl_ListSchedule))) (
 .seq (
 .seq (
 .reg [iM 78 1, iI 79 (.len (.t 78)), iI 80 (.mv (.c (.d (.int 0))))]) (
 .block 6 (
 .loop L1_impl_ListSchedule))) (
 .seq (
 .reg [iI 18 (.mv (.c (.d (.int (-1)))))]) (
 .seq (
 .seq (
 .reg [iM 116 1, iI 117 (.len (.t 116)), iI 118 (.mv (.c (.d (.int 0))))]) (
 .block 8 (
 .loop L0_impl_ListSchedule))) (
 .seq (
 .seq (
 .reg [iM 151 18, iI 152 (.bin .lss (.t 151) (.c (.d (.int 0))))]) (
 .cond (.t 152) (
 .seq (
 .reg [iI 153 (.ld (.t 10)), iM 6 153, iI 7 (.mv (.c (.d (.bool true))))]) (
 .ret)) (
 .skip))) (
 .reg [iM 154 18, iM 13 154])))))))
def L4_impl_ListSchedule : C :=
 .seq (
 .reg [iI 45 (.bin .lss (.t 44) (.t 43))]) (
 .seq (
 .cond (.t 45) (
 .skip) (
 .exit 0)) (
 .seq (
 .block 1 (
 .seq (
 .reg [iM 46 44, iM 11 46]) (
 .reg [iI 47 (.ld (.t 10)), iM 48 11, iI 49 (.idx 1 (.t 47) (.t 48)),
 ⟨none, none, .st 1 (.t 49) (.c (.d (.int (-1))))⟩]))) (
 .reg [iI 50 (.bin .add (.t 44) (.c (.d (.int 1)))), iM 44 50])))
def C_impl_ListSchedule : Fun := ⟨3, 155,
 .seq (
 .reg [iI 3 (.box (.t 0)), iI 6 (.mv (.c (.nil))), iI 7 (.mv (.c (.d (.bool false))))]) (
 .seq (
 .seq (
 .reg [iI 21 (.ldn 5 (.t 3)), iM 22 1, iI 23 (.call 18 [(.t 21), (.t 22)]), iI 24 (.not (.t 23)), iM 25 24, iG 26 25 false (.mv (.t 2)), iG 27 25 false (.bin .lss (.t 26) (.c (.d (.int 1)))), iI 28 (.pick (.t 25) (.c (.d (.bool true))) (.t 27)), iM 29 28, iG 30 29 false (.mv (.t 2)), iG 31 29 false (.bin .gtr (.t 30) (.c (.d (.int 8)))), iI 32 (.pick (.t 29) (.c (.d (.bool true))) (.t 31))]) (
 .cond (.t 32) (
 .seq (
 .reg [iI 6 (.mv (.c (.nil))), iI 7 (.mv (.c (.d (.bool false))))]) (
 .ret)) (
 .skip))) (
 .seq (
 .reg [iI 33 (.ldn 5 (.t 3)), iM 34 1, iI 35 (.call 19 [(.t 33), (.t 34)]), iI 8 (.zer [.nil]),
 ⟨none, none, .st 1 (.t 8) (.t 35)⟩]) (
 .seq (
 .reg [iI 36 (.fld 3 (.t 3)), iI 37 (.ld (.t 36)), iI 38 (.len (.t 37)), iI 9 (.zer [.d (.int 0)]),
 ⟨none, none, .st 1 (.t 9) (.t 38)⟩]) (
 .seq (
 .reg [iM 39 1, iI 40 (.len (.t 39)), iI 41 (.make 1 8 [.d (.int 0)] (.t 40) (.t 40)), iI 10 (.zer [.nil]),
 ⟨none, none, .st 1 (.t 10) (.t 41)⟩]) (
 .seq (
 .seq (
 .reg [iI 42 (.ld (.t 10)), iI 43 (.len (.t 42)), iI 44 (.mv (.c (.d (.int 0))))]) (
 .block 0 (
 .loop L4_impl_ListSchedule))) (
 .seq (
 .reg [iI 51 (.mkc 20 [(.t 9), (.t 10), (.t 8)]), iM 12 51]) (
 .seq (
 .reg [iI 13 (.mv (.c (.d (.int 0))))]) (
 .block 2 (
 .loop L3_impl_ListSchedule))))))))),
 [.t 6, .t 7]⟩
theorem k_impl_ListSchedule : cFun Try.prog Try.f8 = some C_impl_ListSchedule.erase := by kernel_rfl
def C_impl_ListSchedule_c1 : Fun := ⟨5, 37,
 .seq (
 .reg [iI 7 (.mv (.c (.d (.bool false))))]) (
 .seq (
 .draw [iM 8 0, iI 9 (.ld (.t 2)), iI 10 (.bin .lss (.t 8) (.t 9)), iM 11 10, iG 12 11 false (.ld (.t 3)), iG 13 11 false (.mv (.t 0)), iG 14 11 false (.ld (.t 2)), iG 15 11 false (.bin .sub (.t 13) (.t 14)), iG 16 11 false (.idx 1 (.t 12) (.t 15)), iG 17 11 false (.ld (.t 16)), iG 18 11 false (.bin .geq (.t 17) (.c (.d (.int 0)))), iG 19 11 false (.mv (.t 18)), iG 20 19 true (.ld (.t 3)), iG 21 19 true (.mv (.t 0)), iG 22 19 true (.ld (.t 2)), iG 23 19 true (.bin .sub (.t 21) (.t 22)), iG 24 19 true (.idx 1 (.t 20) (.t 23)), iG 25 19 true (.ld (.t 24)), iG 26 19 true (.ld (.t 4)), iG 27 19 true (.mv (.t 0)), iG 28 19 true (.ld (.t 2)), iG 29 19 true (.bin .sub (.t 27) (.t 28)), iG 30 19 true (.idx 1 (.t 26) (.t 29)), iG 31 19 true (.ld (.t 30)), iG 32 19 true (.bin .add (.t 25) (.t 31)), iG 33 19 true (.mv (.t 1))]
 [iG 34 19 true (.bin .leq (.t 32) (.t 33)), iG 35 11 false (.pick (.t 19) (.t 34) (.c (.d (.bool false)))), iI 36 (.pick (.t 11) (.c (.d (.bool true))) (.t 35)), iM 7 36]) (
 .ret)),
 [.t 7]⟩
theorem k_impl_ListSchedule_c1 : cFunW Try.prog [] Try.f20 = some C_impl_ListSchedule_c1.erase := by kernel_rfl
def C_spec_MakeRing : Fun := ⟨2, 9,
 .seq (
 .reg [iI 4 (.zer [.d (.int 0), .d (.int 0), .d (.int 0)])]) (
 .seq (
 .reg [iM 5 0, iM 6 1, iI 7 (.call 14 [(.t 5), (.t 6)]), iI 8 (.call 13 [(.t 7)]),
 ⟨none, none, .st 3 (.t 4) (.t 8)⟩]) (
 .ret)),
 [.cell 4 3]⟩
theorem k_spec_MakeRing : cFun Try.prog Try.f4 = some C_spec_MakeRing.erase := by kernel_rfl
def C_spec_MakeNetwork : Fun := ⟨4, 15,
 .seq (
 .reg [iI 6 (.box (.t 2)), iI 8 (.zer [.d (.int 0), .d (.int 0), .d (.int 0), .nil, .nil])]) (
 .seq (
 .draw [iM 9 0, iM 10 1, iI 11 (.call 14 [(.t 9), (.t 10)]), iI 12 (.ldn 3 (.t 6)), iM 13 3]
 [iI 14 (.call 15 [(.t 11), (.t 12), (.t 13)]),
 ⟨none, none, .st 5 (.t 8) (.t 14)⟩]) (
 .ret)),
 [.cell 8 5]⟩
theorem k_spec_MakeNetwork : cFun Try.prog Try.f5 = some C_spec_MakeNetwork.erase := by kernel_rfl
def C_spec_MakeOrder : Fun := ⟨3, 14,
 .seq (
 .reg [iI 5 (.box (.t 2)), iI 6 (.mv (.c (.nil)))]) (
 .seq (
 .draw [iM 7 0, iM 8 1, iI 9 (.call 14 [(.t 7), (.t 8)]), iI 10 (.fld 3 (.t 5)), iI 11 (.ld (.t 10)), iI 12 (.len (.t 11))]
 [iI 13 (.call 16 [(.t 9), (.t 12)]), iM 6 13]) (
 .ret)),
 [.t 6]⟩
theorem k_spec_MakeOrder : cFun Try.prog Try.f6 = some C_spec_MakeOrder.erase := by kernel_rfl
def C_spec_MakeSize : Fun := ⟨4, 19,
 .seq (
 .reg [iI 8 (.mv (.c (.d (.int 0))))]) (
 .seq (
 .reg [iM 9 2, iM 10 0, iM 11 1, iI 12 (.call 17 [(.t 10), (.t 11)]), iM 13 3, iM 14 2, iI 15 (.bin .sub (.t 13) (.t 14)), iI 16 (.bin .add (.t 15) (.c (.d (.int 1)))), iI 17 (.bin .rem (.t 12) (.t 16)), iI 18 (.bin .add (.t 9) (.t 17)), iM 8 18]) (
 .ret)),
 [.t 8]⟩
theorem k_spec_MakeSize : cFun Try.prog Try.f7 = some C_spec_MakeSize.erase := by kernel_rfl
def L0_impl_Makespan : C :=
 .seq (
 .reg [iI 25 (.bin .lss (.t 24) (.t 23))]) (
 .seq (
 .cond (.t 25) (
 .skip) (
 .exit 0)) (
 .seq (
 .block 1 (
 .seq (
 .reg [iM 26 24, iI 27 (.idx 1 (.t 22) (.t 24)), iI 28 (.ld (.t 27)), iM 8 26, iM 9 28]) (
 .reg [iM 29 7, iM 30 2, iM 31 8, iI 32 (.idx 1 (.t 30) (.t 31)), iI 33 (.ld (.t 32)), iM 34 9, iI 35 (.bin .add (.t 33) (.t 34)), iI 36 (.mnx true (.t 29) (.t 35)), iM 7 36]))) (
 .reg [iI 37 (.bin .add (.t 24) (.c (.d (.int 1)))), iM 24 37])))
def C_impl_Makespan : Fun := ⟨3, 39,
 .seq (
 .reg [iI 3 (.box (.t 0)), iI 6 (.mv (.c (.d (.int 0))))]) (
 .seq (
 .seq (
 .reg [iI 10 (.ldn 5 (.t 3)), iM 11 1, iI 12 (.call 18 [(.t 10), (.t 11)]), iI 13 (.not (.t 12)), iM 14 13, iG 15 14 false (.mv (.t 1)), iG 16 14 false (.mv (.t 2)), iG 17 14 false (.call 21 [(.t 15), (.t 16)]), iG 18 14 false (.not (.t 17)), iI 19 (.pick (.t 14) (.c (.d (.bool true))) (.t 18))]) (
 .cond (.t 19) (
 .seq (
 .reg [iI 6 (.mv (.c (.d (.int (-1)))))]) (
 .ret)) (
 .skip))) (
 .seq (
 .reg [iI 7 (.mv (.c (.d (.int 0))))]) (
 .seq (
 .seq (
 .reg [iI 20 (.ldn 5 (.t 3)), iM 21 1, iI 22 (.call 19 [(.t 20), (.t 21)]), iI 23 (.len (.t 22)), iI 24 (.mv (.c (.d (.int 0))))]) (
 .block 0 (
 .loop L0_impl_Makespan))) (
 .seq (
 .reg [iM 38 7, iM 6 38]) (
 .ret))))),
 [.t 6]⟩
theorem k_impl_Makespan : cFun Try.prog Try.f9 = some C_impl_Makespan.erase := by kernel_rfl
def L0_impl_OrderCost : C :=
 .seq (
 .reg [iI 17 (.bin .lss (.t 16) (.t 15))]) (
 .seq (
 .cond (.t 17) (
 .skip) (
 .exit 0)) (
 .seq (
 .block 1 (
 .seq (
 .reg [iI 18 (.idx 1 (.t 14) (.t 16)), iI 19 (.ld (.t 18)), iM 7 19]) (
 .reg [iM 20 5, iM 21 7, iI 22 (.bin .add (.t 20) (.t 21)), iM 5 22]))) (
 .reg [iI 23 (.bin .add (.t 16) (.c (.d (.int 1)))), iM 16 23])))
def C_impl_OrderCost : Fun := ⟨2, 26,
 .seq (
 .reg [iI 2 (.box (.t 0)), iI 4 (.mv (.c (.d (.int 0))))]) (
 .seq (
 .seq (
 .reg [iI 8 (.ldn 5 (.t 2)), iM 9 1, iI 10 (.call 18 [(.t 8), (.t 9)]), iI 11 (.not (.t 10))]) (
 .cond (.t 11) (
 .seq (
 .reg [iI 4 (.mv (.c (.d (.int (-1)))))]) (
 .ret)) (
 .skip))) (
 .seq (
 .reg [iI 5 (.mv (.c (.d (.int 0))))]) (
 .seq (
 .seq (
 .reg [iI 12 (.ldn 5 (.t 2)), iM 13 1, iI 14 (.call 19 [(.t 12), (.t 13)]), iI 15 (.len (.t 14)), iI 16 (.mv (.c (.d (.int 0))))]) (
 .block 0 (
 .loop L0_impl_OrderCost))) (
 .seq (
 .reg [iM 24 5, iI 25 (.mnx false (.t 24) (.c (.d (.int 1000000000)))), iM 4 25]) (
 .ret))))),
 [.t 4]⟩
theorem k_impl_OrderCost : cFun Try.prog Try.f10 = some C_impl_OrderCost.erase := by kernel_rfl
def L0_impl_ScheduleOk : C :=
 .seq (
 .reg [iI 85 (.bin .lss (.t 84) (.t 83))]) (
 .seq (
 .cond (.t 85) (
 .skip) (
 .exit 4)) (
 .seq (
 .block 5 (
 .seq (
 .reg [iM 86 84, iM 16 86]) (
 .seq (
 .draw [iM 87 3, iM 88 16, iI 89 (.idx 1 (.t 87) (.t 88)), iI 90 (.ld (.t 89)), iM 91 3, iM 92 11, iI 93 (.idx 1 (.t 91) (.t 92)), iI 94 (.ld (.t 93)), iI 95 (.bin .leq (.t 90) (.t 94)), iM 96 95, iG 97 96 true (.mv (.t 3)), iG 98 96 true (.mv (.t 11)), iG 99 96 true (.idx 1 (.t 97) (.t 98)), iG 100 96 true (.ld (.t 99)), iG 101 96 true (.mv (.t 3)), iG 102 96 true (.mv (.t 16)), iG 103 96 true (.idx 1 (.t 101) (.t 102)), iG 104 96 true (.ld (.t 103)), iG 105 96 true (.mv (.t 9)), iG 106 96 true (.mv (.t 16)), iG 107 96 true (.idx 1 (.t 105) (.t 106)), iG 108 96 true (.ld (.t 107)), iG 109 96 true (.bin .add (.t 104) (.t 108))]
 [iG 110 96 true (.bin .lss (.t 100) (.t 109)), iI 111 (.pick (.t 96) (.t 110) (.c (.d (.bool false))))]) (
 .cond (.t 111) (
 .reg [iM 112 15, iI 113 (.bin .add (.t 112) (.c (.d (.int 1)))), iM 15 113]) (
 .skip))))) (
 .reg [iI 114 (.bin .add (.t 84) (.c (.d (.int 1)))), iM 84 114])))
def L1_impl_ScheduleOk : C :=
 .seq (
 .reg [iI 55 (.bin .lss (.t 54) (.t 53))]) (
 .seq (
 .cond (.t 55) (
 .skip) (
 .exit 2)) (
 .seq (
 .block 3 (
 .seq (
 .reg [iI 56 (.idx 1 (.t 52) (.t 54)), iI 57 (.ld (.t 56)), iM 14 57]) (
 .seq (
 .draw [iM 58 14, iM 59 10, iI 60 (.bin .geq (.t 58) (.t 59)), iM 61 60, iG 62 61 true (.mv (.t 3)), iG 63 61 true (.mv (.t 14)), iG 64 61 true (.mv (.t 10)), iG 65 61 true (.bin .sub (.t 63) (.t 64)), iG 66 61 true (.idx 1 (.t 62) (.t 65)), iG 67 61 true (.ld (.t 66)), iG 68 61 true (.mv (.t 9)), iG 69 61 true (.mv (.t 14)), iG 70 61 true (.mv (.t 10)), iG 71 61 true (.bin .sub (.t 69) (.t 70)), iG 72 61 true (.idx 1 (.t 68) (.t 71)), iG 73 61 true (.ld (.t 72)), iG 74 61 true (.bin .add (.t 67) (.t 73)), iG 75 61 true (.mv (.t 3)), iG 76 61 true (.mv (.t 11)), iG 77 61 true (.idx 1 (.t 75) (.t 76)), iG 78 61 true (.ld (.t 77))]
 [iG 79 61 true (.bin .gtr (.t 74) (.t 78)), iI 80 (.pick (.t 61) (.t 79) (.c (.d (.bool false))))]) (
 .cond (.t 80) (
 .seq (
 .reg [iI 8 (.mv (.c (.d (.bool false))))]) (
 .ret)) (
 .skip))))) (
 .reg [iI 81 (.bin .add (.t 54) (.c (.d (.int 1)))), iM 54 81])))
def L2_impl_ScheduleOk : C :=
 .seq (
 .reg [iI 44 (.bin .lss (.t 43) (.t 42))]) (
 .seq (
 .cond (.t 44) (
 .skip) (
 .exit 0)) (
 .seq (
 .block 1 (
 .seq (
 .reg [iM 45 43, iI 46 (.idx 2 (.t 41) (.t 43)), iI 47 (.ldn 2 (.t 46)), iI 12 (.zer [.d (.int 0), .d (.int 0)]), iM 11 45,
 ⟨none, none, .st 2 (.t 12) (.t 47)⟩]) (
 .seq (
 .seq (
 .reg [iI 48 (.fld 0 (.t 12)), iI 49 (.ld (.t 48)), iI 50 (.fld 1 (.t 12)), iI 51 (.ld (.t 50)), iI 52 (.mksl 1 2 [.d (.int 0)] [(0, 1, (.t 49)), (1, 1, (.t 51))]), iI 53 (.len (.t 52)), iI 54 (.mv (.c (.d (.int 0))))]) (
 .block 2 (
 .loop L1_impl_ScheduleOk))) (
 .seq (
 .reg [iI 15 (.mv (.c (.d (.int 0))))]) (
 .seq (
 .seq (
 .reg [iM 82 1, iI 83 (.len (.t 82)), iI 84 (.mv (.c (.d (.int 0))))]) (
 .block 4 (
 .loop L0_impl_ScheduleOk))) (
 .seq (
 .reg [iM 115 15, iM 116 2, iI 117 (.bin .gtr (.t 115) (.t 116))]) (
 .cond (.t 117) (
 .seq (
 .reg [iI 8 (.mv (.c (.d (.bool false))))]) (
 .ret)) (
 .skip)))))))) (
 .reg [iI 118 (.bin .add (.t 43) (.c (.d (.int 1)))), iM 43 118])))
def C_impl_ScheduleOk : Fun := ⟨4, 119,
 .seq (
 .reg [iI 4 (.box (.t 0)), iI 8 (.mv (.c (.d (.bool false))))]) (
 .seq (
 .seq (
 .reg [iI 17 (.ldn 5 (.t 4)), iM 18 1, iI 19 (.call 18 [(.t 17), (.t 18)]), iI 20 (.not (.t 19)), iM 21 20, iG 22 21 false (.mv (.t 2)), iG 23 21 false (.bin .lss (.t 22) (.c (.d (.int 1)))), iI 24 (.pick (.t 21) (.c (.d (.bool true))) (.t 23)), iM 25 24, iG 26 25 false (.mv (.t 2)), iG 27 25 false (.bin .gtr (.t 26) (.c (.d (.int 8)))), iI 28 (.pick (.t 25) (.c (.d (.bool true))) (.t 27)), iM 29 28, iG 30 29 false (.mv (.t 1)), iG 31 29 false (.mv (.t 3)), iG 32 29 false (.call 21 [(.t 30), (.t 31)]), iG 33 29 false (.not (.t 32)), iI 34 (.pick (.t 29) (.c (.d (.bool true))) (.t 33))]) (
 .cond (.t 34) (
 .seq (
 .reg [iI 8 (.mv (.c (.d (.bool false))))]) (
 .ret)) (
 .skip))) (
 .seq (
 .reg [iI 35 (.ldn 5 (.t 4)), iM 36 1, iI 37 (.call 19 [(.t 35), (.t 36)]), iM 9 37]) (
 .seq (
 .reg [iI 38 (.fld 3 (.t 4)), iI 39 (.ld (.t 38)), iI 40 (.len (.t 39)), iM 10 40]) (
 .seq (
 .seq (
 .reg [iM 41 1, iI 42 (.len (.t 41)), iI 43 (.mv (.c (.d (.int 0))))]) (
 .block 0 (
 .loop L2_impl_ScheduleOk))) (
 .seq (
 .reg [iI 8 (.mv (.c (.d (.bool true))))]) (
 .ret)))))),
 [.t 8]⟩
theorem k_impl_ScheduleOk : cFun Try.prog Try.f11 = some C_impl_ScheduleOk.erase := by kernel_rfl
def L0_impl_CriticalTime : C :=
 .seq (
 .reg [iI 37 (.bin .lss (.t 36) (.t 35))]) (
 .seq (
 .cond (.t 37) (
 .skip) (
 .exit 2)) (
 .seq (
 .block 3 (
 .seq (
 .reg [iI 38 (.idx 1 (.t 34) (.t 36)), iI 39 (.ld (.t 38)), iM 12 39]) (
 .seq (
 .reg [iM 40 12, iM 41 5, iI 42 (.bin .geq (.t 40) (.t 41))]) (
 .cond (.t 42) (
 .reg [iM 43 10, iM 44 7, iM 45 12, iM 46 5, iI 47 (.bin .sub (.t 45) (.t 46)), iI 48 (.idx 1 (.t 44) (.t 47)), iI 49 (.ld (.t 48)), iI 50 (.mnx true (.t 43) (.t 49)), iM 10 50]) (
 .skip))))) (
 .reg [iI 51 (.bin .add (.t 36) (.c (.d (.int 1)))), iM 36 51])))
def L1_impl_CriticalTime : C :=
 .seq (
 .reg [iI 26 (.bin .lss (.t 25) (.t 24))]) (
 .seq (
 .cond (.t 26) (
 .skip) (
 .exit 0)) (
 .seq (
 .block 1 (
 .seq (
 .reg [iM 27 25, iI 28 (.idx 2 (.t 23) (.t 25)), iI 29 (.ldn 2 (.t 28)), iI 9 (.zer [.d (.int 0), .d (.int 0)]), iM 8 27,
 ⟨none, none, .st 2 (.t 9) (.t 29)⟩]) (
 .seq (
 .reg [iI 10 (.mv (.c (.d (.int 0))))]) (
 .seq (
 .seq (
 .reg [iI 30 (.fld 0 (.t 9)), iI 31 (.ld (.t 30)), iI 32 (.fld 1 (.t 9)), iI 33 (.ld (.t 32)), iI 34 (.mksl 1 2 [.d (.int 0)] [(0, 1, (.t 31)), (1, 1, (.t 33))]), iI 35 (.len (.t 34)), iI 36 (.mv (.c (.d (.int 0))))]) (
 .block 2 (
 .loop L0_impl_CriticalTime))) (
 .seq (
 .reg [iM 52 7, iM 53 8, iI 54 (.idx 1 (.t 52) (.t 53)), iI 55 (.ld (.t 54)), iM 56 10, iI 57 (.bin .add (.t 55) (.t 56)), iI 58 (.idx 1 (.t 52) (.t 53)),
 ⟨none, none, .st 1 (.t 58) (.t 57)⟩]) (
 .reg [iM 59 6, iM 60 7, iM 61 8, iI 62 (.idx 1 (.t 60) (.t 61)), iI 63 (.ld (.t 62)), iI 64 (.mnx true (.t 59) (.t 63)), iM 6 64])))))) (
 .reg [iI 65 (.bin .add (.t 25) (.c (.d (.int 1)))), iM 25 65])))
def C_impl_CriticalTime : Fun := ⟨2, 67,
 .seq (
 .reg [iI 2 (.box (.t 0)), iI 4 (.mv (.c (.d (.int 0))))]) (
 .seq (
 .seq (
 .reg [iI 13 (.ldn 5 (.t 2)), iM 14 1, iI 15 (.call 18 [(.t 13), (.t 14)]), iI 16 (.not (.t 15))]) (
 .cond (.t 16) (
 .seq (
 .reg [iI 4 (.mv (.c (.d (.int (-1)))))]) (
 .ret)) (
 .skip))) (
 .seq (
 .reg [iI 17 (.fld 3 (.t 2)), iI 18 (.ld (.t 17)), iI 19 (.len (.t 18)), iM 5 19]) (
 .seq (
 .reg [iI 6 (.mv (.c (.d (.int 0))))]) (
 .seq (
 .reg [iI 20 (.ldn 5 (.t 2)), iM 21 1, iI 22 (.call 19 [(.t 20), (.t 21)]), iM 7 22]) (
 .seq (
 .seq (
 .reg [iM 23 1, iI 24 (.len (.t 23)), iI 25 (.mv (.c (.d (.int 0))))]) (
 .block 0 (
 .loop L1_impl_CriticalTime))) (
 .seq (
 .reg [iM 66 6, iM 4 66]) (
 .ret))))))),
 [.t 4]⟩
theorem k_impl_CriticalTime : cFun Try.prog Try.f12 = some C_impl_CriticalTime.erase := by kernel_rfl
def C_spec_l02Ring : Fun := ⟨1, 50,
 .seq (
 .reg [iI 2 (.zer [.d (.int 0), .d (.int 0), .d (.int 0)])]) (
 .seq (
 .reg [iM 4 0, iI 5 (.call 22 [(.t 4), (.c (.d (.int 8)))]), iI 6 (.bin .add (.c (.d (.int 1))) (.t 5)), iM 3 6]) (
 .seq (
 .seq (
 .reg [iM 7 3]) (
 .block 0 (
 .seq (
 .reg [iI 9 (.bin .eql (.t 7) (.c (.d (.int 2)))), iM 8 9]) (
 .cond (.t 8) (
 .seq (
 .reg [iM 10 3, iM 11 0, iI 12 (.mksl 1 5 [.d (.int 0)] [(0, 1, (.c (.d (.int 2)))), (1, 1, (.c (.d (.int 3)))), (2, 1, (.c (.d (.int 7)))), (3, 1, (.c (.d (.int 97)))), (4, 1, (.c (.d (.int 1000003))))]), iI 13 (.call 23 [(.t 11), (.t 12)]), iI 14 (.agg [.d (.int 0), .d (.int 0), .d (.int 0)] [(0, 1, (.t 10)), (1, 1, (.t 13))]),
 ⟨none, none, .st 3 (.t 2) (.t 14)⟩]) (
 .ret)) (
 .seq (
 .seq (
 .reg [iI 16 (.bin .eql (.t 7) (.c (.d (.int 3)))), iM 15 16]) (
 .cond (.t 15) (
 .skip) (
 .seq (
 .reg [iI 17 (.bin .eql (.t 7) (.c (.d (.int 4)))), iM 15 17]) (
 .cond (.t 15) (
 .skip) (
 .reg [iI 18 (.bin .eql (.t 7) (.c (.d (.int 5)))), iM 15 18]))))) (
 .cond (.t 15) (
 .seq (
 .reg [iM 19 3, iM 20 0, iI 21 (.mksl 1 5 [.d (.int 0)] [(0, 1, (.c (.d (.int 1)))), (1, 1, (.c (.d (.int 2)))), (2, 1, (.c (.d (.int 9)))), (3, 1, (.c (.d (.int 40)))), (4, 1, (.c (.d (.int 1000000))))]), iI 22 (.call 23 [(.t 20), (.t 21)]), iI 23 (.agg [.d (.int 0), .d (.int 0), .d (.int 0)] [(0, 1, (.t 19)), (1, 1, (.t 22))]),
 ⟨none, none, .st 3 (.t 2) (.t 23)⟩]) (
 .ret)) (
 .seq (
 .reg [iI 25 (.bin .eql (.t 7) (.c (.d (.int 6)))), iM 24 25]) (
 .cond (.t 24) (
 .seq (
 .reg [iM 26 3, iM 27 0, iI 28 (.mksl 1 4 [.d (.int 0)] [(0, 1, (.c (.d (.int 1)))), (1, 1, (.c (.d (.int 3)))), (2, 1, (.c (.d (.int 5)))), (3, 1, (.c (.d (.int 20))))]), iI 29 (.call 23 [(.t 27), (.t 28)]), iI 30 (.agg [.d (.int 0), .d (.int 0), .d (.int 0)] [(0, 1, (.t 26)), (2, 1, (.t 29))]),
 ⟨none, none, .st 3 (.t 2) (.t 30)⟩]) (
 .ret)) (
 .seq (
 .reg [iI 32 (.bin .eql (.t 7) (.c (.d (.int 7)))), iM 31 32]) (
 .cond (.t 31) (
 .seq (
 .reg [iM 33 3, iM 34 0, iI 35 (.mksl 1 3 [.d (.int 0)] [(0, 1, (.c (.d (.int 2)))), (1, 1, (.c (.d (.int 5)))), (2, 1, (.c (.d (.int 101))))]), iI 36 (.call 23 [(.t 34), (.t 35)]), iM 37 0, iI 38 (.call 22 [(.t 37), (.c (.d (.int 4)))]), iI 39 (.bin .add (.c (.d (.int 1))) (.t 38)), iI 40 (.agg [.d (.int 0), .d (.int 0), .d (.int 0)] [(0, 1, (.t 33)), (1, 1, (.t 36)), (2, 1, (.t 39))]),
 ⟨none, none, .st 3 (.t 2) (.t 40)⟩]) (
 .ret)) (
 .seq (
 .reg [iI 42 (.bin .eql (.t 7) (.c (.d (.int 8)))), iM 41 42]) (
 .cond (.t 41) (
 .seq (
 .reg [iM 43 3, iM 44 0, iI 45 (.mksl 1 4 [.d (.int 0)] [(0, 1, (.c (.d (.int 3)))), (1, 1, (.c (.d (.int 17)))), (2, 1, (.c (.d (.int 97)))), (3, 1, (.c (.d (.int 1000003))))]), iI 46 (.call 23 [(.t 44), (.t 45)]), iI 47 (.agg [.d (.int 0), .d (.int 0), .d (.int 0)] [(0, 1, (.t 43)), (1, 1, (.t 46))]),
 ⟨none, none, .st 3 (.t 2) (.t 47)⟩]) (
 .ret)) (
 .skip))))))))))))) (
 .seq (
 .reg [iM 48 3, iI 49 (.agg [.d (.int 0), .d (.int 0), .d (.int 0)] [(0, 1, (.t 48))]),
 ⟨none, none, .st 3 (.t 2) (.t 49)⟩]) (
 .ret)))),
 [.cell 2 3]⟩
theorem k_spec_l02Ring : cFun Try.prog Try.f13 = some C_spec_l02Ring.erase := by kernel_rfl
def C_spec_l45At : Fun := ⟨2, 29,
 .seq (
 .reg [iI 4 (.mv (.c (.any)))]) (
 .seq (
 .reg [iM 6 0, iI 7 (.call 24 [(.t 6)]), iM 5 7]) (
 .seq (
 .reg [iM 8 5, iM 9 1, iM 10 0, iI 11 (.len (.t 10)), iI 12 (.mnx false (.t 9) (.t 11)), iI 13 (.nck (.t 8)), iI 14 (.fld 1 (.t 13)),
 ⟨none, none, .st 1 (.t 14) (.t 12)⟩]) (
 .seq (
 .reg [iM 15 5, iM 16 5, iI 17 (.nck (.t 16)), iI 18 (.fld 2 (.t 17)), iI 19 (.ld (.t 18)), iI 20 (.bin .mul (.t 19) (.c (.d (.int 31)))), iM 21 1, iI 22 (.bin .mul (.t 21) (.c (.d (.int 7919)))), iI 23 (.bin .add (.t 20) (.t 22)), iI 24 (.bin .add (.t 23) (.c (.d (.int 1)))), iI 25 (.bin .and (.t 24) (.c (.d (.int 1073741823)))), iI 26 (.nck (.t 15)), iI 27 (.fld 2 (.t 26)),
 ⟨none, none, .st 1 (.t 27) (.t 25)⟩]) (
 .seq (
 .reg [iM 28 5, iM 4 28]) (
 .ret))))),
 [.t 4]⟩
theorem k_spec_l45At : cFun Try.prog Try.f14 = some C_spec_l45At.erase := by kernel_rfl
def C_spec_MakeNum : Fun := ⟨2, 15,
 .seq (
 .reg [iI 4 (.mv (.c (.d (.int 0))))]) (
 .seq (
 .reg [iM 6 0, iM 7 1, iI 8 (.call 14 [(.t 6), (.t 7)]), iM 5 8]) (
 .seq (
 .reg [iM 9 5, iI 10 (.call 29 [(.t 9)]), iI 11 (.bin .mul (.c (.d (.int 256))) (.t 10)), iM 12 5, iI 13 (.call 29 [(.t 12)]), iI 14 (.bin .add (.t 11) (.t 13)), iM 4 14]) (
 .ret))),
 [.t 4]⟩
theorem k_spec_MakeNum : cFun Try.prog Try.f17 = some C_spec_MakeNum.erase := by kernel_rfl
def L0_impl_OrderCosts : C :=
 .seq (
 .reg [iI 20 (.bin .lss (.t 19) (.t 18))]) (
 .seq (
 .cond (.t 20) (
 .skip) (
 .exit 0)) (
 .seq (
 .block 1 (
 .seq (
 .reg [iI 21 (.idx 2 (.t 17) (.t 19)), iI 22 (.ldn 2 (.t 21)), iI 8 (.zer [.d (.int 0), .d (.int 0)]),
 ⟨none, none, .st 2 (.t 8) (.t 22)⟩]) (
 .seq (
 .draw [iM 23 6, iI 24 (.fld 0 (.t 8)), iI 25 (.ld (.t 24)), iI 26 (.call 33 [(.t 23), (.t 25)]), iM 27 6, iI 28 (.fld 1 (.t 8)), iI 29 (.ld (.t 28))]
 [iI 30 (.call 33 [(.t 27), (.t 29)]), iM 9 26, iM 10 30]) (
 .seq (
 .draw [iM 31 5, iM 32 6, iM 33 6, iI 34 (.nck (.t 33)), iI 35 (.fld 101 (.t 34)), iI 36 (.ld (.t 35)), iM 37 9, iI 38 (.idx 2 (.t 36) (.t 37)), iI 39 (.fld 1 (.t 38)), iI 40 (.ld (.t 39)), iM 41 6, iI 42 (.nck (.t 41)), iI 43 (.fld 101 (.t 42)), iI 44 (.ld (.t 43)), iM 45 10, iI 46 (.idx 2 (.t 44) (.t 45)), iI 47 (.fld 1 (.t 46)), iI 48 (.ld (.t 47)), iI 49 (.call 35 [(.t 40), (.t 48)]), iI 50 (.call 34 [(.t 32), (.t 49)]), iI 51 (.mksl 1 1 [.d (.int 0)] [(0, 1, (.t 50))])]
 [iI 52 (.app 1 8 [.d (.int 0)] (.t 31) (.t 51)), iM 5 52]) (
 .reg [iM 53 6, iM 54 9, iM 55 10, iI 56 (.call 36 [(.t 53), (.t 54), (.t 55)])]))))) (
 .reg [iI 57 (.bin .add (.t 19) (.c (.d (.int 1)))), iM 19 57])))
def C_impl_OrderCosts : Fun := ⟨2, 59,
 .seq (
 .reg [iI 2 (.box (.t 0)), iI 4 (.mv (.c (.nil)))]) (
 .seq (
 .seq (
 .reg [iI 11 (.ldn 5 (.t 2)), iM 12 1, iI 13 (.call 18 [(.t 11), (.t 12)]), iI 14 (.not (.t 13))]) (
 .cond (.t 14) (
 .seq (
 .reg [iI 4 (.mv (.c (.nil)))]) (
 .ret)) (
 .skip))) (
 .seq (
 .reg [iI 5 (.mv (.c (.nil)))]) (
 .seq (
 .reg [iI 15 (.ldn 5 (.t 2)), iI 16 (.call 31 [(.t 15)]), iM 6 16]) (
 .seq (
 .seq (
 .reg [iM 17 1, iI 18 (.len (.t 17)), iI 19 (.mv (.c (.d (.int 0))))]) (
 .block 0 (
 .loop L0_impl_OrderCosts))) (
 .seq (
 .reg [iM 58 5, iM 4 58]) (
 .ret)))))),
 [.t 4]⟩
theorem k_impl_OrderCosts : cFun Try.prog Try.f19 = some C_impl_OrderCosts.erase := by kernel_rfl
def L0_impl_timesOk : C :=
 .seq (
 .reg [iI 15 (.bin .lss (.t 14) (.t 13))]) (
 .seq (
 .cond (.t 15) (
 .skip) (
 .exit 0)) (
 .seq (
 .block 1 (
 .seq (
 .reg [iI 16 (.idx 1 (.t 12) (.t 14)), iI 17 (.ld (.t 16)), iM 6 17]) (
 .seq (
 .reg [iM 18 6, iI 19 (.bin .lss (.t 18) (.c (.d (.int 0)))), iM 20 19, iG 21 20 false (.mv (.t 6)), iG 22 20 false (.bin .gtr (.t 21) (.c (.d (.int 1000000000000)))), iI 23 (.pick (.t 20) (.c (.d (.bool true))) (.t 22))]) (
 .cond (.t 23) (
 .seq (
 .reg [iI 4 (.mv (.c (.d (.bool false))))]) (
 .ret)) (
 .skip))))) (
 .reg [iI 24 (.bin .add (.t 14) (.c (.d (.int 1)))), iM 14 24])))
def C_impl_timesOk : Fun := ⟨2, 25,
 .seq (
 .reg [iI 4 (.mv (.c (.d (.bool false))))]) (
 .seq (
 .seq (
 .reg [iM 7 1, iI 8 (.len (.t 7)), iM 9 0, iI 10 (.len (.t 9)), iI 11 (.bin .neq (.t 8) (.t 10))]) (
 .cond (.t 11) (
 .seq (
 .reg [iI 4 (.mv (.c (.d (.bool false))))]) (
 .ret)) (
 .skip))) (
 .seq (
 .seq (
 .reg [iM 12 1, iI 13 (.len (.t 12)), iI 14 (.mv (.c (.d (.int 0))))]) (
 .block 0 (
 .loop L0_impl_timesOk))) (
 .seq (
 .reg [iI 4 (.mv (.c (.d (.bool true))))]) (
 .ret)))),
 [.t 4]⟩
theorem k_impl_timesOk : cFun Try.prog Try.f21 = some C_impl_timesOk.erase := by kernel_rfl
def C_impl_orderState_size : Fun := ⟨2, 13,
 .seq (
 .reg [iI 4 (.mv (.c (.d (.int 0))))]) (
 .seq (
 .reg [iM 5 0, iI 6 (.nck (.t 5)), iI 7 (.fld 0 (.t 6)), iI 8 (.ldn 100 (.t 7)), iM 9 1, iI 10 (.call 45 [(.t 8), (.t 9)]), iI 11 (.fdv 1 1 false (.t 10)), iI 12 (.call 47 [(.t 11), (.c (.d (.int 1000000000)))]), iM 4 12]) (
 .ret)),
 [.t 4]⟩
theorem k_impl_orderState_size : cFun Try.prog Try.f34 = some C_impl_orderState_size.erase := by kernel_rfl
def C_spec_l01Below : Fun := ⟨2, 11,
 .seq (
 .reg [iI 4 (.mv (.c (.d (.int 0))))]) (
 .seq (
 .seq (
 .reg [iM 5 1, iI 6 (.bin .leq (.t 5) (.c (.d (.int 0))))]) (
 .cond (.t 6) (
 .seq (
 .reg [iI 4 (.mv (.c (.d (.int 0))))]) (
 .ret)) (
 .skip))) (
 .seq (
 .reg [iM 7 0, iI 8 (.call 29 [(.t 7)]), iM 9 1, iI 10 (.bin .rem (.t 8) (.t 9)), iM 4 10]) (
 .ret))),
 [.t 4]⟩
theorem k_spec_l01Below : cFun Try.prog Try.f22 = some C_spec_l01Below.erase := by kernel_rfl
def C_spec_l01Pick : Fun := ⟨2, 12,
 .seq (
 .reg [iI 4 (.mv (.c (.d (.int 0))))]) (
 .seq (
 .reg [iM 5 1, iM 6 0, iM 7 1, iI 8 (.len (.t 7)), iI 9 (.call 22 [(.t 6), (.t 8)]), iI 10 (.idx 1 (.t 5) (.t 9)), iI 11 (.ld (.t 10)), iM 4 11]) (
 .ret)),
 [.t 4]⟩
theorem k_spec_l01Pick : cFun Try.prog Try.f23 = some C_spec_l01Pick.erase := by kernel_rfl
def C_spec_l05Draw : Fun := ⟨2, 17,
 .seq (
 .reg [iI 3 (.box (.t 1)), iI 4 (.zer [.nil, .nil, .nil])]) (
 .seq (
 .reg [iM 8 0, iI 9 (.call 37 [(.t 8), (.c (.d (.int 6))), (.c (.d (.int 3)))]), iM 7 9, iI 10 (.ext 0 (.t 7)), iI 11 (.ext 1 (.t 7)), iM 5 10, iM 6 11]) (
 .seq (
 .reg [iM 12 0, iI 13 (.ldn 3 (.t 3)), iM 14 5, iM 15 6, iI 16 (.call 38 [(.t 12), (.t 13), (.t 14), (.t 15)]),
 ⟨none, none, .st 3 (.t 4) (.t 16)⟩]) (
 .ret))),
 [.cell 4 3]⟩
theorem k_spec_l05Draw : cFun Try.prog Try.f25 = some C_spec_l05Draw.erase := by kernel_rfl
def L0_spec_l06Shuffle : C :=
 .seq (
 .reg [iI 14 (.bin .lss (.t 13) (.t 12))]) (
 .seq (
 .cond (.t 14) (
 .skip) (
 .exit 0)) (
 .seq (
 .block 1 (
 .seq (
 .reg [iM 15 13, iM 6 15]) (
 .seq (
 .reg [iM 16 0, iM 17 6, iI 18 (.bin .add (.t 17) (.c (.d (.int 1)))), iI 19 (.call 22 [(.t 16), (.t 18)]), iM 7 19]) (
 .seq (
 .reg [iM 20 5, iM 21 6, iI 22 (.idx 1 (.t 20) (.t 21)), iI 23 (.ld (.t 22)), iM 8 23]) (
 .seq (
 .reg [iM 24 5, iM 25 6, iM 26 5, iM 27 7, iI 28 (.idx 1 (.t 26) (.t 27)), iI 29 (.ld (.t 28)), iI 30 (.idx 1 (.t 24) (.t 25)),
 ⟨none, none, .st 1 (.t 30) (.t 29)⟩]) (
 .reg [iM 31 5, iM 32 7, iM 33 8, iI 34 (.idx 1 (.t 31) (.t 32)),
 ⟨none, none, .st 1 (.t 34) (.t 33)⟩])))))) (
 .reg [iI 35 (.bin .add (.t 13) (.c (.d (.int 1)))), iM 13 35])))
def C_spec_l06Shuffle : Fun := ⟨2, 37,
 .seq (
 .reg [iI 4 (.mv (.c (.nil)))]) (
 .seq (
 .reg [iM 9 1, iI 10 (.call 39 [(.t 9)]), iM 5 10]) (
 .seq (
 .seq (
 .reg [iM 11 5, iI 12 (.len (.t 11)), iI 13 (.mv (.c (.d (.int 0))))]) (
 .block 0 (
 .loop L0_spec_l06Shuffle))) (
 .seq (
 .reg [iM 36 5, iM 4 36]) (
 .ret)))),
 [.t 4]⟩
theorem k_spec_l06Shuffle : cFun Try.prog Try.f26 = some C_spec_l06Shuffle.erase := by kernel_rfl
def C_spec_l01Once : Fun := ⟨2, 9,
 .seq (
 .reg [iI 4 (.mv (.c (.d (.bool false))))]) (
 .seq (
 .reg [iM 5 0, iM 6 1, iI 7 (.call 22 [(.t 5), (.t 6)]), iI 8 (.bin .eql (.t 7) (.c (.d (.int 0)))), iM 4 8]) (
 .ret)),
 [.t 4]⟩
theorem k_spec_l01Once : cFun Try.prog Try.f28 = some C_spec_l01Once.erase := by kernel_rfl
def L0_spec_l05Labels : C :=
 .seq (
 .seq (
 .reg [iM 18 10, iI 19 (.bin .gtr (.t 18) (.c (.d (.int 0))))]) (
 .cond (.t 19) (
 .skip) (
 .exit 0))) (
 .seq (
 .block 1 (
 .seq (
 .reg [iM 22 0, iM 23 1, iI 24 (.call 22 [(.t 22), (.t 23)]), iM 11 24]) (
 .seq (
 .reg [iM 25 8, iM 26 11, iI 27 (.call 50 [(.t 25), (.t 26)]), iI 28 (.bin .lss (.t 27) (.c (.d (.int 0))))]) (
 .cond (.t 28) (
 .seq (
 .reg [iM 29 8, iM 30 11, iI 31 (.mksl 1 1 [.d (.int 0)] [(0, 1, (.t 30))]), iI 32 (.app 1 8 [.d (.int 0)] (.t 29) (.t 31)), iM 8 32]) (
 .reg [iM 33 9, iM 34 11, iI 35 (.bin .add (.t 34) (.c (.d (.int 1)))), iI 36 (.bin .rem (.t 35) (.c (.d (.int 3)))), iI 37 (.bin .add (.c (.d (.int 1))) (.t 36)), iI 38 (.mksl 1 1 [.d (.int 0)] [(0, 1, (.t 37))]), iI 39 (.app 1 8 [.d (.int 0)] (.t 33) (.t 38)), iM 9 39])) (
 .skip))))) (
 .reg [iM 20 10, iI 21 (.bin .sub (.t 20) (.c (.d (.int 1)))), iM 10 21]))
def C_spec_l05Labels : Fun := ⟨3, 42,
 .seq (
 .reg [iI 6 (.mv (.c (.nil))), iI 7 (.mv (.c (.nil)))]) (
 .seq (
 .reg [iI 12 (.mksl 1 0 [.d (.int 0)] []), iM 8 12]) (
 .seq (
 .reg [iI 13 (.mksl 1 0 [.d (.int 0)] []), iM 9 13]) (
 .seq (
 .seq (
 .reg [iM 14 0, iM 15 2, iI 16 (.bin .add (.t 15) (.c (.d (.int 1)))), iI 17 (.call 22 [(.t 14), (.t 16)]), iM 10 17]) (
 .block 0 (
 .loop L0_spec_l05Labels))) (
 .seq (
 .reg [iM 40 8, iM 41 9, iM 6 40, iM 7 41]) (
 .ret))))),
 [.t 6, .t 7]⟩
theorem k_spec_l05Labels : cFun Try.prog Try.f37 = some C_spec_l05Labels.erase := by kernel_rfl
def L0_spec_l02Draw : C :=
 .seq (
 .reg [iI 23 (.bin .lss (.t 22) (.t 21))]) (
 .seq (
 .cond (.t 23) (
 .skip) (
 .exit 1)) (
 .seq (
 .block 2 (
 .seq (
 .reg [iM 24 22, iM 6 24]) (
 .seq (
 .reg [iM 25 5, iM 26 6, iM 27 0, iI 28 (.ldn 3 (.t 3)), iI 29 (.call 61 [(.t 28)]), iI 30 (.bin .add (.t 29) (.c (.d (.int 1)))), iI 31 (.mnx false (.c (.d (.int 256))) (.t 30)), iI 32 (.call 22 [(.t 27), (.t 31)]), iI 33 (.idx 1 (.t 25) (.t 26)),
 ⟨none, none, .st 1 (.t 33) (.t 32)⟩]) (
 .seq (
 .reg [iM 34 0, iI 35 (.call 28 [(.t 34), (.c (.d (.int 12)))])]) (
 .cond (.t 35) (
 .reg [iM 36 5, iM 37 6, iI 38 (.ldn 3 (.t 3)), iI 39 (.call 61 [(.t 38)]), iI 40 (.idx 1 (.t 36) (.t 37)),
 ⟨none, none, .st 1 (.t 40) (.t 39)⟩]) (
 .skip)))))) (
 .reg [iI 41 (.bin .add (.t 22) (.c (.d (.int 1)))), iM 22 41])))
def C_spec_l02Draw : Fun := ⟨2, 43,
 .seq (
 .reg [iI 3 (.box (.t 1)), iI 4 (.mv (.c (.nil)))]) (
 .seq (
 .seq (
 .reg [iM 7 0, iI 8 (.call 22 [(.t 7), (.c (.d (.int 6)))])]) (
 .block 0 (
 .seq (
 .reg [iI 10 (.bin .eql (.t 8) (.c (.d (.int 0)))), iM 9 10]) (
 .cond (.t 9) (
 .seq (
 .reg [iI 11 (.ldn 3 (.t 3)), iI 12 (.call 58 [(.t 11)]), iM 4 12]) (
 .ret)) (
 .seq (
 .reg [iI 14 (.bin .eql (.t 8) (.c (.d (.int 1)))), iM 13 14]) (
 .cond (.t 13) (
 .seq (
 .reg [iI 15 (.ldn 3 (.t 3)), iI 16 (.call 60 [(.t 15)]), iM 4 16]) (
 .ret)) (
 .skip))))))) (
 .seq (
 .reg [iI 17 (.ldn 3 (.t 3)), iI 18 (.call 59 [(.t 17)]), iI 19 (.make 1 8 [.d (.int 0)] (.t 18) (.t 18)), iM 5 19]) (
 .seq (
 .seq (
 .reg [iM 20 5, iI 21 (.len (.t 20)), iI 22 (.mv (.c (.d (.int 0))))]) (
 .block 1 (
 .loop L0_spec_l02Draw))) (
 .seq (
 .reg [iM 42 5, iM 4 42]) (
 .ret))))),
 [.t 4]⟩
theorem k_spec_l02Draw : cFun Try.prog Try.f54 = some C_spec_l02Draw.erase := by kernel_rfl
def L0_impl_startState : C :=
 .seq (
 .reg [iI 26 (.bin .lss (.t 25) (.t 24))]) (
 .seq (
 .cond (.t 26) (
 .skip) (
 .exit 0)) (
 .seq (
 .block 1 (
 .seq (
 .reg [iM 27 25, iI 28 (.idx 3 (.t 23) (.t 25)), iI 29 (.ldn 3 (.t 28)), iI 7 (.zer [.nil, .nil, .nil]), iM 6 27,
 ⟨none, none, .st 3 (.t 7) (.t 29)⟩]) (
 .draw [iM 30 5, iM 31 5, iI 32 (.nck (.t 31)), iI 33 (.fld 101 (.t 32)), iI 34 (.ld (.t 33)), iM 35 6, iI 36 (.fld 0 (.t 7)), iI 37 (.ld (.t 36)), iI 38 (.call 46 [(.t 37)]), iI 39 (.agg [.d (.int 0), .nil] [(0, 1, (.t 35)), (1, 1, (.t 38))]), iI 40 (.mksl 2 1 [.d (.int 0), .nil] [(0, 2, (.t 39))])]
 [iI 41 (.app 2 32 [.d (.int 0), .nil] (.t 34) (.t 40)), iI 42 (.nck (.t 30)), iI 43 (.fld 101 (.t 42)),
 ⟨none, none, .st 1 (.t 43) (.t 41)⟩]))) (
 .reg [iI 44 (.bin .add (.t 25) (.c (.d (.int 1)))), iM 25 44])))
def C_impl_startState : Fun := ⟨1, 46,
 .seq (
 .reg [iI 1 (.box (.t 0)), iI 2 (.mv (.c (.any)))]) (
 .seq (
 .reg [iI 9 (.fld 3 (.t 1)), iI 10 (.ld (.t 9)), iI 11 (.call 43 [(.t 10)]), iM 8 11, iI 12 (.ext 0 (.t 8)), iI 13 (.ext 1 (.t 8)), iI 3 (.zer (reps 100 (.d (.int 0)))),
 ⟨none, none, .st 100 (.t 3) (.t 12)⟩, iM 4 13]) (
 .seq (
 .reg [iI 14 (.ldn 100 (.t 3)), iI 15 (.fld 4 (.t 1)), iI 16 (.ld (.t 15)), iI 17 (.fld 3 (.t 1)), iI 18 (.ld (.t 17)), iI 19 (.len (.t 18)), iI 20 (.agg (reps 100 (.d (.int 0)) ++ [.nil, .nil, .d (.int 0)]) [(0, 100, (.t 14)), (100, 1, (.t 16)), (102, 1, (.t 19))]), iI 21 (.box (.t 20)), iM 5 21]) (
 .seq (
 .seq (
 .reg [iI 22 (.fld 3 (.t 1)), iI 23 (.ld (.t 22)), iI 24 (.len (.t 23)), iI 25 (.mv (.c (.d (.int 0))))]) (
 .block 0 (
 .loop L0_impl_startState))) (
 .seq (
 .reg [iM 45 5, iM 2 45]) (
 .ret))))),
 [.t 2]⟩
theorem k_impl_startState : cFunK Try.prog Try.f31 = some C_impl_startState.erase := by kernel_rfl
def L0_impl_OrderOk : C :=
 .seq (
 .reg [iI 26 (.bin .lss (.t 25) (.t 24))]) (
 .seq (
 .cond (.t 26) (
 .skip) (
 .exit 0)) (
 .seq (
 .block 1 (
 .seq (
 .reg [iI 27 (.idx 2 (.t 23) (.t 25)), iI 28 (.ldn 2 (.t 27)), iI 7 (.zer [.d (.int 0), .d (.int 0)]),
 ⟨none, none, .st 2 (.t 7) (.t 28)⟩]) (
 .seq (
 .reg [iM 29 5, iI 30 (.ldn 2 (.t 7)), iI 31 (.call 32 [(.t 29), (.t 30)]), iI 32 (.not (.t 31))]) (
 .cond (.t 32) (
 .seq (
 .reg [iI 4 (.mv (.c (.d (.bool false))))]) (
 .ret)) (
 .skip))))) (
 .reg [iI 33 (.bin .add (.t 25) (.c (.d (.int 1)))), iM 25 33])))
def C_impl_OrderOk : Fun := ⟨2, 34,
 .seq (
 .reg [iI 2 (.box (.t 0)), iI 4 (.mv (.c (.d (.bool false))))]) (
 .seq (
 .seq (
 .reg [iI 8 (.ldn 5 (.t 2)), iI 9 (.call 30 [(.t 8)]), iI 10 (.not (.t 9)), iM 11 10, iG 12 11 false (.mv (.t 1)), iG 13 11 false (.len (.t 12)), iG 14 11 false (.fld 3 (.t 2)), iG 15 11 false (.ld (.t 14)), iG 16 11 false (.len (.t 15)), iG 17 11 false (.bin .sub (.t 16) (.c (.d (.int 1)))), iG 18 11 false (.mnx true (.t 17) (.c (.d (.int 0)))), iG 19 11 false (.bin .neq (.t 13) (.t 18)), iI 20 (.pick (.t 11) (.c (.d (.bool true))) (.t 19))]) (
 .cond (.t 20) (
 .seq (
 .reg [iI 4 (.mv (.c (.d (.bool false))))]) (
 .ret)) (
 .skip))) (
 .seq (
 .reg [iI 21 (.ldn 5 (.t 2)), iI 22 (.call 31 [(.t 21)]), iM 5 22]) (
 .seq (
 .seq (
 .reg [iM 23 1, iI 24 (.len (.t 23)), iI 25 (.mv (.c (.d (.int 0))))]) (
 .block 0 (
 .loop L0_impl_OrderOk))) (
 .seq (
 .reg [iI 4 (.mv (.c (.d (.bool true))))]) (
 .ret))))),
 [.t 4]⟩
theorem k_impl_OrderOk : cFun Try.prog Try.f18 = some C_impl_OrderOk.erase := by kernel_rfl
def C_impl_orderState_follow : Fun := ⟨2, 32,
 .seq (
 .reg [iI 3 (.box (.t 1)), iI 4 (.mv (.c (.d (.bool false))))]) (
 .seq (
 .draw [iM 7 0, iI 8 (.fld 0 (.t 3)), iI 9 (.ld (.t 8)), iI 10 (.call 33 [(.t 7), (.t 9)]), iM 11 0, iI 12 (.fld 1 (.t 3)), iI 13 (.ld (.t 12))]
 [iI 14 (.call 33 [(.t 11), (.t 13)]), iM 5 10, iM 6 14]) (
 .seq (
 .seq (
 .reg [iM 15 5, iI 16 (.bin .lss (.t 15) (.c (.d (.int 0)))), iM 17 16, iG 18 17 false (.mv (.t 6)), iG 19 17 false (.bin .lss (.t 18) (.c (.d (.int 0)))), iI 20 (.pick (.t 17) (.c (.d (.bool true))) (.t 19)), iM 21 20, iG 22 21 false (.fld 0 (.t 3)), iG 23 21 false (.ld (.t 22)), iG 24 21 false (.fld 1 (.t 3)), iG 25 21 false (.ld (.t 24)), iG 26 21 false (.bin .geq (.t 23) (.t 25)), iI 27 (.pick (.t 21) (.c (.d (.bool true))) (.t 26))]) (
 .cond (.t 27) (
 .seq (
 .reg [iI 4 (.mv (.c (.d (.bool false))))]) (
 .ret)) (
 .skip))) (
 .seq (
 .reg [iM 28 0, iM 29 5, iM 30 6, iI 31 (.call 36 [(.t 28), (.t 29), (.t 30)])]) (
 .seq (
 .reg [iI 4 (.mv (.c (.d (.bool true))))]) (
 .ret))))),
 [.t 4]⟩
theorem k_impl_orderState_follow : cFun Try.prog Try.f32 = some C_impl_orderState_follow.erase := by kernel_rfl
def L0_impl_orderState_place : C :=
 .seq (
 .reg [iI 13 (.bin .lss (.t 12) (.t 11))]) (
 .seq (
 .cond (.t 13) (
 .skip) (
 .exit 0)) (
 .seq (
 .block 1 (
 .seq (
 .reg [iM 14 12, iI 15 (.idx 2 (.t 10) (.t 12)), iI 16 (.ldn 2 (.t 15)), iI 6 (.zer [.d (.int 0), .nil]), iM 5 14,
 ⟨none, none, .st 2 (.t 6) (.t 16)⟩]) (
 .seq (
 .reg [iI 17 (.fld 0 (.t 6)), iI 18 (.ld (.t 17)), iM 19 1, iI 20 (.bin .eql (.t 18) (.t 19))]) (
 .cond (.t 20) (
 .seq (
 .reg [iM 21 5, iM 4 21]) (
 .ret)) (
 .skip))))) (
 .reg [iI 22 (.bin .add (.t 12) (.c (.d (.int 1)))), iM 12 22])))
def C_impl_orderState_place : Fun := ⟨2, 23,
 .seq (
 .reg [iI 4 (.mv (.c (.d (.int 0))))]) (
 .seq (
 .seq (
 .reg [iM 7 0, iI 8 (.nck (.t 7)), iI 9 (.fld 101 (.t 8)), iI 10 (.ld (.t 9)), iI 11 (.len (.t 10)), iI 12 (.mv (.c (.d (.int 0))))]) (
 .block 0 (
 .loop L0_impl_orderState_place))) (
 .seq (
 .reg [iI 4 (.mv (.c (.d (.int (-1)))))]) (
 .ret))),
 [.t 4]⟩
theorem k_impl_orderState_place : cFun Try.prog Try.f33 = some C_impl_orderState_place.erase := by kernel_rfl
def L0_impl_orderState_contract : C :=
 .seq (
 .reg [iI 44 (.bin .lss (.t 43) (.t 42))]) (
 .seq (
 .cond (.t 44) (
 .skip) (
 .exit 0)) (
 .seq (
 .block 1 (
 .seq (
 .reg [iM 45 43, iI 46 (.idx 2 (.t 41) (.t 43)), iI 47 (.ldn 2 (.t 46)), iI 11 (.zer [.d (.int 0), .nil]), iM 10 45,
 ⟨none, none, .st 2 (.t 11) (.t 47)⟩]) (
 .seq (
 .reg [iM 48 10, iM 49 1, iI 50 (.bin .neq (.t 48) (.t 49)), iM 51 50, iG 52 51 true (.mv (.t 10)), iG 53 51 true (.mv (.t 2)), iG 54 51 true (.bin .neq (.t 52) (.t 53)), iI 55 (.pick (.t 51) (.t 54) (.c (.d (.bool false))))]) (
 .cond (.t 55) (
 .reg [iM 56 9, iI 57 (.ldn 2 (.t 11)), iI 58 (.mksl 2 1 [.d (.int 0), .nil] [(0, 2, (.t 57))]), iI 59 (.app 2 32 [.d (.int 0), .nil] (.t 56) (.t 58)), iM 9 59]) (
 .skip))))) (
 .reg [iI 60 (.bin .add (.t 43) (.c (.d (.int 1)))), iM 43 60])))
def C_impl_orderState_contract : Fun := ⟨3, 76,
 .seq (
 .reg [iI 6 (.zer [.d (.int 0), .d (.int 0)])]) (
 .seq (
 .draw [iM 12 0, iI 13 (.nck (.t 12)), iI 14 (.fld 101 (.t 13)), iI 15 (.ld (.t 14)), iM 16 1, iI 17 (.idx 2 (.t 15) (.t 16)), iI 18 (.fld 0 (.t 17)), iI 19 (.ld (.t 18)), iM 20 0, iI 21 (.nck (.t 20)), iI 22 (.fld 101 (.t 21)), iI 23 (.ld (.t 22)), iM 24 2, iI 25 (.idx 2 (.t 23) (.t 24)), iI 26 (.fld 0 (.t 25)), iI 27 (.ld (.t 26)), iI 28 (.agg [.d (.int 0), .d (.int 0)] [(0, 1, (.t 19)), (1, 1, (.t 27))]), iI 7 (.zer [.d (.int 0), .d (.int 0)])]
 [⟨none, none, .st 2 (.t 7) (.t 28)⟩]) (
 .seq (
 .draw [iM 29 0, iI 30 (.nck (.t 29)), iI 31 (.fld 102 (.t 30)), iI 32 (.ld (.t 31)), iM 33 0, iM 34 1, iM 35 2, iI 36 (.call 49 [(.t 33), (.t 34), (.t 35)]), iI 37 (.agg [.d (.int 0), .nil] [(0, 1, (.t 32)), (1, 1, (.t 36))]), iI 8 (.zer [.d (.int 0), .nil])]
 [⟨none, none, .st 2 (.t 8) (.t 37)⟩]) (
 .seq (
 .reg [iI 9 (.mv (.c (.nil)))]) (
 .seq (
 .seq (
 .reg [iM 38 0, iI 39 (.nck (.t 38)), iI 40 (.fld 101 (.t 39)), iI 41 (.ld (.t 40)), iI 42 (.len (.t 41)), iI 43 (.mv (.c (.d (.int 0))))]) (
 .block 0 (
 .loop L0_impl_orderState_contract))) (
 .seq (
 .reg [iM 61 0, iM 62 9, iI 63 (.ldn 2 (.t 8)), iI 64 (.mksl 2 1 [.d (.int 0), .nil] [(0, 2, (.t 63))]), iI 65 (.app 2 32 [.d (.int 0), .nil] (.t 62) (.t 64)), iI 66 (.nck (.t 61)), iI 67 (.fld 101 (.t 66)),
 ⟨none, none, .st 1 (.t 67) (.t 65)⟩]) (
 .seq (
 .reg [iM 68 0, iI 69 (.nck (.t 68)), iI 70 (.fld 102 (.t 69)), iI 71 (.ld (.t 70)), iI 72 (.bin .add (.t 71) (.c (.d (.int 1)))), iI 73 (.nck (.t 68)), iI 74 (.fld 102 (.t 73)),
 ⟨none, none, .st 1 (.t 74) (.t 72)⟩]) (
 .seq (
 .reg [iI 75 (.ldn 2 (.t 7)),
 ⟨none, none, .st 2 (.t 6) (.t 75)⟩]) (
 .ret)))))))),
 [.cell 6 2]⟩
theorem k_impl_orderState_contract : cFun Try.prog Try.f36 = some C_impl_orderState_contract.erase := by kernel_rfl
def L0_impl_orderState_resultLabels : C :=
 .seq (
 .reg [iI 47 (.bin .lss (.t 46) (.t 45))]) (
 .seq (
 .cond (.t 47) (
 .skip) (
 .exit 2)) (
 .seq (
 .block 3 (
 .seq (
 .reg [iM 48 46, iI 49 (.idx 2 (.t 44) (.t 46)), iI 50 (.ldn 2 (.t 49)), iI 12 (.zer [.d (.int 0), .nil]), iM 11 48,
 ⟨none, none, .st 2 (.t 12) (.t 50)⟩]) (
 .seq (
 .reg [iM 51 11, iM 52 1, iI 53 (.bin .neq (.t 51) (.t 52)), iM 54 53, iG 55 54 true (.mv (.t 11)), iG 56 54 true (.mv (.t 2)), iG 57 54 true (.bin .neq (.t 55) (.t 56)), iI 58 (.pick (.t 54) (.t 57) (.c (.d (.bool false)))), iM 59 58, iG 60 59 true (.fld 1 (.t 12)), iG 61 59 true (.ld (.t 60)), iG 62 59 true (.mv (.t 9)), iG 63 59 true (.call 48 [(.t 61), (.t 62)]), iI 64 (.pick (.t 59) (.t 63) (.c (.d (.bool false))))]) (
 .cond (.t 64) (
 .reg [iI 10 (.mv (.c (.d (.bool true))))]) (
 .skip))))) (
 .reg [iI 65 (.bin .add (.t 46) (.c (.d (.int 1)))), iM 46 65])))
def L1_impl_orderState_resultLabels : C :=
 .seq (
 .reg [iI 32 (.bin .lss (.t 31) (.t 30))]) (
 .seq (
 .cond (.t 32) (
 .skip) (
 .exit 0)) (
 .seq (
 .block 1 (
 .seq (
 .reg [iI 33 (.idx 1 (.t 29) (.t 31)), iI 34 (.ld (.t 33)), iM 9 34]) (
 .seq (
 .reg [iM 35 0, iI 36 (.nck (.t 35)), iI 37 (.fld 100 (.t 36)), iI 38 (.ld (.t 37)), iM 39 9, iI 40 (.call 48 [(.t 38), (.t 39)]), iM 10 40]) (
 .seq (
 .seq (
 .reg [iM 41 0, iI 42 (.nck (.t 41)), iI 43 (.fld 101 (.t 42)), iI 44 (.ld (.t 43)), iI 45 (.len (.t 44)), iI 46 (.mv (.c (.d (.int 0))))]) (
 .block 2 (
 .loop L0_impl_orderState_resultLabels))) (
 .seq (
 .reg [iM 66 10]) (
 .cond (.t 66) (
 .reg [iM 67 7, iM 68 9, iI 69 (.mksl 1 1 [.d (.int 0)] [(0, 1, (.t 68))]), iI 70 (.app 1 8 [.d (.int 0)] (.t 67) (.t 69)), iM 7 70]) (
 .skip))))))) (
 .reg [iI 71 (.bin .add (.t 31) (.c (.d (.int 1)))), iM 31 71])))
def C_impl_orderState_resultLabels : Fun := ⟨3, 73,
 .seq (
 .reg [iI 6 (.mv (.c (.nil)))]) (
 .seq (
 .reg [iI 7 (.mv (.c (.nil)))]) (
 .seq (
 .seq (
 .draw [iM 13 0, iI 14 (.nck (.t 13)), iI 15 (.fld 101 (.t 14)), iI 16 (.ld (.t 15)), iM 17 1, iI 18 (.idx 2 (.t 16) (.t 17)), iI 19 (.fld 1 (.t 18)), iI 20 (.ld (.t 19)), iM 21 0, iI 22 (.nck (.t 21)), iI 23 (.fld 101 (.t 22)), iI 24 (.ld (.t 23)), iM 25 2, iI 26 (.idx 2 (.t 24) (.t 25)), iI 27 (.fld 1 (.t 26)), iI 28 (.ld (.t 27)), iI 29 (.call 35 [(.t 20), (.t 28)]), iI 30 (.len (.t 29)), iI 31 (.mv (.c (.d (.int 0))))]
 []) (
 .block 0 (
 .loop L1_impl_orderState_resultLabels))) (
 .seq (
 .reg [iM 72 7, iM 6 72]) (
 .ret)))),
 [.t 6]⟩
theorem k_impl_orderState_resultLabels : cFun Try.prog Try.f49 = some C_impl_orderState_resultLabels.erase := by kernel_rfl
def C_spec_l02One : Fun := ⟨1, 23,
 .seq (
 .reg [iI 1 (.box (.t 0)), iI 2 (.mv (.c (.nil)))]) (
 .seq (
 .reg [iI 4 (.ldn 3 (.t 1)), iI 5 (.call 59 [(.t 4)]), iI 6 (.make 1 8 [.d (.int 0)] (.t 5) (.t 5)), iM 3 6]) (
 .seq (
 .seq (
 .reg [iI 7 (.fld 0 (.t 1)), iI 8 (.ld (.t 7))]) (
 .block 0 (
 .seq (
 .seq (
 .reg [iI 12 (.bin .eql (.t 8) (.c (.d (.int 5)))), iM 11 12]) (
 .cond (.t 11) (
 .skip) (
 .reg [iI 13 (.bin .eql (.t 8) (.c (.d (.int 6)))), iM 11 13]))) (
 .cond (.t 11) (
 .reg [iM 14 3, iI 15 (.ldn 3 (.t 1)), iI 16 (.call 61 [(.t 15)]), iI 17 (.idx 1 (.t 14) (.c (.d (.int 0)))),
 ⟨none, none, .st 1 (.t 17) (.t 16)⟩]) (
 .seq (
 .reg [iI 19 (.bin .eql (.t 8) (.c (.d (.int 4)))), iM 18 19]) (
 .cond (.t 18) (
 .reg [iM 20 3, iI 21 (.idx 1 (.t 20) (.c (.d (.int 0)))),
 ⟨none, none, .st 1 (.t 21) (.c (.d (.int 0)))⟩]) (
 .reg [iM 9 3, iI 10 (.idx 1 (.t 9) (.c (.d (.int 0)))),
 ⟨none, none, .st 1 (.t 10) (.c (.d (.int 1)))⟩]))))))) (
 .seq (
 .reg [iM 22 3, iM 2 22]) (
 .ret)))),
 [.t 2]⟩
theorem k_spec_l02One : cFun Try.prog Try.f60 = some C_spec_l02One.erase := by kernel_rfl
def C_spec_l02Zero : Fun := ⟨1, 15,
 .seq (
 .reg [iI 1 (.box (.t 0)), iI 2 (.mv (.c (.nil)))]) (
 .seq (
 .reg [iI 4 (.ldn 3 (.t 1)), iI 5 (.call 59 [(.t 4)]), iI 6 (.make 1 8 [.d (.int 0)] (.t 5) (.t 5)), iM 3 6]) (
 .seq (
 .seq (
 .reg [iI 7 (.fld 0 (.t 1)), iI 8 (.ld (.t 7)), iI 9 (.bin .eql (.t 8) (.c (.d (.int 4))))]) (
 .cond (.t 9) (
 .reg [iM 10 3, iI 11 (.fld 1 (.t 1)), iI 12 (.ld (.t 11)), iI 13 (.idx 1 (.t 10) (.c (.d (.int 0)))),
 ⟨none, none, .st 1 (.t 13) (.t 12)⟩]) (
 .skip))) (
 .seq (
 .reg [iM 14 3, iM 2 14]) (
 .ret)))),
 [.t 2]⟩
theorem k_spec_l02Zero : cFun Try.prog Try.f58 = some C_spec_l02Zero.erase := by kernel_rfl
def C_impl_copyInts : Fun := ⟨1, 5,
 .seq (
 .reg [iI 2 (.mv (.c (.nil)))]) (
 .seq (
 .reg [iM 3 0, iI 4 (.app 1 8 [.d (.int 0)] (.c (.nil)) (.t 3)), iM 2 4]) (
 .ret)),
 [.t 2]⟩
theorem k_impl_copyInts : cFun Try.prog Try.f46 = some C_impl_copyInts.erase := by kernel_rfl
def L0_impl_TensorSize : C :=
 .seq (
 .reg [iI 24 (.bin .lss (.t 23) (.t 22))]) (
 .seq (
 .cond (.t 24) (
 .skip) (
 .exit 0)) (
 .seq (
 .block 1 (
 .seq (
 .reg [iM 25 23, iI 26 (.idx 1 (.t 21) (.t 23)), iI 27 (.ld (.t 26)), iM 4 25, iM 5 27]) (
 .seq (
 .seq (
 .reg [iM 28 5, iI 29 (.bin .lss (.t 28) (.c (.d (.int 0)))), iM 30 29, iG 31 30 false (.mv (.t 5)), iG 32 30 false (.bin .gtr (.t 31) (.c (.d (.int 99)))), iI 33 (.pick (.t 30) (.c (.d (.bool true))) (.t 32)), iM 34 33, iG 35 34 false (.fld 0 (.t 1)), iG 36 34 false (.ld (.t 35)), iG 37 34 false (.mv (.t 4)), iG 38 34 false (.slc 1 (.t 36) none (some (.t 37))), iG 39 34 false (.mv (.t 5)), iG 40 34 false (.call 48 [(.t 38), (.t 39)]), iI 41 (.pick (.t 34) (.c (.d (.bool true))) (.t 40))]) (
 .cond (.t 41) (
 .seq (
 .reg [iI 2 (.mv (.c (.d (.int (-1)))))]) (
 .ret)) (
 .skip))) (
 .seq (
 .reg [iI 42 (.fld 1 (.t 1)), iI 43 (.ld (.t 42)), iM 44 4, iI 45 (.idx 1 (.t 43) (.t 44)), iI 46 (.ld (.t 45)), iM 6 46]) (
 .seq (
 .seq (
 .reg [iM 47 6, iI 48 (.bin .lss (.t 47) (.c (.d (.int 1)))), iM 49 48, iG 50 49 false (.mv (.t 6)), iG 51 49 false (.bin .gtr (.t 50) (.c (.d (.int 8)))), iI 52 (.pick (.t 49) (.c (.d (.bool true))) (.t 51)), iM 53 52, iG 54 53 false (.mv (.t 3)), iG 55 53 false (.mv (.t 6)), iG 56 53 false (.bin .mul (.t 54) (.t 55)), iG 57 53 false (.bin .gtr (.t 56) (.c (.d (.int 4096)))), iI 58 (.pick (.t 53) (.c (.d (.bool true))) (.t 57))]) (
 .cond (.t 58) (
 .seq (
 .reg [iI 2 (.mv (.c (.d (.int (-1)))))]) (
 .ret)) (
 .skip))) (
 .reg [iM 59 3, iM 60 6, iI 61 (.bin .mul (.t 59) (.t 60)), iM 3 61])))))) (
 .reg [iI 62 (.bin .add (.t 23) (.c (.d (.int 1)))), iM 23 62])))
def C_impl_TensorSize : Fun := ⟨1, 64,
 .seq (
 .reg [iI 1 (.box (.t 0)), iI 2 (.mv (.c (.d (.int 0))))]) (
 .seq (
 .seq (
 .reg [iI 7 (.fld 0 (.t 1)), iI 8 (.ld (.t 7)), iI 9 (.len (.t 8)), iI 10 (.bin .gtr (.t 9) (.c (.d (.int 12)))), iM 11 10, iG 12 11 false (.fld 0 (.t 1)), iG 13 11 false (.ld (.t 12)), iG 14 11 false (.len (.t 13)), iG 15 11 false (.fld 1 (.t 1)), iG 16 11 false (.ld (.t 15)), iG 17 11 false (.len (.t 16)), iG 18 11 false (.bin .neq (.t 14) (.t 17)), iI 19 (.pick (.t 11) (.c (.d (.bool true))) (.t 18))]) (
 .cond (.t 19) (
 .seq (
 .reg [iI 2 (.mv (.c (.d (.int (-1)))))]) (
 .ret)) (
 .skip))) (
 .seq (
 .reg [iI 3 (.mv (.c (.d (.int 1))))]) (
 .seq (
 .seq (
 .reg [iI 20 (.fld 0 (.t 1)), iI 21 (.ld (.t 20)), iI 22 (.len (.t 21)), iI 23 (.mv (.c (.d (.int 0))))]) (
 .block 0 (
 .loop L0_impl_TensorSize))) (
 .seq (
 .reg [iM 63 3, iM 2 63]) (
 .ret))))),
 [.t 2]⟩
theorem k_impl_TensorSize : cFun Try.prog Try.f44 = some C_impl_TensorSize.erase := by kernel_rfl
def C_impl_TensorOk : Fun := ⟨2, 29,
 .seq (
 .reg [iI 2 (.box (.t 0)), iI 3 (.box (.t 1)), iI 4 (.mv (.c (.d (.bool false))))]) (
 .seq (
 .seq (
 .reg [iI 6 (.ldn 3 (.t 2)), iI 7 (.call 41 [(.t 6)]), iI 8 (.not (.t 7))]) (
 .cond (.t 8) (
 .seq (
 .reg [iI 4 (.mv (.c (.d (.bool false))))]) (
 .ret)) (
 .skip))) (
 .seq (
 .reg [iI 9 (.ldn 3 (.t 3)), iI 10 (.call 44 [(.t 9)]), iM 5 10]) (
 .seq (
 .draw [iM 11 5, iI 12 (.bin .neq (.t 11) (.c (.d (.int (-1))))), iM 13 12, iG 14 13 true (.fld 2 (.t 3)), iG 15 13 true (.ld (.t 14)), iG 16 13 true (.len (.t 15)), iG 17 13 true (.mv (.t 5)), iG 18 13 true (.ldn 3 (.t 2)), iG 19 13 true (.call 56 [(.t 18)]), iG 20 13 true (.bin .mul (.t 17) (.t 19)), iG 21 13 true (.bin .eql (.t 16) (.t 20)), iI 22 (.pick (.t 13) (.t 21) (.c (.d (.bool false)))), iM 23 22, iG 24 23 true (.ldn 3 (.t 2)), iG 25 23 true (.fld 2 (.t 3)), iG 26 23 true (.ld (.t 25))]
 [iG 27 23 true (.call 57 [(.t 24), (.t 26)]), iI 28 (.pick (.t 23) (.t 27) (.c (.d (.bool false)))), iM 4 28]) (
 .ret)))),
 [.t 4]⟩
theorem k_impl_TensorOk : cFun Try.prog Try.f42 = some C_impl_TensorOk.erase := by kernel_rfl
def L0_spec_l05Product : C :=
 .seq (
 .reg [iI 11 (.bin .lss (.t 10) (.t 9))]) (
 .seq (
 .cond (.t 11) (
 .skip) (
 .exit 0)) (
 .seq (
 .block 1 (
 .seq (
 .reg [iI 12 (.idx 1 (.t 8) (.t 10)), iI 13 (.ld (.t 12)), iM 7 13]) (
 .reg [iM 14 5, iM 15 7, iI 16 (.bin .mul (.t 14) (.t 15)), iM 17 1, iI 18 (.bin .add (.t 17) (.c (.d (.int 1)))), iI 19 (.mnx false (.t 16) (.t 18)), iM 5 19]))) (
 .reg [iI 20 (.bin .add (.t 10) (.c (.d (.int 1)))), iM 10 20])))
def C_spec_l05Product : Fun := ⟨2, 22,
 .seq (
 .reg [iI 4 (.mv (.c (.d (.int 0))))]) (
 .seq (
 .reg [iI 5 (.mv (.c (.d (.int 1))))]) (
 .seq (
 .seq (
 .reg [iM 8 0, iI 9 (.len (.t 8)), iI 10 (.mv (.c (.d (.int 0))))]) (
 .block 0 (
 .loop L0_spec_l05Product))) (
 .seq (
 .reg [iM 21 5, iM 4 21]) (
 .ret)))),
 [.t 4]⟩
theorem k_spec_l05Product : cFun Try.prog Try.f52 = some C_spec_l05Product.erase := by kernel_rfl
def L0_impl_hasInt : C :=
 .seq (
 .reg [iI 10 (.bin .lss (.t 9) (.t 8))]) (
 .seq (
 .cond (.t 10) (
 .skip) (
 .exit 0)) (
 .seq (
 .block 1 (
 .seq (
 .reg [iI 11 (.idx 1 (.t 7) (.t 9)), iI 12 (.ld (.t 11)), iM 6 12]) (
 .seq (
 .reg [iM 13 1, iM 14 6, iI 15 (.bin .eql (.t 13) (.t 14))]) (
 .cond (.t 15) (
 .seq (
 .reg [iI 4 (.mv (.c (.d (.bool true))))]) (
 .ret)) (
 .skip))))) (
 .reg [iI 16 (.bin .add (.t 9) (.c (.d (.int 1)))), iM 9 16])))
def C_impl_hasInt : Fun := ⟨2, 17,
 .seq (
 .reg [iI 4 (.mv (.c (.d (.bool false))))]) (
 .seq (
 .seq (
 .reg [iM 7 0, iI 8 (.len (.t 7)), iI 9 (.mv (.c (.d (.int 0))))]) (
 .block 0 (
 .loop L0_impl_hasInt))) (
 .seq (
 .reg [iI 4 (.mv (.c (.d (.bool false))))]) (
 .ret))),
 [.t 4]⟩
theorem k_impl_hasInt : cFun Try.prog Try.f48 = some C_impl_hasInt.erase := by kernel_rfl
def C_spec_l02Width : Fun := ⟨1, 11,
 .seq (
 .reg [iI 1 (.box (.t 0)), iI 2 (.mv (.c (.d (.int 0))))]) (
 .seq (
 .seq (
 .reg [iI 3 (.fld 0 (.t 1)), iI 4 (.ld (.t 3))]) (
 .block 0 (
 .seq (
 .reg [iI 6 (.bin .eql (.t 4) (.c (.d (.int 7)))), iM 5 6]) (
 .cond (.t 5) (
 .seq (
 .reg [iI 7 (.fld 2 (.t 1)), iI 8 (.ld (.t 7)), iM 2 8]) (
 .ret)) (
 .seq (
 .reg [iI 10 (.bin .eql (.t 4) (.c (.d (.int 8)))), iM 9 10]) (
 .cond (.t 9) (
 .seq (
 .reg [iI 2 (.mv (.c (.d (.int 4))))]) (
 .ret)) (
 .skip))))))) (
 .seq (
 .reg [iI 2 (.mv (.c (.d (.int 1))))]) (
 .ret))),
 [.t 2]⟩
theorem k_spec_l02Width : cFun Try.prog Try.f59 = some C_spec_l02Width.erase := by kernel_rfl
def C_spec_l02Top : Fun := ⟨1, 22,
 .seq (
 .reg [iI 1 (.box (.t 0)), iI 2 (.mv (.c (.d (.int 0))))]) (
 .seq (
 .seq (
 .reg [iI 3 (.fld 0 (.t 1)), iI 4 (.ld (.t 3))]) (
 .block 0 (
 .seq (
 .reg [iI 6 (.bin .eql (.t 4) (.c (.d (.int 1)))), iM 5 6]) (
 .cond (.t 5) (
 .seq (
 .reg [iI 2 (.mv (.c (.d (.int 1))))]) (
 .ret)) (
 .seq (
 .seq (
 .reg [iI 8 (.bin .eql (.t 4) (.c (.d (.int 3)))), iM 7 8]) (
 .cond (.t 7) (
 .skip) (
 .seq (
 .reg [iI 9 (.bin .eql (.t 4) (.c (.d (.int 4)))), iM 7 9]) (
 .cond (.t 7) (
 .skip) (
 .reg [iI 10 (.bin .eql (.t 4) (.c (.d (.int 5)))), iM 7 10]))))) (
 .cond (.t 7) (
 .seq (
 .reg [iI 11 (.fld 1 (.t 1)), iI 12 (.ld (.t 11)), iM 2 12]) (
 .ret)) (
 .seq (
 .reg [iI 14 (.bin .eql (.t 4) (.c (.d (.int 6)))), iM 13 14]) (
 .cond (.t 13) (
 .seq (
 .reg [iI 15 (.fld 2 (.t 1)), iI 16 (.ld (.t 15)), iI 17 (.bin .shl (.c (.d (.int 1))) (.t 16)), iI 18 (.bin .sub (.t 17) (.c (.d (.int 1)))), iM 2 18]) (
 .ret)) (
 .skip))))))))) (
 .seq (
 .reg [iI 19 (.fld 1 (.t 1)), iI 20 (.ld (.t 19)), iI 21 (.bin .sub (.t 20) (.c (.d (.int 1)))), iM 2 21]) (
 .ret))),
 [.t 2]⟩
theorem k_spec_l02Top : cFun Try.prog Try.f61 = some C_spec_l02Top.erase := by kernel_rfl
def C_impl_RingOk : Fun := ⟨1, 87,
 .seq (
 .reg [iI 1 (.box (.t 0)), iI 2 (.mv (.c (.d (.bool false))))]) (
 .seq (
 .seq (
 .reg [iI 3 (.fld 0 (.t 1)), iI 4 (.ld (.t 3))]) (
 .block 0 (
 .seq (
 .reg [iI 6 (.bin .eql (.t 4) (.c (.d (.int 1)))), iM 5 6]) (
 .cond (.t 5) (
 .seq (
 .reg [iI 7 (.fld 1 (.t 1)), iI 8 (.ld (.t 7)), iI 9 (.bin .eql (.t 8) (.c (.d (.int 0)))), iM 10 9, iG 11 10 true (.fld 2 (.t 1)), iG 12 10 true (.ld (.t 11)), iG 13 10 true (.bin .eql (.t 12) (.c (.d (.int 0)))), iI 14 (.pick (.t 10) (.t 13) (.c (.d (.bool false)))), iM 2 14]) (
 .ret)) (
 .seq (
 .reg [iI 16 (.bin .eql (.t 4) (.c (.d (.int 2)))), iM 15 16]) (
 .cond (.t 15) (
 .seq (
 .reg [iI 17 (.fld 1 (.t 1)), iI 18 (.ld (.t 17)), iI 19 (.call 55 [(.t 18)]), iM 20 19, iG 21 20 true (.fld 2 (.t 1)), iG 22 20 true (.ld (.t 21)), iG 23 20 true (.bin .eql (.t 22) (.c (.d (.int 0)))), iI 24 (.pick (.t 20) (.t 23) (.c (.d (.bool false)))), iM 2 24]) (
 .ret)) (
 .seq (
 .seq (
 .reg [iI 26 (.bin .eql (.t 4) (.c (.d (.int 3)))), iM 25 26]) (
 .cond (.t 25) (
 .skip) (
 .seq (
 .reg [iI 27 (.bin .eql (.t 4) (.c (.d (.int 4)))), iM 25 27]) (
 .cond (.t 25) (
 .skip) (
 .reg [iI 28 (.bin .eql (.t 4) (.c (.d (.int 5)))), iM 25 28]))))) (
 .cond (.t 25) (
 .seq (
 .reg [iI 29 (.fld 1 (.t 1)), iI 30 (.ld (.t 29)), iI 31 (.bin .geq (.t 30) (.c (.d (.int 1)))), iM 32 31, iG 33 32 true (.fld 1 (.t 1)), iG 34 32 true (.ld (.t 33)), iG 35 32 true (.bin .leq (.t 34) (.c (.d (.int 1000000)))), iI 36 (.pick (.t 32) (.t 35) (.c (.d (.bool false)))), iM 37 36, iG 38 37 true (.fld 2 (.t 1)), iG 39 37 true (.ld (.t 38)), iG 40 37 true (.bin .eql (.t 39) (.c (.d (.int 0)))), iI 41 (.pick (.t 37) (.t 40) (.c (.d (.bool false)))), iM 2 41]) (
 .ret)) (
 .seq (
 .reg [iI 43 (.bin .eql (.t 4) (.c (.d (.int 6)))), iM 42 43]) (
 .cond (.t 42) (
 .seq (
 .reg [iI 44 (.fld 1 (.t 1)), iI 45 (.ld (.t 44)), iI 46 (.bin .eql (.t 45) (.c (.d (.int 0)))), iM 47 46, iG 48 47 true (.fld 2 (.t 1)), iG 49 47 true (.ld (.t 48)), iG 50 47 true (.bin .geq (.t 49) (.c (.d (.int 1)))), iI 51 (.pick (.t 47) (.t 50) (.c (.d (.bool false)))), iM 52 51, iG 53 52 true (.fld 2 (.t 1)), iG 54 52 true (.ld (.t 53)), iG 55 52 true (.bin .leq (.t 54) (.c (.d (.int 20)))), iI 56 (.pick (.t 52) (.t 55) (.c (.d (.bool false)))), iM 2 56]) (
 .ret)) (
 .seq (
 .reg [iI 58 (.bin .eql (.t 4) (.c (.d (.int 7)))), iM 57 58]) (
 .cond (.t 57) (
 .seq (
 .reg [iI 59 (.fld 1 (.t 1)), iI 60 (.ld (.t 59)), iI 61 (.call 55 [(.t 60)]), iM 62 61, iG 63 62 true (.fld 2 (.t 1)), iG 64 62 true (.ld (.t 63)), iG 65 62 true (.bin .geq (.t 64) (.c (.d (.int 1)))), iI 66 (.pick (.t 62) (.t 65) (.c (.d (.bool false)))), iM 67 66, iG 68 67 true (.fld 2 (.t 1)), iG 69 67 true (.ld (.t 68)), iG 70 67 true (.bin .leq (.t 69) (.c (.d (.int 6)))), iI 71 (.pick (.t 67) (.t 70) (.c (.d (.bool false)))), iM 2 71]) (
 .ret)) (
 .seq (
 .reg [iI 73 (.bin .eql (.t 4) (.c (.d (.int 8)))), iM 72 73]) (
 .cond (.t 72) (
 .seq (
 .reg [iI 74 (.fld 1 (.t 1)), iI 75 (.ld (.t 74)), iI 76 (.call 55 [(.t 75)]), iM 77 76, iG 78 77 true (.fld 1 (.t 1)), iG 79 77 true (.ld (.t 78)), iG 80 77 true (.bin .neq (.t 79) (.c (.d (.int 2)))), iI 81 (.pick (.t 77) (.t 80) (.c (.d (.bool false)))), iM 82 81, iG 83 82 true (.fld 2 (.t 1)), iG 84 82 true (.ld (.t 83)), iG 85 82 true (.bin .eql (.t 84) (.c (.d (.int 0)))), iI 86 (.pick (.t 82) (.t 85) (.c (.d (.bool false)))), iM 2 86]) (
 .ret)) (
 .skip))))))))))))))) (
 .seq (
 .reg [iI 2 (.mv (.c (.d (.bool false))))]) (
 .ret))),
 [.t 2]⟩
theorem k_impl_RingOk : cFun Try.prog Try.f41 = some C_impl_RingOk.erase := by kernel_rfl
def C_impl_rawWidth : Fun := ⟨1, 11,
 .seq (
 .reg [iI 1 (.box (.t 0)), iI 2 (.mv (.c (.d (.int 0))))]) (
 .seq (
 .seq (
 .reg [iI 3 (.fld 0 (.t 1)), iI 4 (.ld (.t 3))]) (
 .block 0 (
 .seq (
 .reg [iI 6 (.bin .eql (.t 4) (.c (.d (.int 7)))), iM 5 6]) (
 .cond (.t 5) (
 .seq (
 .reg [iI 7 (.fld 2 (.t 1)), iI 8 (.ld (.t 7)), iM 2 8]) (
 .ret)) (
 .seq (
 .reg [iI 10 (.bin .eql (.t 4) (.c (.d (.int 8)))), iM 9 10]) (
 .cond (.t 9) (
 .seq (
 .reg [iI 2 (.mv (.c (.d (.int 4))))]) (
 .ret)) (
 .skip))))))) (
 .seq (
 .reg [iI 2 (.mv (.c (.d (.int 1))))]) (
 .ret))),
 [.t 2]⟩
theorem k_impl_rawWidth : cFun Try.prog Try.f56 = some C_impl_rawWidth.erase := by kernel_rfl
def L0_impl_inRing : C :=
 .seq (
 .reg [iI 13 (.bin .lss (.t 12) (.t 11))]) (
 .seq (
 .cond (.t 13) (
 .skip) (
 .exit 0)) (
 .seq (
 .block 1 (
 .seq (
 .reg [iI 14 (.idx 1 (.t 10) (.t 12)), iI 15 (.ld (.t 14)), iM 7 15]) (
 .seq (
 .reg [iM 16 7, iI 17 (.bin .lss (.t 16) (.c (.d (.int 0)))), iM 18 17, iG 19 18 false (.mv (.t 7)), iG 20 18 false (.mv (.t 5)), iG 21 18 false (.bin .gtr (.t 19) (.t 20)), iI 22 (.pick (.t 18) (.c (.d (.bool true))) (.t 21))]) (
 .cond (.t 22) (
 .seq (
 .reg [iI 4 (.mv (.c (.d (.bool false))))]) (
 .ret)) (
 .skip))))) (
 .reg [iI 23 (.bin .add (.t 12) (.c (.d (.int 1)))), iM 12 23])))
def C_impl_inRing : Fun := ⟨2, 24,
 .seq (
 .reg [iI 2 (.box (.t 0)), iI 4 (.mv (.c (.d (.bool false))))]) (
 .seq (
 .reg [iI 8 (.ldn 3 (.t 2)), iI 9 (.call 62 [(.t 8)]), iM 5 9]) (
 .seq (
 .seq (
 .reg [iM 10 1, iI 11 (.len (.t 10)), iI 12 (.mv (.c (.d (.int 0))))]) (
 .block 0 (
 .loop L0_impl_inRing))) (
 .seq (
 .reg [iI 4 (.mv (.c (.d (.bool true))))]) (
 .ret)))),
 [.t 4]⟩
theorem k_impl_inRing : cFun Try.prog Try.f57 = some C_impl_inRing.erase := by kernel_rfl
def L0_spec_l05Put : C :=
 .seq (
 .reg [iI 15 (.bin .lss (.t 14) (.t 13))]) (
 .seq (
 .cond (.t 15) (
 .skip) (
 .exit 0)) (
 .seq (
 .block 1 (
 .seq (
 .reg [iM 16 14, iM 9 16]) (
 .draw [iI 17 (.fld 2 (.t 5)), iI 18 (.ld (.t 17)), iM 19 2, iM 20 8, iI 21 (.bin .mul (.t 19) (.t 20)), iM 22 9, iI 23 (.bin .add (.t 21) (.t 22)), iM 24 3, iM 25 9, iI 26 (.idx 1 (.t 24) (.t 25)), iI 27 (.ld (.t 26))]
 [iI 28 (.idx 1 (.t 18) (.t 23)),
 ⟨none, none, .st 1 (.t 28) (.t 27)⟩]))) (
 .reg [iI 29 (.bin .add (.t 14) (.c (.d (.int 1)))), iM 14 29])))
def C_spec_l05Put : Fun := ⟨4, 30,
 .seq (
 .reg [iI 4 (.box (.t 0)), iI 5 (.box (.t 1))]) (
 .seq (
 .reg [iI 10 (.ldn 3 (.t 4)), iI 11 (.call 59 [(.t 10)]), iM 8 11]) (
 .seq (
 .reg [iM 12 3, iI 13 (.len (.t 12)), iI 14 (.mv (.c (.d (.int 0))))]) (
 .block 0 (
 .loop L0_spec_l05Put)))),
 []⟩
theorem k_spec_l05Put : cFun Try.prog Try.f53 = some C_spec_l05Put.erase := by kernel_rfl
def L0_spec_l05Find : C :=
 .seq (
 .reg [iI 10 (.bin .lss (.t 9) (.t 8))]) (
 .seq (
 .cond (.t 10) (
 .skip) (
 .exit 0)) (
 .seq (
 .block 1 (
 .seq (
 .reg [iM 11 9, iI 12 (.idx 1 (.t 7) (.t 9)), iI 13 (.ld (.t 12)), iM 5 11, iM 6 13]) (
 .seq (
 .reg [iM 14 6, iM 15 1, iI 16 (.bin .eql (.t 14) (.t 15))]) (
 .cond (.t 16) (
 .seq (
 .reg [iM 17 5, iM 4 17]) (
 .ret)) (
 .skip))))) (
 .reg [iI 18 (.bin .add (.t 9) (.c (.d (.int 1)))), iM 9 18])))
def C_spec_l05Find : Fun := ⟨2, 19,
 .seq (
 .reg [iI 4 (.mv (.c (.d (.int 0))))]) (
 .seq (
 .seq (
 .reg [iM 7 0, iI 8 (.len (.t 7)), iI 9 (.mv (.c (.d (.int 0))))]) (
 .block 0 (
 .loop L0_spec_l05Find))) (
 .seq (
 .reg [iI 4 (.mv (.c (.d (.int (-1)))))]) (
 .ret))),
 [.t 4]⟩
theorem k_spec_l05Find : cFun Try.prog Try.f50 = some C_spec_l05Find.erase := by kernel_rfl
def C_spec_l05Ints : Fun := ⟨1, 6,
 .seq (
 .reg [iI 2 (.mv (.c (.nil)))]) (
 .seq (
 .reg [iI 3 (.mksl 1 0 [.d (.int 0)] []), iM 4 0, iI 5 (.app 1 8 [.d (.int 0)] (.t 3) (.t 4)), iM 2 5]) (
 .ret)),
 [.t 2]⟩
theorem k_spec_l05Ints : cFun Try.prog Try.f39 = some C_spec_l05Ints.erase := by kernel_rfl
def L0_impl_joinLabels : C :=
 .seq (
 .reg [iI 13 (.bin .lss (.t 12) (.t 11))]) (
 .seq (
 .cond (.t 13) (
 .skip) (
 .exit 0)) (
 .seq (
 .block 1 (
 .seq (
 .reg [iI 14 (.idx 1 (.t 10) (.t 12)), iI 15 (.ld (.t 14)), iM 7 15]) (
 .seq (
 .reg [iM 16 0, iM 17 7, iI 18 (.call 48 [(.t 16), (.t 17)]), iI 19 (.not (.t 18))]) (
 .cond (.t 19) (
 .reg [iM 20 5, iM 21 7, iI 22 (.mksl 1 1 [.d (.int 0)] [(0, 1, (.t 21))]), iI 23 (.app 1 8 [.d (.int 0)] (.t 20) (.t 22)), iM 5 23]) (
 .skip))))) (
 .reg [iI 24 (.bin .add (.t 12) (.c (.d (.int 1)))), iM 12 24])))
def C_impl_joinLabels : Fun := ⟨2, 26,
 .seq (
 .reg [iI 4 (.mv (.c (.nil)))]) (
 .seq (
 .reg [iM 8 0, iI 9 (.call 46 [(.t 8)]), iM 5 9]) (
 .seq (
 .seq (
 .reg [iM 10 1, iI 11 (.len (.t 10)), iI 12 (.mv (.c (.d (.int 0))))]) (
 .block 0 (
 .loop L0_impl_joinLabels))) (
 .seq (
 .reg [iM 25 5, iM 4 25]) (
 .ret)))),
 [.t 4]⟩
theorem k_impl_joinLabels : cFun Try.prog Try.f35 = some C_impl_joinLabels.erase := by kernel_rfl
def L0_impl_IsPrime : C :=
 .seq (
 .seq (
 .reg [iM 10 3, iM 11 3, iI 12 (.bin .mul (.t 10) (.t 11)), iM 13 0, iI 14 (.bin .leq (.t 12) (.t 13))]) (
 .cond (.t 14) (
 .skip) (
 .exit 0))) (
 .seq (
 .block 1 (
 .seq (
 .reg [iM 17 0, iM 18 3, iI 19 (.bin .rem (.t 17) (.t 18)), iI 20 (.bin .eql (.t 19) (.c (.d (.int 0))))]) (
 .cond (.t 20) (
 .seq (
 .reg [iI 2 (.mv (.c (.d (.bool false))))]) (
 .ret)) (
 .skip)))) (
 .reg [iM 15 3, iI 16 (.bin .add (.t 15) (.c (.d (.int 1)))), iM 3 16]))
def C_impl_IsPrime : Fun := ⟨1, 21,
 .seq (
 .reg [iI 2 (.mv (.c (.d (.bool false))))]) (
 .seq (
 .seq (
 .reg [iM 4 0, iI 5 (.bin .lss (.t 4) (.c (.d (.int 2)))), iM 6 5, iG 7 6 false (.mv (.t 0)), iG 8 6 false (.bin .gtr (.t 7) (.c (.d (.int 1000003)))), iI 9 (.pick (.t 6) (.c (.d (.bool true))) (.t 8))]) (
 .cond (.t 9) (
 .seq (
 .reg [iI 2 (.mv (.c (.d (.bool false))))]) (
 .ret)) (
 .skip))) (
 .seq (
 .seq (
 .reg [iI 3 (.mv (.c (.d (.int 2))))]) (
 .block 0 (
 .loop L0_impl_IsPrime))) (
 .seq (
 .reg [iI 2 (.mv (.c (.d (.bool true))))]) (
 .ret)))),
 [.t 2]⟩
theorem k_impl_IsPrime : cFun Try.prog Try.f55 = some C_impl_IsPrime.erase := by kernel_rfl
def C_impl_rawTop : Fun := ⟨1, 22,
 .seq (
 .reg [iI 1 (.box (.t 0)), iI 2 (.mv (.c (.d (.int 0))))]) (
 .seq (
 .seq (
 .reg [iI 3 (.fld 0 (.t 1)), iI 4 (.ld (.t 3))]) (
 .block 0 (
 .seq (
 .reg [iI 6 (.bin .eql (.t 4) (.c (.d (.int 1)))), iM 5 6]) (
 .cond (.t 5) (
 .seq (
 .reg [iI 2 (.mv (.c (.d (.int 1))))]) (
 .ret)) (
 .seq (
 .seq (
 .reg [iI 8 (.bin .eql (.t 4) (.c (.d (.int 3)))), iM 7 8]) (
 .cond (.t 7) (
 .skip) (
 .seq (
 .reg [iI 9 (.bin .eql (.t 4) (.c (.d (.int 4)))), iM 7 9]) (
 .cond (.t 7) (
 .skip) (
 .reg [iI 10 (.bin .eql (.t 4) (.c (.d (.int 5)))), iM 7 10]))))) (
 .cond (.t 7) (
 .seq (
 .reg [iI 11 (.fld 1 (.t 1)), iI 12 (.ld (.t 11)), iM 2 12]) (
 .ret)) (
 .seq (
 .reg [iI 14 (.bin .eql (.t 4) (.c (.d (.int 6)))), iM 13 14]) (
 .cond (.t 13) (
 .seq (
 .reg [iI 15 (.fld 2 (.t 1)), iI 16 (.ld (.t 15)), iI 17 (.bin .shl (.c (.d (.int 1))) (.t 16)), iI 18 (.bin .sub (.t 17) (.c (.d (.int 1)))), iM 2 18]) (
 .ret)) (
 .skip))))))))) (
 .seq (
 .reg [iI 19 (.fld 1 (.t 1)), iI 20 (.ld (.t 19)), iI 21 (.bin .sub (.t 20) (.c (.d (.int 1)))), iM 2 21]) (
 .ret))),
 [.t 2]⟩
theorem k_impl_rawTop : cFun Try.prog Try.f62 = some C_impl_rawTop.erase := by kernel_rfl
def L0_spec_l12Labels : C :=
 .seq (
 .seq (
 .reg [iM 6 4, iI 7 (.bin .leq (.t 6) (.c (.d (.int 99))))]) (
 .cond (.t 7) (
 .skip) (
 .exit 0))) (
 .seq (
 .block 1 (
 .seq (
 .reg [iM 10 0, iM 11 4, iI 12 (.call 40 [(.t 10), (.t 11)]), iI 13 (.bin .gtr (.t 12) (.c (.d (.int 0))))]) (
 .cond (.t 13) (
 .reg [iM 14 3, iM 15 4, iI 16 (.mksl 1 1 [.d (.int 0)] [(0, 1, (.t 15))]), iI 17 (.app 1 8 [.d (.int 0)] (.t 14) (.t 16)), iM 3 17]) (
 .skip)))) (
 .reg [iM 8 4, iI 9 (.bin .add (.t 8) (.c (.d (.int 1)))), iM 4 9]))
def C_spec_l12Labels : Fun := ⟨1, 19,
 .seq (
 .reg [iI 2 (.mv (.c (.nil)))]) (
 .seq (
 .reg [iI 5 (.mksl 1 0 [.d (.int 0)] []), iM 3 5]) (
 .seq (
 .seq (
 .reg [iI 4 (.mv (.c (.d (.int 0))))]) (
 .block 0 (
 .loop L0_spec_l12Labels))) (
 .seq (
 .reg [iM 18 3, iM 2 18]) (
 .ret)))),
 [.t 2]⟩
theorem k_spec_l12Labels : cFun Try.prog Try.f27 = some C_spec_l12Labels.erase := by kernel_rfl
def L0_impl_NetworkOk : C :=
 .seq (
 .reg [iI 50 (.bin .lss (.t 49) (.t 48))]) (
 .seq (
 .cond (.t 50) (
 .skip) (
 .exit 2)) (
 .seq (
 .block 3 (
 .seq (
 .reg [iI 51 (.idx 1 (.t 47) (.t 49)), iI 52 (.ld (.t 51)), iM 8 52]) (
 .seq (
 .reg [iM 53 8, iI 54 (.bin .lss (.t 53) (.c (.d (.int 0)))), iM 55 54, iG 56 55 false (.mv (.t 8)), iG 57 55 false (.bin .gtr (.t 56) (.c (.d (.int 99)))), iI 58 (.pick (.t 55) (.c (.d (.bool true))) (.t 57)), iM 59 58, iG 60 59 false (.mv (.t 8)), iG 61 59 false (.aix 1 100 (.t 5) (.t 60)), iG 62 59 false (.ld (.t 61)), iG 63 59 false (.bin .eql (.t 62) (.c (.d (.int 0)))), iI 64 (.pick (.t 59) (.c (.d (.bool true))) (.t 63))]) (
 .cond (.t 64) (
 .seq (
 .reg [iI 2 (.mv (.c (.d (.bool false))))]) (
 .ret)) (
 .skip))))) (
 .reg [iI 65 (.bin .add (.t 49) (.c (.d (.int 1)))), iM 49 65])))
def L1_impl_NetworkOk : C :=
 .seq (
 .reg [iI 29 (.bin .lss (.t 28) (.t 27))]) (
 .seq (
 .cond (.t 29) (
 .skip) (
 .exit 0)) (
 .seq (
 .block 1 (
 .seq (
 .reg [iI 30 (.idx 3 (.t 26) (.t 28)), iI 31 (.ldn 3 (.t 30)), iI 4 (.zer [.nil, .nil, .nil]),
 ⟨none, none, .st 3 (.t 4) (.t 31)⟩]) (
 .seq (
 .reg [iI 32 (.fld 0 (.t 1)), iI 33 (.ldn 3 (.t 32)), iI 34 (.ldn 3 (.t 4)), iI 35 (.call 42 [(.t 33), (.t 34)]), iI 36 (.not (.t 35))]) (
 .cond (.t 36) (
 .seq (
 .reg [iI 2 (.mv (.c (.d (.bool false))))]) (
 .ret)) (
 .skip))))) (
 .reg [iI 37 (.bin .add (.t 28) (.c (.d (.int 1)))), iM 28 37])))
def C_impl_NetworkOk : Fun := ⟨1, 72,
 .seq (
 .reg [iI 1 (.box (.t 0)), iI 2 (.mv (.c (.d (.bool false))))]) (
 .seq (
 .seq (
 .reg [iI 9 (.fld 0 (.t 1)), iI 10 (.ldn 3 (.t 9)), iI 11 (.call 41 [(.t 10)]), iI 12 (.not (.t 11)), iM 13 12, iG 14 13 false (.fld 3 (.t 1)), iG 15 13 false (.ld (.t 14)), iG 16 13 false (.len (.t 15)), iG 17 13 false (.bin .gtr (.t 16) (.c (.d (.int 12)))), iI 18 (.pick (.t 13) (.c (.d (.bool true))) (.t 17)), iM 19 18, iG 20 19 false (.fld 4 (.t 1)), iG 21 19 false (.ld (.t 20)), iG 22 19 false (.len (.t 21)), iG 23 19 false (.bin .gtr (.t 22) (.c (.d (.int 12)))), iI 24 (.pick (.t 19) (.c (.d (.bool true))) (.t 23))]) (
 .cond (.t 24) (
 .seq (
 .reg [iI 2 (.mv (.c (.d (.bool false))))]) (
 .ret)) (
 .skip))) (
 .seq (
 .seq (
 .reg [iI 25 (.fld 3 (.t 1)), iI 26 (.ld (.t 25)), iI 27 (.len (.t 26)), iI 28 (.mv (.c (.d (.int 0))))]) (
 .block 0 (
 .loop L1_impl_NetworkOk))) (
 .seq (
 .reg [iI 39 (.fld 3 (.t 1)), iI 40 (.ld (.t 39)), iI 41 (.call 43 [(.t 40)]), iM 38 41, iI 42 (.ext 0 (.t 38)), iI 43 (.ext 1 (.t 38)), iI 5 (.zer (reps 100 (.d (.int 0)))),
 ⟨none, none, .st 100 (.t 5) (.t 42)⟩, iM 6 43]) (
 .seq (
 .seq (
 .reg [iM 44 6, iI 45 (.not (.t 44))]) (
 .cond (.t 45) (
 .seq (
 .reg [iI 2 (.mv (.c (.d (.bool false))))]) (
 .ret)) (
 .skip))) (
 .seq (
 .seq (
 .reg [iI 46 (.fld 4 (.t 1)), iI 47 (.ld (.t 46)), iI 48 (.len (.t 47)), iI 49 (.mv (.c (.d (.int 0))))]) (
 .block 2 (
 .loop L0_impl_NetworkOk))) (
 .seq (
 .reg [iI 66 (.ldn 100 (.t 5)), iI 67 (.fld 4 (.t 1)), iI 68 (.ld (.t 67)), iI 69 (.call 45 [(.t 66), (.t 68)]), iI 70 (.call 44 [(.t 69)]), iI 71 (.bin .neq (.t 70) (.c (.d (.int (-1))))), iM 2 71]) (
 .ret))))))),
 [.t 2]⟩
theorem k_impl_NetworkOk : cFun Try.prog Try.f30 = some C_impl_NetworkOk.erase := by kernel_rfl
def L0_spec_l12Dim : C :=
 .seq (
 .reg [iI 11 (.bin .lss (.t 10) (.t 9))]) (
 .seq (
 .cond (.t 11) (
 .skip) (
 .exit 0)) (
 .seq (
 .block 1 (
 .seq (
 .reg [iI 12 (.idx 3 (.t 8) (.t 10)), iI 13 (.ldn 3 (.t 12)), iI 6 (.zer [.nil, .nil, .nil]),
 ⟨none, none, .st 3 (.t 6) (.t 13)⟩]) (
 .seq (
 .reg [iI 14 (.fld 0 (.t 6)), iI 15 (.ld (.t 14)), iM 16 1, iI 17 (.call 50 [(.t 15), (.t 16)]), iM 7 17]) (
 .seq (
 .reg [iM 18 7, iI 19 (.bin .geq (.t 18) (.c (.d (.int 0))))]) (
 .cond (.t 19) (
 .seq (
 .reg [iI 20 (.fld 1 (.t 6)), iI 21 (.ld (.t 20)), iM 22 7, iI 23 (.idx 1 (.t 21) (.t 22)), iI 24 (.ld (.t 23)), iM 4 24]) (
 .ret)) (
 .skip)))))) (
 .reg [iI 25 (.bin .add (.t 10) (.c (.d (.int 1)))), iM 10 25])))
def C_spec_l12Dim : Fun := ⟨2, 26,
 .seq (
 .reg [iI 4 (.mv (.c (.d (.int 0))))]) (
 .seq (
 .seq (
 .reg [iM 8 0, iI 9 (.len (.t 8)), iI 10 (.mv (.c (.d (.int 0))))]) (
 .block 0 (
 .loop L0_spec_l12Dim))) (
 .seq (
 .reg [iI 4 (.mv (.c (.d (.int 0))))]) (
 .ret))),
 [.t 4]⟩
theorem k_spec_l12Dim : cFun Try.prog Try.f40 = some C_spec_l12Dim.erase := by kernel_rfl
def L0_impl_dimsOf : C :=
 .seq (
 .reg [iI 19 (.bin .lss (.t 18) (.t 17))]) (
 .seq (
 .cond (.t 19) (
 .skip) (
 .exit 2)) (
 .seq (
 .block 3 (
 .seq (
 .reg [iM 20 18, iI 21 (.idx 1 (.t 16) (.t 18)), iI 22 (.ld (.t 21)), iM 7 20, iM 8 22]) (
 .seq (
 .seq (
 .draw [iM 23 8, iI 24 (.aix 1 100 (.t 4) (.t 23)), iI 25 (.ld (.t 24)), iI 26 (.bin .neq (.t 25) (.c (.d (.int 0)))), iM 27 26, iG 28 27 true (.mv (.t 8)), iG 29 27 true (.aix 1 100 (.t 4) (.t 28)), iG 30 27 true (.ld (.t 29)), iG 31 27 true (.fld 1 (.t 6)), iG 32 27 true (.ld (.t 31)), iG 33 27 true (.mv (.t 7)), iG 34 27 true (.idx 1 (.t 32) (.t 33)), iG 35 27 true (.ld (.t 34))]
 [iG 36 27 true (.bin .neq (.t 30) (.t 35)), iI 37 (.pick (.t 27) (.t 36) (.c (.d (.bool false))))]) (
 .cond (.t 37) (
 .seq (
 .reg [iI 38 (.ldn 100 (.t 4)),
 ⟨none, none, .st 100 (.t 2) (.t 38)⟩, iI 3 (.mv (.c (.d (.bool false))))]) (
 .ret)) (
 .skip))) (
 .reg [iM 39 8, iI 40 (.fld 1 (.t 6)), iI 41 (.ld (.t 40)), iM 42 7, iI 43 (.idx 1 (.t 41) (.t 42)), iI 44 (.ld (.t 43)), iI 45 (.aix 1 100 (.t 4) (.t 39)),
 ⟨none, none, .st 1 (.t 45) (.t 44)⟩])))) (
 .reg [iI 46 (.bin .add (.t 18) (.c (.d (.int 1)))), iM 18 46])))
def L1_impl_dimsOf : C :=
 .seq (
 .reg [iI 12 (.bin .lss (.t 11) (.t 10))]) (
 .seq (
 .cond (.t 12) (
 .skip) (
 .exit 0)) (
 .seq (
 .block 1 (
 .seq (
 .reg [iI 13 (.idx 3 (.t 9) (.t 11)), iI 14 (.ldn 3 (.t 13)), iI 6 (.zer [.nil, .nil, .nil]),
 ⟨none, none, .st 3 (.t 6) (.t 14)⟩]) (
 .seq (
 .reg [iI 15 (.fld 0 (.t 6)), iI 16 (.ld (.t 15)), iI 17 (.len (.t 16)), iI 18 (.mv (.c (.d (.int 0))))]) (
 .block 2 (
 .loop L0_impl_dimsOf))))) (
 .reg [iI 47 (.bin .add (.t 11) (.c (.d (.int 1)))), iM 11 47])))
def C_impl_dimsOf : Fun := ⟨1, 49,
 .seq (
 .reg [iI 2 (.zer (reps 100 (.d (.int 0)))), iI 3 (.mv (.c (.d (.bool false))))]) (
 .seq (
 .reg [iI 4 (.zer (reps 100 (.d (.int 0))))]) (
 .seq (
 .seq (
 .reg [iM 9 0, iI 10 (.len (.t 9)), iI 11 (.mv (.c (.d (.int 0))))]) (
 .block 0 (
 .loop L1_impl_dimsOf))) (
 .seq (
 .reg [iI 48 (.ldn 100 (.t 4)),
 ⟨none, none, .st 100 (.t 2) (.t 48)⟩, iI 3 (.mv (.c (.d (.bool true))))]) (
 .ret)))),
 [.cell 2 100, .t 3]⟩
theorem k_impl_dimsOf : cFun Try.prog Try.f43 = some C_impl_dimsOf.erase := by kernel_rfl
def L0_impl_axesOf : C :=
 .seq (
 .reg [iI 17 (.bin .lss (.t 16) (.t 15))]) (
 .seq (
 .cond (.t 17) (
 .skip) (
 .exit 0)) (
 .seq (
 .block 1 (
 .seq (
 .reg [iM 18 16, iI 19 (.idx 1 (.t 14) (.t 16)), iI 20 (.ld (.t 19)), iM 6 18, iM 7 20]) (
 .draw [iI 21 (.fld 1 (.t 5)), iI 22 (.ld (.t 21)), iM 23 6, iM 24 7, iI 25 (.aix 1 100 (.t 2) (.t 24)), iI 26 (.ld (.t 25))]
 [iI 27 (.idx 1 (.t 22) (.t 23)),
 ⟨none, none, .st 1 (.t 27) (.t 26)⟩]))) (
 .reg [iI 28 (.bin .add (.t 16) (.c (.d (.int 1)))), iM 16 28])))
def C_impl_axesOf : Fun := ⟨2, 30,
 .seq (
 .reg [iI 2 (.box (.t 0)), iI 4 (.zer [.nil, .nil, .nil])]) (
 .seq (
 .draw [iM 8 1, iI 9 (.call 46 [(.t 8)]), iM 10 1, iI 11 (.len (.t 10)), iI 12 (.make 1 8 [.d (.int 0)] (.t 11) (.t 11)), iI 13 (.agg [.nil, .nil, .nil] [(0, 1, (.t 9)), (1, 1, (.t 12))]), iI 5 (.zer [.nil, .nil, .nil])]
 [⟨none, none, .st 3 (.t 5) (.t 13)⟩]) (
 .seq (
 .seq (
 .reg [iM 14 1, iI 15 (.len (.t 14)), iI 16 (.mv (.c (.d (.int 0))))]) (
 .block 0 (
 .loop L0_impl_axesOf))) (
 .seq (
 .reg [iI 29 (.ldn 3 (.t 5)),
 ⟨none, none, .st 3 (.t 4) (.t 29)⟩]) (
 .ret)))),
 [.cell 4 3]⟩
theorem k_impl_axesOf : cFun Try.prog Try.f45 = some C_impl_axesOf.erase := by kernel_rfl
def L0_impl_cappedProduct : C :=
 .seq (
 .reg [iI 11 (.bin .lss (.t 10) (.t 9))]) (
 .seq (
 .cond (.t 11) (
 .skip) (
 .exit 0)) (
 .seq (
 .block 1 (
 .seq (
 .reg [iI 12 (.idx 1 (.t 8) (.t 10)), iI 13 (.ld (.t 12)), iM 7 13]) (
 .reg [iM 14 5, iM 15 7, iI 16 (.bin .mul (.t 14) (.t 15)), iM 17 1, iI 18 (.mnx false (.t 16) (.t 17)), iM 5 18]))) (
 .reg [iI 19 (.bin .add (.t 10) (.c (.d (.int 1)))), iM 10 19])))
def C_impl_cappedProduct : Fun := ⟨2, 21,
 .seq (
 .reg [iI 4 (.mv (.c (.d (.int 0))))]) (
 .seq (
 .reg [iI 5 (.mv (.c (.d (.int 1))))]) (
 .seq (
 .seq (
 .reg [iM 8 0, iI 9 (.len (.t 8)), iI 10 (.mv (.c (.d (.int 0))))]) (
 .block 0 (
 .loop L0_impl_cappedProduct))) (
 .seq (
 .reg [iM 20 5, iM 4 20]) (
 .ret)))),
 [.t 4]⟩
theorem k_impl_cappedProduct : cFun Try.prog Try.f47 = some C_impl_cappedProduct.erase := by kernel_rfl
def L0_spec_l05Zero : C :=
 .seq (
 .seq (
 .reg [iM 16 8, iI 17 (.bin .gtr (.t 16) (.c (.d (.int 0))))]) (
 .cond (.t 17) (
 .skip) (
 .exit 0))) (
 .seq (
 .block 1 (
 .draw [iI 20 (.fld 2 (.t 7)), iI 21 (.ld (.t 20)), iI 22 (.ldn 3 (.t 3)), iI 23 (.call 58 [(.t 22)])]
 [iI 24 (.app 1 8 [.d (.int 0)] (.t 21) (.t 23)), iI 25 (.fld 2 (.t 7)),
 ⟨none, none, .st 1 (.t 25) (.t 24)⟩])) (
 .reg [iM 18 8, iI 19 (.bin .sub (.t 18) (.c (.d (.int 1)))), iM 8 19]))
def C_spec_l05Zero : Fun := ⟨3, 27,
 .seq (
 .reg [iI 3 (.box (.t 0)), iI 6 (.zer [.nil, .nil, .nil])]) (
 .seq (
 .reg [iM 9 1, iI 10 (.call 39 [(.t 9)]), iM 11 2, iI 12 (.call 39 [(.t 11)]), iI 13 (.agg [.nil, .nil, .nil] [(0, 1, (.t 10)), (1, 1, (.t 12))]), iI 7 (.zer [.nil, .nil, .nil]),
 ⟨none, none, .st 3 (.t 7) (.t 13)⟩]) (
 .seq (
 .seq (
 .reg [iM 14 2, iI 15 (.call 52 [(.t 14), (.c (.d (.int 4096)))]), iM 8 15]) (
 .block 0 (
 .loop L0_spec_l05Zero))) (
 .seq (
 .reg [iI 26 (.ldn 3 (.t 7)),
 ⟨none, none, .st 3 (.t 6) (.t 26)⟩]) (
 .ret)))),
 [.cell 6 3]⟩
theorem k_spec_l05Zero : cFun Try.prog Try.f51 = some C_spec_l05Zero.erase := by kernel_rfl
def L0_spec_l01New : C :=
 .seq (
 .seq (
 .reg [iM 8 4, iM 9 0, iI 10 (.len (.t 9)), iI 11 (.bin .lss (.t 8) (.t 10)), iM 12 11, iG 13 12 true (.mv (.t 4)), iG 14 12 true (.bin .lss (.t 13) (.c (.d (.int 4000)))), iI 15 (.pick (.t 12) (.t 14) (.c (.d (.bool false))))]) (
 .cond (.t 15) (
 .skip) (
 .exit 0))) (
 .seq (
 .block 1 (
 .reg [iM 18 3, iI 19 (.bin .mul (.t 18) (.c (.d (.int 131)))), iM 20 0, iM 21 4, iI 22 (.idx 1 (.t 20) (.t 21)), iI 23 (.ld (.t 22)), iI 24 (.cvt false (.t 23)), iI 25 (.bin .add (.t 19) (.t 24)), iI 26 (.bin .add (.t 25) (.c (.d (.int 7)))), iI 27 (.bin .and (.t 26) (.c (.d (.int 1073741823)))), iM 3 27])) (
 .reg [iM 16 4, iI 17 (.bin .add (.t 16) (.c (.d (.int 1)))), iM 4 17]))
def C_spec_l01New : Fun := ⟨1, 32,
 .seq (
 .reg [iI 2 (.mv (.c (.any)))]) (
 .seq (
 .reg [iM 5 0, iI 6 (.len (.t 5)), iI 7 (.bin .add (.c (.d (.int 55127))) (.t 6)), iM 3 7]) (
 .seq (
 .seq (
 .reg [iI 4 (.mv (.c (.d (.int 0))))]) (
 .block 0 (
 .loop L0_spec_l01New))) (
 .seq (
 .reg [iM 28 0, iM 29 3, iI 30 (.agg [.nil, .d (.int 0), .d (.int 0)] [(0, 1, (.t 28)), (2, 1, (.t 29))]), iI 31 (.box (.t 30)), iM 2 31]) (
 .ret)))),
 [.t 2]⟩
theorem k_spec_l01New : cFun Try.prog Try.f24 = some C_spec_l01New.erase := by kernel_rfl
def C_spec_l01Byte : Fun := ⟨1, 58,
 .seq (
 .reg [iI 2 (.mv (.c (.d (.int 0))))]) (
 .seq (
 .reg [iM 4 0, iM 5 0, iI 6 (.nck (.t 5)), iI 7 (.fld 2 (.t 6)), iI 8 (.ld (.t 7)), iI 9 (.bin .mul (.t 8) (.c (.d (.int 6364136223846793005)))), iI 10 (.bin .add (.t 9) (.c (.d (.int 1442695040888963407)))), iI 11 (.nck (.t 4)), iI 12 (.fld 2 (.t 11)),
 ⟨none, none, .st 1 (.t 12) (.t 10)⟩]) (
 .seq (
 .draw [iM 13 0, iI 14 (.nck (.t 13)), iI 15 (.fld 2 (.t 14)), iI 16 (.ld (.t 15)), iI 17 (.shk 33 (.t 16)), iM 18 0, iI 19 (.nck (.t 18)), iI 20 (.fld 2 (.t 19)), iI 21 (.ld (.t 20)), iI 22 (.shk 45 (.t 21))]
 [iI 23 (.bin .xor (.t 17) (.t 22)), iI 24 (.bin .and (.t 23) (.c (.d (.int 255)))), iM 3 24]) (
 .seq (
 .seq (
 .draw [iM 25 0, iI 26 (.nck (.t 25)), iI 27 (.fld 1 (.t 26)), iI 28 (.ld (.t 27)), iM 29 0, iI 30 (.nck (.t 29)), iI 31 (.fld 0 (.t 30)), iI 32 (.ld (.t 31)), iI 33 (.len (.t 32))]
 [iI 34 (.bin .lss (.t 28) (.t 33))]) (
 .cond (.t 34) (
 .seq (
 .draw [iM 35 3, iM 36 0, iI 37 (.nck (.t 36)), iI 38 (.fld 0 (.t 37)), iI 39 (.ld (.t 38)), iM 40 0, iI 41 (.nck (.t 40)), iI 42 (.fld 1 (.t 41)), iI 43 (.ld (.t 42)), iI 44 (.idx 1 (.t 39) (.t 43)), iI 45 (.ld (.t 44)), iI 46 (.cvt false (.t 45))]
 [iI 47 (.bin .add (.t 35) (.t 46)), iI 48 (.bin .and (.t 47) (.c (.d (.int 255)))), iM 3 48]) (
 .reg [iM 49 0, iM 50 0, iI 51 (.nck (.t 50)), iI 52 (.fld 1 (.t 51)), iI 53 (.ld (.t 52)), iI 54 (.bin .add (.t 53) (.c (.d (.int 1)))), iI 55 (.nck (.t 49)), iI 56 (.fld 1 (.t 55)),
 ⟨none, none, .st 1 (.t 56) (.t 54)⟩])) (
 .skip))) (
 .seq (
 .reg [iM 57 3, iM 2 57]) (
 .ret))))),
 [.t 2]⟩
theorem k_spec_l01Byte : cFun Try.prog Try.f29 = some C_spec_l01Byte.erase := by kernel_rfl
def L0_spec_l05Fill : C :=
 .seq (
 .seq (
 .reg [iM 15 10, iM 16 3, iI 17 (.call 52 [(.t 16), (.c (.d (.int 4096)))]), iI 18 (.bin .lss (.t 15) (.t 17))]) (
 .cond (.t 18) (
 .skip) (
 .exit 0))) (
 .seq (
 .block 1 (
 .drawW [iI 21 (.ldn 3 (.t 5)), iI 22 (.ldn 3 (.t 9)), iM 23 10, iM 24 0, iI 25 (.ldn 3 (.t 5))]
 [iI 21 (.ldn 3 (.t 5)), iI 22 (.ldn 3 (.t 9)), iM 23 10]
 [iI 26 (.call 54 [(.t 24), (.t 25)])]
 [iI 27 (.call 53 [(.t 21), (.t 22), (.t 23), (.t 26)])])) (
 .reg [iM 19 10, iI 20 (.bin .add (.t 19) (.c (.d (.int 1)))), iM 10 20]))
def C_spec_l05Fill : Fun := ⟨4, 29,
 .seq (
 .reg [iI 5 (.box (.t 1)), iI 8 (.zer [.nil, .nil, .nil])]) (
 .seq (
 .reg [iI 11 (.ldn 3 (.t 5)), iM 12 2, iM 13 3, iI 14 (.call 51 [(.t 11), (.t 12), (.t 13)]), iI 9 (.zer [.nil, .nil, .nil]),
 ⟨none, none, .st 3 (.t 9) (.t 14)⟩]) (
 .seq (
 .seq (
 .reg [iI 10 (.mv (.c (.d (.int 0))))]) (
 .block 0 (
 .loop L0_spec_l05Fill))) (
 .seq (
 .reg [iI 28 (.ldn 3 (.t 9)),
 ⟨none, none, .st 3 (.t 8) (.t 28)⟩]) (
 .ret)))),
 [.cell 8 3]⟩
theorem k_spec_l05Fill : cFunW Try.prog [54] Try.f38 = some C_spec_l05Fill.erase := by kernel_rfl
def L0_spec_l12Net : C :=
 .seq (
 .reg [iI 36 (.bin .lss (.t 35) (.t 34))]) (
 .seq (
 .cond (.t 36) (
 .skip) (
 .exit 2)) (
 .seq (
 .block 3 (
 .seq (
 .reg [iI 37 (.idx 1 (.t 33) (.t 35)), iI 38 (.ld (.t 37)), iM 10 38]) (
 .seq (
 .reg [iM 39 0, iI 40 (.call 28 [(.t 39), (.c (.d (.int 3)))])]) (
 .cond (.t 40) (
 .reg [iI 41 (.fld 4 (.t 7)), iI 42 (.ld (.t 41)), iM 43 10, iI 44 (.mksl 1 1 [.d (.int 0)] [(0, 1, (.t 43))]), iI 45 (.app 1 8 [.d (.int 0)] (.t 42) (.t 44)), iI 46 (.fld 4 (.t 7)),
 ⟨none, none, .st 1 (.t 46) (.t 45)⟩]) (
 .skip))))) (
 .reg [iI 47 (.bin .add (.t 35) (.c (.d (.int 1)))), iM 35 47])))
def L1_spec_l12Net : C :=
 .seq (
 .seq (
 .reg [iM 17 8, iI 18 (.bin .gtr (.t 17) (.c (.d (.int 0))))]) (
 .cond (.t 18) (
 .skip) (
 .exit 0))) (
 .seq (
 .block 1 (
 .drawW [iI 21 (.fld 3 (.t 7)), iI 22 (.ld (.t 21)), iM 23 0, iI 24 (.ldn 3 (.t 4))]
 [iI 21 (.fld 3 (.t 7)), iI 22 (.ld (.t 21))]
 [iI 25 (.call 25 [(.t 23), (.t 24)]), iI 26 (.mksl 3 1 [.nil, .nil, .nil] [(0, 3, (.t 25))])]
 [iI 27 (.app 3 72 [.nil, .nil, .nil] (.t 22) (.t 26)), iI 28 (.fld 3 (.t 7)),
 ⟨none, none, .st 1 (.t 28) (.t 27)⟩])) (
 .reg [iM 19 8, iI 20 (.bin .sub (.t 19) (.c (.d (.int 1)))), iM 8 20]))
def C_spec_l12Net : Fun := ⟨3, 49,
 .seq (
 .reg [iI 4 (.box (.t 1)), iI 6 (.zer [.d (.int 0), .d (.int 0), .d (.int 0), .nil, .nil])]) (
 .seq (
 .reg [iI 11 (.ldn 3 (.t 4)), iI 12 (.agg [.d (.int 0), .d (.int 0), .d (.int 0), .nil, .nil] [(0, 3, (.t 11))]), iI 7 (.zer [.d (.int 0), .d (.int 0), .d (.int 0), .nil, .nil]),
 ⟨none, none, .st 5 (.t 7) (.t 12)⟩]) (
 .seq (
 .seq (
 .reg [iM 13 0, iM 14 2, iI 15 (.bin .add (.t 14) (.c (.d (.int 1)))), iI 16 (.call 22 [(.t 13), (.t 15)]), iM 8 16]) (
 .block 0 (
 .loop L1_spec_l12Net))) (
 .seq (
 .seq (
 .reg [iM 29 0, iI 30 (.fld 3 (.t 7)), iI 31 (.ld (.t 30)), iI 32 (.call 27 [(.t 31)]), iI 33 (.call 26 [(.t 29), (.t 32)]), iI 34 (.len (.t 33)), iI 35 (.mv (.c (.d (.int 0))))]) (
 .block 2 (
 .loop L0_spec_l12Net))) (
 .seq (
 .reg [iI 48 (.ldn 5 (.t 7)),
 ⟨none, none, .st 5 (.t 6) (.t 48)⟩]) (
 .ret))))),
 [.cell 6 5]⟩
theorem k_spec_l12Net : cFunW Try.prog [25] Try.f15 = some C_spec_l12Net.erase := by kernel_rfl
def L0_spec_l17Order : C :=
 .seq (
 .seq (
 .reg [iM 20 5, iI 21 (.len (.t 20)), iI 22 (.bin .gtr (.t 21) (.c (.d (.int 1))))]) (
 .cond (.t 22) (
 .skip) (
 .exit 2))) (
 .block 3 (
 .seq (
 .reg [iM 23 0, iM 24 5, iI 25 (.call 26 [(.t 23), (.t 24)]), iM 5 25]) (
 .seq (
 .reg [iM 26 5, iI 27 (.len (.t 26)), iI 28 (.bin .sub (.t 27) (.c (.d (.int 2)))), iM 8 28]) (
 .seq (
 .gh (
 .draw [iM 29 7, iM 30 5, iM 31 8, iI 32 (.idx 1 (.t 30) (.t 31)), iI 33 (.ld (.t 32)), iM 34 5, iM 35 8, iI 36 (.bin .add (.t 35) (.c (.d (.int 1)))), iI 37 (.idx 1 (.t 34) (.t 36)), iI 38 (.ld (.t 37)), iI 39 (.mnx false (.t 33) (.t 38)), iM 40 5, iM 41 8, iI 42 (.idx 1 (.t 40) (.t 41)), iI 43 (.ld (.t 42)), iM 44 5, iM 45 8, iI 46 (.bin .add (.t 45) (.c (.d (.int 1)))), iI 47 (.idx 1 (.t 44) (.t 46)), iI 48 (.ld (.t 47)), iI 49 (.mnx true (.t 43) (.t 48)), iI 50 (.agg [.d (.int 0), .d (.int 0)] [(0, 1, (.t 39)), (1, 1, (.t 49))]), iI 51 (.mksl 2 1 [.d (.int 0), .d (.int 0)] [(0, 2, (.t 50))])]
 [iI 52 (.app 2 16 [.d (.int 0), .d (.int 0)] (.t 29) (.t 51)), iM 7 52])) (
 .reg [iM 53 5, iM 54 8, iI 55 (.slc 1 (.t 53) none (some (.t 54))), iM 56 1, iM 57 7, iI 58 (.len (.t 57)), iI 59 (.bin .add (.t 56) (.t 58)), iI 60 (.bin .sub (.t 59) (.c (.d (.int 1)))), iI 61 (.mksl 1 1 [.d (.int 0)] [(0, 1, (.t 60))]), iI 62 (.app 1 8 [.d (.int 0)] (.t 55) (.t 61)), iM 5 62])))))
def L1_spec_l17Order : C :=
 .seq (
 .seq (
 .reg [iM 10 6, iM 11 1, iI 12 (.bin .lss (.t 10) (.t 11))]) (
 .cond (.t 12) (
 .skip) (
 .exit 0))) (
 .seq (
 .block 1 (
 .reg [iM 15 5, iM 16 6, iI 17 (.mksl 1 1 [.d (.int 0)] [(0, 1, (.t 16))]), iI 18 (.app 1 8 [.d (.int 0)] (.t 15) (.t 17)), iM 5 18])) (
 .reg [iM 13 6, iI 14 (.bin .add (.t 13) (.c (.d (.int 1)))), iM 6 14]))
def C_spec_l17Order : Fun := ⟨2, 64,
 .seq (
 .reg [iI 4 (.mv (.c (.nil)))]) (
 .seq (
 .reg [iI 9 (.mksl 1 0 [.d (.int 0)] []), iM 5 9]) (
 .seq (
 .seq (
 .reg [iI 6 (.mv (.c (.d (.int 0))))]) (
 .block 0 (
 .loop L1_spec_l17Order))) (
 .seq (
 .reg [iI 19 (.mksl 2 0 [.d (.int 0), .d (.int 0)] []), iM 7 19]) (
 .seq (
 .block 2 (
 .loop L0_spec_l17Order)) (
 .seq (
 .reg [iM 63 7, iM 4 63]) (
 .ret)))))),
 [.t 4]⟩
theorem k_spec_l17Order : cFun Try.prog Try.f16 = some C_spec_l17Order.erase := by kernel_rfl
end Go.Proofs.Ytmkdphmjgfbjaaa
