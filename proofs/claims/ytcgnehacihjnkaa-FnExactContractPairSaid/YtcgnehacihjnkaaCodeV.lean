/-
  The compiled code of functions of the seat (written by mkcode.py). No condition.
-/
import Derived.Test.YtcgnehacihjnkaaLiftE
import Derived.Test.YtcgnehacihjnkaaProg
import Derived.KernelRfl
namespace Go.Proofs.Ytcgnehacihjnkaa
open Go.Lift

def L0_impl_keptOnly : C :=
 .seq (
 .reg [⟨some 11, none, .bin .lss (.t 10) (.t 9)⟩]) (
 .seq (
 .cond (.t 11) (
 .skip) (
 .exit 0)) (
 .seq (
 .block 1 (
 .seq (
 .reg [⟨some 12, none, .idx 1 (.t 8) (.t 10)⟩,
 ⟨some 13, none, .ld (.t 12)⟩,
 ⟨some 7, none, .mv (.t 13)⟩]) (
 .seq (
 .reg [⟨some 14, none, .mv (.t 1)⟩,
 ⟨some 15, none, .mv (.t 7)⟩,
 ⟨some 16, none, .call 67 [(.t 14), (.t 15)]⟩]) (
 .cond (.t 16) (
 .reg [⟨some 17, none, .mv (.t 5)⟩,
 ⟨some 18, none, .mv (.t 7)⟩,
 ⟨some 19, none, .mksl 1 1 [.d (.int 0)] [(0, 1, (.t 18))]⟩,
 ⟨some 20, none, .app 1 8 [.d (.int 0)] (.t 17) (.t 19)⟩,
 ⟨some 5, none, .mv (.t 20)⟩]) (
 .skip))))) (
 .reg [⟨some 21, none, .bin .add (.t 10) (.c (.d (.int 1)))⟩,
 ⟨some 10, none, .mv (.t 21)⟩])))

def C_impl_keptOnly : Fun := ⟨2, 23,
 .seq (
 .reg [⟨some 4, none, .mv (.c (.nil))⟩]) (
 .seq (
 .reg [⟨some 5, none, .mv (.c (.nil))⟩]) (
 .seq (
 .seq (
 .reg [⟨some 8, none, .mv (.t 0)⟩,
 ⟨some 9, none, .len (.t 8)⟩,
 ⟨some 10, none, .mv (.c (.d (.int 0)))⟩]) (
 .block 0 (
 .loop L0_impl_keptOnly))) (
 .seq (
 .reg [⟨some 22, none, .mv (.t 5)⟩,
 ⟨some 4, none, .mv (.t 22)⟩]) (
 .ret)))),
 [.t 4]⟩

theorem k_impl_keptOnly : cFun Try.prog Try.f127 = some C_impl_keptOnly.erase := by kernel_rfl

def L0_impl_fillTensor : C :=
 .seq (
 .seq (
 .reg [⟨some 25, none, .mv (.t 11)⟩,
 ⟨some 26, none, .mv (.t 10)⟩,
 ⟨some 27, none, .bin .lss (.t 25) (.t 26)⟩]) (
 .cond (.t 27) (
 .skip) (
 .exit 0))) (
 .seq (
 .block 1 (
 .reg [⟨some 30, none, .fld 2 (.t 9)⟩,
 ⟨some 31, none, .ld (.t 30)⟩,
 ⟨some 32, none, .mv (.t 3)⟩,
 ⟨some 33, none, .app 1 8 [.d (.int 0)] (.t 31) (.t 32)⟩,
 ⟨some 34, none, .fld 2 (.t 9)⟩,
 ⟨none, none, .st 1 (.t 34) (.t 33)⟩])) (
 .reg [⟨some 28, none, .mv (.t 11)⟩,
 ⟨some 29, none, .bin .add (.t 28) (.c (.d (.int 1)))⟩,
 ⟨some 11, none, .mv (.t 29)⟩]))

def C_impl_fillTensor : Fun := ⟨4, 36,
 .seq (
 .reg [⟨some 4, none, .box (.t 0)⟩,
 ⟨some 8, none, .zer [.nil, .nil, .nil]⟩]) (
 .seq (
 .reg [⟨some 12, none, .mv (.t 1)⟩,
 ⟨some 13, none, .call 143 [(.t 12)]⟩,
 ⟨some 14, none, .mv (.t 2)⟩,
 ⟨some 15, none, .call 143 [(.t 14)]⟩,
 ⟨some 16, none, .agg [.nil, .nil, .nil] [(0, 1, (.t 13)), (1, 1, (.t 15))]⟩,
 ⟨some 9, none, .zer [.nil, .nil, .nil]⟩,
 ⟨none, none, .st 3 (.t 9) (.t 16)⟩]) (
 .seq (
 .reg [⟨some 17, none, .mv (.t 2)⟩,
 ⟨some 18, none, .call 85 [(.t 17)]⟩,
 ⟨some 10, none, .mv (.t 18)⟩]) (
 .seq (
 .reg [⟨some 19, none, .mv (.t 10)⟩,
 ⟨some 20, none, .mv (.t 3)⟩,
 ⟨some 21, none, .len (.t 20)⟩,
 ⟨some 22, none, .bin .mul (.t 19) (.t 21)⟩,
 ⟨some 23, none, .make 1 8 [.d (.int 0)] (.c (.d (.int 0))) (.t 22)⟩,
 ⟨some 24, none, .fld 2 (.t 9)⟩,
 ⟨none, none, .st 1 (.t 24) (.t 23)⟩]) (
 .seq (
 .seq (
 .reg [⟨some 11, none, .mv (.c (.d (.int 0)))⟩]) (
 .block 0 (
 .loop L0_impl_fillTensor))) (
 .seq (
 .reg [⟨some 35, none, .ldn 3 (.t 9)⟩,
 ⟨none, none, .st 3 (.t 8) (.t 35)⟩]) (
 .ret)))))),
 [.cell 8 3]⟩

theorem k_impl_fillTensor : cFun Try.prog Try.f129 = some C_impl_fillTensor.erase := by kernel_rfl

def L0_spec_l08Keep : C :=
 .seq (
 .reg [⟨some 14, none, .bin .lss (.t 13) (.t 12)⟩]) (
 .seq (
 .cond (.t 14) (
 .skip) (
 .exit 0)) (
 .seq (
 .block 1 (
 .seq (
 .reg [⟨some 15, none, .mv (.t 13)⟩,
 ⟨some 16, none, .idx 1 (.t 11) (.t 13)⟩,
 ⟨some 17, none, .ld (.t 16)⟩,
 ⟨some 8, none, .mv (.t 15)⟩,
 ⟨some 9, none, .mv (.t 17)⟩]) (
 .seq (
 .reg [⟨some 18, none, .mv (.t 2)⟩,
 ⟨some 19, none, .mv (.t 9)⟩,
 ⟨some 20, none, .call 63 [(.t 18), (.t 19)]⟩,
 ⟨some 21, none, .bin .geq (.t 20) (.c (.d (.int 0)))⟩]) (
 .cond (.t 21) (
 .seq (
 .reg [⟨some 22, none, .fld 0 (.t 7)⟩,
 ⟨some 23, none, .ld (.t 22)⟩,
 ⟨some 24, none, .mv (.t 9)⟩,
 ⟨some 25, none, .mksl 1 1 [.d (.int 0)] [(0, 1, (.t 24))]⟩,
 ⟨some 26, none, .app 1 8 [.d (.int 0)] (.t 23) (.t 25)⟩,
 ⟨some 27, none, .fld 0 (.t 7)⟩,
 ⟨none, none, .st 1 (.t 27) (.t 26)⟩]) (
 .draw [⟨some 28, none, .fld 1 (.t 7)⟩,
 ⟨some 29, none, .ld (.t 28)⟩,
 ⟨some 30, none, .mv (.t 1)⟩,
 ⟨some 31, none, .mv (.t 8)⟩,
 ⟨some 32, none, .idx 1 (.t 30) (.t 31)⟩,
 ⟨some 33, none, .ld (.t 32)⟩,
 ⟨some 34, none, .mksl 1 1 [.d (.int 0)] [(0, 1, (.t 33))]⟩]
 [⟨some 35, none, .app 1 8 [.d (.int 0)] (.t 29) (.t 34)⟩,
 ⟨some 36, none, .fld 1 (.t 7)⟩,
 ⟨none, none, .st 1 (.t 36) (.t 35)⟩])) (
 .skip))))) (
 .reg [⟨some 37, none, .bin .add (.t 13) (.c (.d (.int 1)))⟩,
 ⟨some 13, none, .mv (.t 37)⟩])))

def C_spec_l08Keep : Fun := ⟨3, 39,
 .seq (
 .reg [⟨some 6, none, .zer [.nil, .nil, .nil]⟩]) (
 .seq (
 .reg [⟨some 10, none, .agg [.nil, .nil, .nil] []⟩,
 ⟨some 7, none, .zer [.nil, .nil, .nil]⟩,
 ⟨none, none, .st 3 (.t 7) (.t 10)⟩]) (
 .seq (
 .seq (
 .reg [⟨some 11, none, .mv (.t 0)⟩,
 ⟨some 12, none, .len (.t 11)⟩,
 ⟨some 13, none, .mv (.c (.d (.int 0)))⟩]) (
 .block 0 (
 .loop L0_spec_l08Keep))) (
 .seq (
 .reg [⟨some 38, none, .ldn 3 (.t 7)⟩,
 ⟨none, none, .st 3 (.t 6) (.t 38)⟩]) (
 .ret)))),
 [.cell 6 3]⟩

theorem k_spec_l08Keep : cFun Try.prog Try.f164 = some C_spec_l08Keep.erase := by kernel_rfl

def L0_spec_l05Zero : C :=
 .seq (
 .seq (
 .reg [⟨some 16, none, .mv (.t 8)⟩,
 ⟨some 17, none, .bin .gtr (.t 16) (.c (.d (.int 0)))⟩]) (
 .cond (.t 17) (
 .skip) (
 .exit 0))) (
 .seq (
 .block 1 (
 .draw [⟨some 20, none, .fld 2 (.t 7)⟩,
 ⟨some 21, none, .ld (.t 20)⟩,
 ⟨some 22, none, .ldn 3 (.t 3)⟩,
 ⟨some 23, none, .call 182 [(.t 22)]⟩]
 [⟨some 24, none, .app 1 8 [.d (.int 0)] (.t 21) (.t 23)⟩,
 ⟨some 25, none, .fld 2 (.t 7)⟩,
 ⟨none, none, .st 1 (.t 25) (.t 24)⟩])) (
 .reg [⟨some 18, none, .mv (.t 8)⟩,
 ⟨some 19, none, .bin .sub (.t 18) (.c (.d (.int 1)))⟩,
 ⟨some 8, none, .mv (.t 19)⟩]))

def C_spec_l05Zero : Fun := ⟨3, 27,
 .seq (
 .reg [⟨some 3, none, .box (.t 0)⟩,
 ⟨some 6, none, .zer [.nil, .nil, .nil]⟩]) (
 .seq (
 .reg [⟨some 9, none, .mv (.t 1)⟩,
 ⟨some 10, none, .call 150 [(.t 9)]⟩,
 ⟨some 11, none, .mv (.t 2)⟩,
 ⟨some 12, none, .call 150 [(.t 11)]⟩,
 ⟨some 13, none, .agg [.nil, .nil, .nil] [(0, 1, (.t 10)), (1, 1, (.t 12))]⟩,
 ⟨some 7, none, .zer [.nil, .nil, .nil]⟩,
 ⟨none, none, .st 3 (.t 7) (.t 13)⟩]) (
 .seq (
 .seq (
 .reg [⟨some 14, none, .mv (.t 2)⟩,
 ⟨some 15, none, .call 146 [(.t 14), (.c (.d (.int 4096)))]⟩,
 ⟨some 8, none, .mv (.t 15)⟩]) (
 .block 0 (
 .loop L0_spec_l05Zero))) (
 .seq (
 .reg [⟨some 26, none, .ldn 3 (.t 7)⟩,
 ⟨none, none, .st 3 (.t 6) (.t 26)⟩]) (
 .ret)))),
 [.cell 6 3]⟩

theorem k_spec_l05Zero : cFun Try.prog Try.f170 = some C_spec_l05Zero.erase := by kernel_rfl

def L0_spec_l08Steps : C :=
 .seq (
 .seq (
 .reg [⟨some 16, none, .mv (.t 7)⟩,
 ⟨some 17, none, .bin .geq (.t 16) (.c (.d (.int 0)))⟩]) (
 .cond (.t 17) (
 .skip) (
 .exit 0))) (
 .seq (
 .block 1 (
 .seq (
 .seq (
 .reg [⟨some 20, none, .mv (.t 1)⟩,
 ⟨some 21, none, .fld 0 (.t 2)⟩,
 ⟨some 22, none, .ld (.t 21)⟩,
 ⟨some 23, none, .mv (.t 7)⟩,
 ⟨some 24, none, .idx 1 (.t 22) (.t 23)⟩,
 ⟨some 25, none, .ld (.t 24)⟩,
 ⟨some 26, none, .call 63 [(.t 20), (.t 25)]⟩,
 ⟨some 8, none, .mv (.t 26)⟩]) (
 .seq (
 .reg [⟨some 27, none, .mv (.t 8)⟩,
 ⟨some 28, none, .bin .geq (.t 27) (.c (.d (.int 0)))⟩]) (
 .cond (.t 28) (
 .reg [⟨some 29, none, .mv (.t 5)⟩,
 ⟨some 30, none, .mv (.t 8)⟩,
 ⟨some 31, none, .mv (.t 6)⟩,
 ⟨some 32, none, .idx 1 (.t 29) (.t 30)⟩,
 ⟨none, none, .st 1 (.t 32) (.t 31)⟩]) (
 .skip)))) (
 .reg [⟨some 33, none, .mv (.t 6)⟩,
 ⟨some 34, none, .fld 1 (.t 2)⟩,
 ⟨some 35, none, .ld (.t 34)⟩,
 ⟨some 36, none, .mv (.t 7)⟩,
 ⟨some 37, none, .idx 1 (.t 35) (.t 36)⟩,
 ⟨some 38, none, .ld (.t 37)⟩,
 ⟨some 39, none, .bin .mul (.t 33) (.t 38)⟩,
 ⟨some 6, none, .mv (.t 39)⟩]))) (
 .reg [⟨some 18, none, .mv (.t 7)⟩,
 ⟨some 19, none, .bin .sub (.t 18) (.c (.d (.int 1)))⟩,
 ⟨some 7, none, .mv (.t 19)⟩]))

def C_spec_l08Steps : Fun := ⟨2, 41,
 .seq (
 .reg [⟨some 2, none, .box (.t 0)⟩,
 ⟨some 4, none, .mv (.c (.nil))⟩]) (
 .seq (
 .reg [⟨some 9, none, .mv (.t 1)⟩,
 ⟨some 10, none, .len (.t 9)⟩,
 ⟨some 11, none, .make 1 8 [.d (.int 0)] (.t 10) (.t 10)⟩,
 ⟨some 5, none, .mv (.t 11)⟩]) (
 .seq (
 .reg [⟨some 6, none, .mv (.c (.d (.int 1)))⟩]) (
 .seq (
 .seq (
 .reg [⟨some 12, none, .fld 0 (.t 2)⟩,
 ⟨some 13, none, .ld (.t 12)⟩,
 ⟨some 14, none, .len (.t 13)⟩,
 ⟨some 15, none, .bin .sub (.t 14) (.c (.d (.int 1)))⟩,
 ⟨some 7, none, .mv (.t 15)⟩]) (
 .block 0 (
 .loop L0_spec_l08Steps))) (
 .seq (
 .reg [⟨some 40, none, .mv (.t 5)⟩,
 ⟨some 4, none, .mv (.t 40)⟩]) (
 .ret))))),
 [.t 4]⟩

theorem k_spec_l08Steps : cFun Try.prog Try.f171 = some C_spec_l08Steps.erase := by kernel_rfl

def C_spec_l08Fits : Fun := ⟨3, 31,
 .seq (
 .reg [⟨some 3, none, .box (.t 0)⟩,
 ⟨some 4, none, .box (.t 1)⟩,
 ⟨some 6, none, .mv (.c (.d (.bool false)))⟩]) (
 .seq (
 .reg [⟨some 11, none, .ldn 3 (.t 3)⟩,
 ⟨some 12, none, .ldn 3 (.t 4)⟩,
 ⟨some 13, none, .call 145 [(.t 11), (.t 12)]⟩,
 ⟨some 10, none, .mv (.t 13)⟩,
 ⟨some 14, none, .ext 0 (.t 10)⟩,
 ⟨some 15, none, .ext 1 (.t 10)⟩,
 ⟨some 16, none, .ext 2 (.t 10)⟩,
 ⟨some 7, none, .mv (.t 14)⟩,
 ⟨some 8, none, .mv (.t 15)⟩,
 ⟨some 9, none, .mv (.t 16)⟩]) (
 .seq (
 .reg [⟨some 17, none, .mv (.t 9)⟩,
 ⟨some 18, none, .mv (.t 17)⟩,
 ⟨some 19, some (18, true), .mv (.t 8)⟩,
 ⟨some 20, some (18, true), .call 146 [(.t 19), (.c (.d (.int 65536)))]⟩,
 ⟨some 21, some (18, true), .bin .leq (.t 20) (.c (.d (.int 65536)))⟩,
 ⟨some 22, none, .pick (.t 18) (.t 21) (.c (.d (.bool false)))⟩,
 ⟨some 23, none, .mv (.t 22)⟩,
 ⟨some 24, some (23, true), .mv (.t 7)⟩,
 ⟨some 25, some (23, true), .mv (.t 8)⟩,
 ⟨some 26, some (23, true), .mv (.t 2)⟩,
 ⟨some 27, some (23, true), .call 164 [(.t 24), (.t 25), (.t 26)]⟩,
 ⟨some 28, some (23, true), .call 137 [(.t 27)]⟩,
 ⟨some 29, some (23, true), .bin .geq (.t 28) (.c (.d (.int 0)))⟩,
 ⟨some 30, none, .pick (.t 23) (.t 29) (.c (.d (.bool false)))⟩,
 ⟨some 6, none, .mv (.t 30)⟩]) (
 .ret))),
 [.t 6]⟩

theorem k_spec_l08Fits : cFun Try.prog Try.f123 = some C_spec_l08Fits.erase := by kernel_rfl

def L0_spec_l08Pair : C :=
 .seq (
 .seq (
 .reg [⟨some 114, none, .mv (.t 23)⟩,
 ⟨some 115, none, .bin .geq (.t 114) (.c (.d (.int 0)))⟩]) (
 .cond (.t 115) (
 .skip) (
 .exit 4))) (
 .seq (
 .block 5 (
 .seq (
 .reg [⟨some 118, none, .mv (.t 16)⟩,
 ⟨some 119, none, .mv (.t 23)⟩,
 ⟨some 120, none, .idx 1 (.t 118) (.t 119)⟩,
 ⟨some 121, none, .ld (.t 120)⟩,
 ⟨some 122, none, .bin .add (.t 121) (.c (.d (.int 1)))⟩,
 ⟨some 123, none, .idx 1 (.t 118) (.t 119)⟩,
 ⟨none, none, .st 1 (.t 123) (.t 122)⟩]) (
 .seq (
 .seq (
 .draw [⟨some 124, none, .mv (.t 16)⟩,
 ⟨some 125, none, .mv (.t 23)⟩,
 ⟨some 126, none, .idx 1 (.t 124) (.t 125)⟩,
 ⟨some 127, none, .ld (.t 126)⟩,
 ⟨some 128, none, .mv (.t 10)⟩,
 ⟨some 129, none, .mv (.t 23)⟩,
 ⟨some 130, none, .idx 1 (.t 128) (.t 129)⟩,
 ⟨some 131, none, .ld (.t 130)⟩]
 [⟨some 132, none, .bin .lss (.t 127) (.t 131)⟩]) (
 .cond (.t 132) (
 .exit 4) (
 .skip))) (
 .reg [⟨some 133, none, .mv (.t 16)⟩,
 ⟨some 134, none, .mv (.t 23)⟩,
 ⟨some 135, none, .idx 1 (.t 133) (.t 134)⟩,
 ⟨none, none, .st 1 (.t 135) (.c (.d (.int 0)))⟩])))) (
 .reg [⟨some 116, none, .mv (.t 23)⟩,
 ⟨some 117, none, .bin .sub (.t 116) (.c (.d (.int 1)))⟩,
 ⟨some 23, none, .mv (.t 117)⟩]))

def L1_spec_l08Pair : C :=
 .seq (
 .reg [⟨some 62, none, .bin .lss (.t 61) (.t 60)⟩]) (
 .seq (
 .cond (.t 62) (
 .skip) (
 .exit 2)) (
 .seq (
 .block 3 (
 .seq (
 .reg [⟨some 63, none, .mv (.t 61)⟩,
 ⟨some 64, none, .idx 1 (.t 59) (.t 61)⟩,
 ⟨some 65, none, .ld (.t 64)⟩,
 ⟨some 21, none, .mv (.t 63)⟩,
 ⟨some 22, none, .mv (.t 65)⟩]) (
 .seq (
 .reg [⟨some 66, none, .mv (.t 18)⟩,
 ⟨some 67, none, .mv (.t 22)⟩,
 ⟨some 68, none, .mv (.t 13)⟩,
 ⟨some 69, none, .mv (.t 21)⟩,
 ⟨some 70, none, .idx 1 (.t 68) (.t 69)⟩,
 ⟨some 71, none, .ld (.t 70)⟩,
 ⟨some 72, none, .bin .mul (.t 67) (.t 71)⟩,
 ⟨some 73, none, .bin .add (.t 66) (.t 72)⟩,
 ⟨some 18, none, .mv (.t 73)⟩]) (
 .seq (
 .reg [⟨some 74, none, .mv (.t 19)⟩,
 ⟨some 75, none, .mv (.t 22)⟩,
 ⟨some 76, none, .mv (.t 14)⟩,
 ⟨some 77, none, .mv (.t 21)⟩,
 ⟨some 78, none, .idx 1 (.t 76) (.t 77)⟩,
 ⟨some 79, none, .ld (.t 78)⟩,
 ⟨some 80, none, .bin .mul (.t 75) (.t 79)⟩,
 ⟨some 81, none, .bin .add (.t 74) (.t 80)⟩,
 ⟨some 19, none, .mv (.t 81)⟩]) (
 .reg [⟨some 82, none, .mv (.t 20)⟩,
 ⟨some 83, none, .mv (.t 22)⟩,
 ⟨some 84, none, .mv (.t 15)⟩,
 ⟨some 85, none, .mv (.t 21)⟩,
 ⟨some 86, none, .idx 1 (.t 84) (.t 85)⟩,
 ⟨some 87, none, .ld (.t 86)⟩,
 ⟨some 88, none, .bin .mul (.t 83) (.t 87)⟩,
 ⟨some 89, none, .bin .add (.t 82) (.t 88)⟩,
 ⟨some 20, none, .mv (.t 89)⟩]))))) (
 .reg [⟨some 90, none, .bin .add (.t 61) (.c (.d (.int 1)))⟩,
 ⟨some 61, none, .mv (.t 90)⟩])))

def L2_spec_l08Pair : C :=
 .seq (
 .seq (
 .reg [⟨some 55, none, .mv (.t 17)⟩,
 ⟨some 56, none, .bin .gtr (.t 55) (.c (.d (.int 0)))⟩]) (
 .cond (.t 56) (
 .skip) (
 .exit 0))) (
 .seq (
 .block 1 (
 .seq (
 .reg [⟨some 18, none, .mv (.c (.d (.int 0)))⟩]) (
 .seq (
 .reg [⟨some 19, none, .mv (.c (.d (.int 0)))⟩]) (
 .seq (
 .reg [⟨some 20, none, .mv (.c (.d (.int 0)))⟩]) (
 .seq (
 .seq (
 .reg [⟨some 59, none, .mv (.t 16)⟩,
 ⟨some 60, none, .len (.t 59)⟩,
 ⟨some 61, none, .mv (.c (.d (.int 0)))⟩]) (
 .block 2 (
 .loop L1_spec_l08Pair))) (
 .seq (
 .draw [⟨some 91, none, .ldn 3 (.t 4)⟩,
 ⟨some 92, none, .ldn 3 (.t 12)⟩,
 ⟨some 93, none, .mv (.t 20)⟩,
 ⟨some 94, none, .ldn 3 (.t 4)⟩,
 ⟨some 95, none, .ldn 3 (.t 4)⟩,
 ⟨some 96, none, .ldn 3 (.t 12)⟩,
 ⟨some 97, none, .mv (.t 20)⟩,
 ⟨some 98, none, .call 157 [(.t 95), (.t 96), (.t 97)]⟩,
 ⟨some 99, none, .ldn 3 (.t 4)⟩,
 ⟨some 100, none, .ldn 3 (.t 4)⟩,
 ⟨some 101, none, .ldn 3 (.t 5)⟩,
 ⟨some 102, none, .mv (.t 18)⟩,
 ⟨some 103, none, .call 157 [(.t 100), (.t 101), (.t 102)]⟩,
 ⟨some 104, none, .ldn 3 (.t 4)⟩,
 ⟨some 105, none, .ldn 3 (.t 6)⟩,
 ⟨some 106, none, .mv (.t 19)⟩,
 ⟨some 107, none, .call 157 [(.t 104), (.t 105), (.t 106)]⟩,
 ⟨some 108, none, .call 156 [(.t 99), (.t 103), (.t 107)]⟩,
 ⟨some 109, none, .call 158 [(.t 94), (.t 98), (.t 108)]⟩]
 [⟨some 110, none, .call 155 [(.t 91), (.t 92), (.t 93), (.t 109)]⟩]) (
 .seq (
 .reg [⟨some 111, none, .mv (.t 16)⟩,
 ⟨some 112, none, .len (.t 111)⟩,
 ⟨some 113, none, .bin .sub (.t 112) (.c (.d (.int 1)))⟩,
 ⟨some 23, none, .mv (.t 113)⟩]) (
 .block 4 (
 .loop L0_spec_l08Pair))))))))) (
 .reg [⟨some 57, none, .mv (.t 17)⟩,
 ⟨some 58, none, .bin .sub (.t 57) (.c (.d (.int 1)))⟩,
 ⟨some 17, none, .mv (.t 58)⟩]))

def C_spec_l08Pair : Fun := ⟨4, 137,
 .seq (
 .reg [⟨some 4, none, .box (.t 0)⟩,
 ⟨some 5, none, .box (.t 1)⟩,
 ⟨some 6, none, .box (.t 2)⟩,
 ⟨some 8, none, .zer [.nil, .nil, .nil]⟩]) (
 .seq (
 .reg [⟨some 25, none, .ldn 3 (.t 5)⟩,
 ⟨some 26, none, .ldn 3 (.t 6)⟩,
 ⟨some 27, none, .call 145 [(.t 25), (.t 26)]⟩,
 ⟨some 24, none, .mv (.t 27)⟩,
 ⟨some 28, none, .ext 0 (.t 24)⟩,
 ⟨some 29, none, .ext 1 (.t 24)⟩,
 ⟨some 30, none, .ext 2 (.t 24)⟩,
 ⟨some 9, none, .mv (.t 28)⟩,
 ⟨some 10, none, .mv (.t 29)⟩,
 ⟨some 11, none, .mv (.t 30)⟩]) (
 .seq (
 .reg [⟨some 31, none, .mv (.t 9)⟩,
 ⟨some 32, none, .mv (.t 10)⟩,
 ⟨some 33, none, .mv (.t 3)⟩,
 ⟨some 34, none, .call 164 [(.t 31), (.t 32), (.t 33)]⟩,
 ⟨some 12, none, .zer [.nil, .nil, .nil]⟩,
 ⟨none, none, .st 3 (.t 12) (.t 34)⟩]) (
 .seq (
 .reg [⟨some 35, none, .ldn 3 (.t 4)⟩,
 ⟨some 36, none, .fld 0 (.t 12)⟩,
 ⟨some 37, none, .ld (.t 36)⟩,
 ⟨some 38, none, .fld 1 (.t 12)⟩,
 ⟨some 39, none, .ld (.t 38)⟩,
 ⟨some 40, none, .call 170 [(.t 35), (.t 37), (.t 39)]⟩,
 ⟨none, none, .st 3 (.t 12) (.t 40)⟩]) (
 .seq (
 .reg [⟨some 41, none, .ldn 3 (.t 5)⟩,
 ⟨some 42, none, .mv (.t 9)⟩,
 ⟨some 43, none, .call 171 [(.t 41), (.t 42)]⟩,
 ⟨some 13, none, .mv (.t 43)⟩]) (
 .seq (
 .reg [⟨some 44, none, .ldn 3 (.t 6)⟩,
 ⟨some 45, none, .mv (.t 9)⟩,
 ⟨some 46, none, .call 171 [(.t 44), (.t 45)]⟩,
 ⟨some 14, none, .mv (.t 46)⟩]) (
 .seq (
 .reg [⟨some 47, none, .ldn 3 (.t 12)⟩,
 ⟨some 48, none, .mv (.t 9)⟩,
 ⟨some 49, none, .call 171 [(.t 47), (.t 48)]⟩,
 ⟨some 15, none, .mv (.t 49)⟩]) (
 .seq (
 .reg [⟨some 50, none, .mv (.t 9)⟩,
 ⟨some 51, none, .len (.t 50)⟩,
 ⟨some 52, none, .make 1 8 [.d (.int 0)] (.t 51) (.t 51)⟩,
 ⟨some 16, none, .mv (.t 52)⟩]) (
 .seq (
 .seq (
 .reg [⟨some 53, none, .mv (.t 10)⟩,
 ⟨some 54, none, .call 146 [(.t 53), (.c (.d (.int 65536)))]⟩,
 ⟨some 17, none, .mv (.t 54)⟩]) (
 .block 0 (
 .loop L2_spec_l08Pair))) (
 .seq (
 .reg [⟨some 136, none, .ldn 3 (.t 12)⟩,
 ⟨none, none, .st 3 (.t 8) (.t 136)⟩]) (
 .ret)))))))))),
 [.cell 8 3]⟩

theorem k_spec_l08Pair : cFun Try.prog Try.f124 = some C_spec_l08Pair.erase := by kernel_rfl

def L0_impl_ContractPair : C :=
 .block 5 (
 .seq (
 .draw [⟨some 112, none, .ldn 3 (.t 4)⟩,
 ⟨some 113, none, .mv (.t 23)⟩,
 ⟨some 114, none, .ldn 3 (.t 4)⟩,
 ⟨some 115, none, .ldn 3 (.t 5)⟩,
 ⟨some 116, none, .mv (.t 19)⟩,
 ⟨some 117, none, .mv (.t 22)⟩,
 ⟨some 118, none, .call 133 [(.t 116), (.t 117)]⟩,
 ⟨some 119, none, .call 87 [(.t 114), (.t 115), (.t 118)]⟩,
 ⟨some 120, none, .ldn 3 (.t 4)⟩,
 ⟨some 121, none, .ldn 3 (.t 6)⟩,
 ⟨some 122, none, .mv (.t 20)⟩,
 ⟨some 123, none, .mv (.t 22)⟩,
 ⟨some 124, none, .call 133 [(.t 122), (.t 123)]⟩,
 ⟨some 125, none, .call 87 [(.t 120), (.t 121), (.t 124)]⟩]
 [⟨some 126, none, .call 86 [(.t 112), (.t 113), (.t 119), (.t 125)]⟩]) (
 .seq (
 .draw [⟨some 127, none, .ldn 3 (.t 4)⟩,
 ⟨some 128, none, .ldn 3 (.t 4)⟩,
 ⟨some 129, none, .ldn 3 (.t 14)⟩,
 ⟨some 130, none, .mv (.t 21)⟩,
 ⟨some 131, none, .mv (.t 22)⟩,
 ⟨some 132, none, .call 133 [(.t 130), (.t 131)]⟩,
 ⟨some 133, none, .call 87 [(.t 128), (.t 129), (.t 132)]⟩,
 ⟨some 134, none, .mv (.t 23)⟩]
 [⟨some 135, none, .call 134 [(.t 127), (.t 133), (.t 134)]⟩]) (
 .seq (
 .reg [⟨some 136, none, .mv (.t 11)⟩,
 ⟨some 137, none, .mv (.t 22)⟩,
 ⟨some 138, none, .call 135 [(.t 136), (.t 137)]⟩,
 ⟨some 139, none, .not (.t 138)⟩]) (
 .cond (.t 139) (
 .seq (
 .reg [⟨some 140, none, .ldn 3 (.t 14)⟩,
 ⟨none, none, .st 3 (.t 8) (.t 140)⟩,
 ⟨some 9, none, .mv (.c (.d (.bool true)))⟩]) (
 .ret)) (
 .skip)))))

def L1_impl_ContractPair : C :=
 .seq (
 .reg [⟨some 68, none, .bin .lss (.t 67) (.t 66)⟩]) (
 .seq (
 .cond (.t 68) (
 .skip) (
 .exit 2)) (
 .seq (
 .block 3 (
 .seq (
 .reg [⟨some 69, none, .mv (.t 67)⟩,
 ⟨some 70, none, .idx 1 (.t 65) (.t 67)⟩,
 ⟨some 71, none, .ld (.t 70)⟩,
 ⟨some 17, none, .mv (.t 69)⟩,
 ⟨some 18, none, .mv (.t 71)⟩]) (
 .seq (
 .reg [⟨some 72, none, .mv (.t 18)⟩,
 ⟨some 73, none, .mv (.t 16)⟩,
 ⟨some 74, none, .bin .eql (.t 72) (.t 73)⟩]) (
 .cond (.t 74) (
 .draw [⟨some 75, none, .fld 1 (.t 14)⟩,
 ⟨some 76, none, .ld (.t 75)⟩,
 ⟨some 77, none, .mv (.t 15)⟩,
 ⟨some 78, none, .mv (.t 11)⟩,
 ⟨some 79, none, .mv (.t 17)⟩,
 ⟨some 80, none, .idx 1 (.t 78) (.t 79)⟩,
 ⟨some 81, none, .ld (.t 80)⟩]
 [⟨some 82, none, .idx 1 (.t 76) (.t 77)⟩,
 ⟨none, none, .st 1 (.t 82) (.t 81)⟩]) (
 .skip))))) (
 .reg [⟨some 83, none, .bin .add (.t 67) (.c (.d (.int 1)))⟩,
 ⟨some 67, none, .mv (.t 83)⟩])))

def L2_impl_ContractPair : C :=
 .seq (
 .reg [⟨some 61, none, .bin .lss (.t 60) (.t 59)⟩]) (
 .seq (
 .cond (.t 61) (
 .skip) (
 .exit 0)) (
 .seq (
 .block 1 (
 .seq (
 .reg [⟨some 62, none, .mv (.t 60)⟩,
 ⟨some 63, none, .idx 1 (.t 58) (.t 60)⟩,
 ⟨some 64, none, .ld (.t 63)⟩,
 ⟨some 15, none, .mv (.t 62)⟩,
 ⟨some 16, none, .mv (.t 64)⟩]) (
 .seq (
 .reg [⟨some 65, none, .mv (.t 10)⟩,
 ⟨some 66, none, .len (.t 65)⟩,
 ⟨some 67, none, .mv (.c (.d (.int 0)))⟩]) (
 .block 2 (
 .loop L1_impl_ContractPair))))) (
 .reg [⟨some 84, none, .bin .add (.t 60) (.c (.d (.int 1)))⟩,
 ⟨some 60, none, .mv (.t 84)⟩])))

def C_impl_ContractPair : Fun := ⟨4, 141,
 .seq (
 .reg [⟨some 4, none, .box (.t 0)⟩,
 ⟨some 5, none, .box (.t 1)⟩,
 ⟨some 6, none, .box (.t 2)⟩,
 ⟨some 8, none, .zer [.nil, .nil, .nil]⟩,
 ⟨some 9, none, .mv (.c (.d (.bool false)))⟩]) (
 .seq (
 .seq (
 .reg [⟨some 24, none, .ldn 3 (.t 4)⟩,
 ⟨some 25, none, .ldn 3 (.t 5)⟩,
 ⟨some 26, none, .call 125 [(.t 24), (.t 25)]⟩,
 ⟨some 27, none, .not (.t 26)⟩,
 ⟨some 28, none, .mv (.t 27)⟩,
 ⟨some 29, some (28, false), .ldn 3 (.t 4)⟩,
 ⟨some 30, some (28, false), .ldn 3 (.t 6)⟩,
 ⟨some 31, some (28, false), .call 125 [(.t 29), (.t 30)]⟩,
 ⟨some 32, some (28, false), .not (.t 31)⟩,
 ⟨some 33, none, .pick (.t 28) (.c (.d (.bool true))) (.t 32)⟩]) (
 .cond (.t 33) (
 .seq (
 .reg [⟨some 34, none, .agg [.nil, .nil, .nil] []⟩,
 ⟨none, none, .st 3 (.t 8) (.t 34)⟩,
 ⟨some 9, none, .mv (.c (.d (.bool false)))⟩]) (
 .ret)) (
 .skip))) (
 .seq (
 .reg [⟨some 36, none, .ldn 3 (.t 5)⟩,
 ⟨some 37, none, .ldn 3 (.t 6)⟩,
 ⟨some 38, none, .call 126 [(.t 36), (.t 37)]⟩,
 ⟨some 35, none, .mv (.t 38)⟩,
 ⟨some 39, none, .ext 0 (.t 35)⟩,
 ⟨some 40, none, .ext 1 (.t 35)⟩,
 ⟨some 41, none, .ext 2 (.t 35)⟩,
 ⟨some 10, none, .mv (.t 39)⟩,
 ⟨some 11, none, .mv (.t 40)⟩,
 ⟨some 12, none, .mv (.t 41)⟩]) (
 .seq (
 .seq (
 .reg [⟨some 42, none, .mv (.t 12)⟩,
 ⟨some 43, none, .not (.t 42)⟩,
 ⟨some 44, none, .mv (.t 43)⟩,
 ⟨some 45, some (44, false), .mv (.t 11)⟩,
 ⟨some 46, some (44, false), .call 85 [(.t 45)]⟩,
 ⟨some 47, some (44, false), .bin .gtr (.t 46) (.c (.d (.int 65536)))⟩,
 ⟨some 48, none, .pick (.t 44) (.c (.d (.bool true))) (.t 47)⟩]) (
 .cond (.t 48) (
 .seq (
 .reg [⟨some 49, none, .agg [.nil, .nil, .nil] []⟩,
 ⟨none, none, .st 3 (.t 8) (.t 49)⟩,
 ⟨some 9, none, .mv (.c (.d (.bool false)))⟩]) (
 .ret)) (
 .skip))) (
 .seq (
 .reg [⟨some 50, none, .mv (.t 10)⟩,
 ⟨some 51, none, .mv (.t 3)⟩,
 ⟨some 52, none, .call 127 [(.t 50), (.t 51)]⟩,
 ⟨some 13, none, .mv (.t 52)⟩]) (
 .seq (
 .reg [⟨some 53, none, .mv (.t 13)⟩,
 ⟨some 54, none, .mv (.t 13)⟩,
 ⟨some 55, none, .len (.t 54)⟩,
 ⟨some 56, none, .make 1 8 [.d (.int 0)] (.t 55) (.t 55)⟩,
 ⟨some 57, none, .agg [.nil, .nil, .nil] [(0, 1, (.t 53)), (1, 1, (.t 56))]⟩,
 ⟨some 14, none, .zer [.nil, .nil, .nil]⟩,
 ⟨none, none, .st 3 (.t 14) (.t 57)⟩]) (
 .seq (
 .seq (
 .reg [⟨some 58, none, .mv (.t 13)⟩,
 ⟨some 59, none, .len (.t 58)⟩,
 ⟨some 60, none, .mv (.c (.d (.int 0)))⟩]) (
 .block 0 (
 .loop L2_impl_ContractPair))) (
 .seq (
 .seq (
 .reg [⟨some 85, none, .ldn 3 (.t 14)⟩,
 ⟨some 86, none, .call 128 [(.t 85)]⟩,
 ⟨some 87, none, .bin .eql (.t 86) (.c (.d (.int (-1))))⟩]) (
 .cond (.t 87) (
 .seq (
 .reg [⟨some 88, none, .agg [.nil, .nil, .nil] []⟩,
 ⟨none, none, .st 3 (.t 8) (.t 88)⟩,
 ⟨some 9, none, .mv (.c (.d (.bool false)))⟩]) (
 .ret)) (
 .skip))) (
 .seq (
 .draw [⟨some 89, none, .ldn 3 (.t 4)⟩,
 ⟨some 90, none, .fld 0 (.t 14)⟩,
 ⟨some 91, none, .ld (.t 90)⟩,
 ⟨some 92, none, .fld 1 (.t 14)⟩,
 ⟨some 93, none, .ld (.t 92)⟩,
 ⟨some 94, none, .ldn 3 (.t 4)⟩,
 ⟨some 95, none, .call 130 [(.t 94)]⟩]
 [⟨some 96, none, .call 129 [(.t 89), (.t 91), (.t 93), (.t 95)]⟩,
 ⟨none, none, .st 3 (.t 14) (.t 96)⟩]) (
 .seq (
 .draw [⟨some 97, none, .ldn 3 (.t 5)⟩,
 ⟨some 98, none, .mv (.t 10)⟩,
 ⟨some 99, none, .call 131 [(.t 97), (.t 98)]⟩,
 ⟨some 100, none, .ldn 3 (.t 6)⟩,
 ⟨some 101, none, .mv (.t 10)⟩,
 ⟨some 102, none, .call 131 [(.t 100), (.t 101)]⟩,
 ⟨some 103, none, .ldn 3 (.t 14)⟩,
 ⟨some 104, none, .mv (.t 10)⟩]
 [⟨some 105, none, .call 131 [(.t 103), (.t 104)]⟩,
 ⟨some 19, none, .mv (.t 99)⟩,
 ⟨some 20, none, .mv (.t 102)⟩,
 ⟨some 21, none, .mv (.t 105)⟩]) (
 .seq (
 .reg [⟨some 106, none, .mv (.t 10)⟩,
 ⟨some 107, none, .len (.t 106)⟩,
 ⟨some 108, none, .make 1 8 [.d (.int 0)] (.t 107) (.t 107)⟩,
 ⟨some 22, none, .mv (.t 108)⟩]) (
 .seq (
 .reg [⟨some 109, none, .ldn 3 (.t 4)⟩,
 ⟨some 110, none, .call 132 [(.t 109)]⟩,
 ⟨some 111, none, .make 1 8 [.d (.int 0)] (.t 110) (.t 110)⟩,
 ⟨some 23, none, .mv (.t 111)⟩]) (
 .block 4 (
 .loop L0_impl_ContractPair))))))))))))),
 [.cell 8 3, .t 9]⟩

theorem k_impl_ContractPair : cFun Try.prog Try.f58 = some C_impl_ContractPair.erase := by kernel_rfl

def C_spec_ContractPair : Fun := ⟨4, 33,
 .seq (
 .reg [⟨some 4, none, .box (.t 0)⟩,
 ⟨some 5, none, .box (.t 1)⟩,
 ⟨some 6, none, .box (.t 2)⟩,
 ⟨some 8, none, .zer [.nil, .nil, .nil]⟩,
 ⟨some 9, none, .mv (.c (.d (.bool false)))⟩]) (
 .seq (
 .seq (
 .reg [⟨some 10, none, .ldn 3 (.t 4)⟩,
 ⟨some 11, none, .ldn 3 (.t 5)⟩,
 ⟨some 12, none, .call 122 [(.t 10), (.t 11)]⟩,
 ⟨some 13, none, .not (.t 12)⟩,
 ⟨some 14, none, .mv (.t 13)⟩,
 ⟨some 15, some (14, false), .ldn 3 (.t 4)⟩,
 ⟨some 16, some (14, false), .ldn 3 (.t 6)⟩,
 ⟨some 17, some (14, false), .call 122 [(.t 15), (.t 16)]⟩,
 ⟨some 18, some (14, false), .not (.t 17)⟩,
 ⟨some 19, none, .pick (.t 14) (.c (.d (.bool true))) (.t 18)⟩,
 ⟨some 20, none, .mv (.t 19)⟩,
 ⟨some 21, some (20, false), .ldn 3 (.t 5)⟩,
 ⟨some 22, some (20, false), .ldn 3 (.t 6)⟩,
 ⟨some 23, some (20, false), .mv (.t 3)⟩,
 ⟨some 24, some (20, false), .call 123 [(.t 21), (.t 22), (.t 23)]⟩,
 ⟨some 25, some (20, false), .not (.t 24)⟩,
 ⟨some 26, none, .pick (.t 20) (.c (.d (.bool true))) (.t 25)⟩]) (
 .cond (.t 26) (
 .seq (
 .reg [⟨some 27, none, .agg [.nil, .nil, .nil] []⟩,
 ⟨none, none, .st 3 (.t 8) (.t 27)⟩,
 ⟨some 9, none, .mv (.c (.d (.bool false)))⟩]) (
 .ret)) (
 .skip))) (
 .seq (
 .reg [⟨some 28, none, .ldn 3 (.t 4)⟩,
 ⟨some 29, none, .ldn 3 (.t 5)⟩,
 ⟨some 30, none, .ldn 3 (.t 6)⟩,
 ⟨some 31, none, .mv (.t 3)⟩,
 ⟨some 32, none, .call 124 [(.t 28), (.t 29), (.t 30), (.t 31)]⟩,
 ⟨none, none, .st 3 (.t 8) (.t 32)⟩,
 ⟨some 9, none, .mv (.c (.d (.bool true)))⟩]) (
 .ret))),
 [.cell 8 3, .t 9]⟩

theorem k_spec_ContractPair : cFun Try.prog Try.f57 = some C_spec_ContractPair.erase := by kernel_rfl
end Go.Proofs.Ytcgnehacihjnkaa
