/-
  The compiled code of functions of the seat (written by mkcode.py). No condition.
-/
import Derived.Test.YtcgnehacihjnkaaLiftE
import Derived.Test.YtcgnehacihjnkaaProg
import Derived.KernelRfl
namespace Go.Proofs.Ytcgnehacihjnkaa
open Go.Lift

def L0_impl_BestWidth : C :=
 .seq (
 .reg [⟨some 68, none, .bin .lss (.t 67) (.t 66)⟩]) (
 .seq (
 .cond (.t 68) (
 .skip) (
 .exit 6)) (
 .seq (
 .block 7 (
 .seq (
 .reg [⟨some 69, none, .mv (.t 67)⟩,
 ⟨some 70, none, .idx 1 (.t 65) (.t 67)⟩,
 ⟨some 71, none, .ld (.t 70)⟩,
 ⟨some 10, none, .mv (.t 69)⟩,
 ⟨some 11, none, .mv (.t 71)⟩]) (
 .seq (
 .reg [⟨some 72, none, .mv (.t 6)⟩,
 ⟨some 73, none, .mv (.t 10)⟩,
 ⟨some 74, none, .bin .shr (.t 72) (.t 73)⟩,
 ⟨some 75, none, .bin .and (.t 74) (.c (.d (.int 1)))⟩,
 ⟨some 76, none, .bin .eql (.t 75) (.c (.d (.int 0)))⟩]) (
 .cond (.t 76) (
 .seq (
 .draw [⟨some 77, none, .mv (.t 4)⟩,
 ⟨some 78, none, .mv (.t 6)⟩,
 ⟨some 79, none, .idx 1 (.t 77) (.t 78)⟩,
 ⟨some 80, none, .ld (.t 79)⟩,
 ⟨some 81, none, .mv (.t 7)⟩,
 ⟨some 82, none, .mv (.t 11)⟩,
 ⟨some 83, none, .call 93 [(.t 81), (.t 82)]⟩,
 ⟨some 84, none, .len (.t 83)⟩]
 [⟨some 85, none, .mnx true (.t 80) (.t 84)⟩,
 ⟨some 12, none, .mv (.t 85)⟩]) (
 .draw [⟨some 86, none, .mv (.t 4)⟩,
 ⟨some 87, none, .mv (.t 6)⟩,
 ⟨some 88, none, .mv (.t 10)⟩,
 ⟨some 89, none, .bin .shl (.c (.d (.int 1))) (.t 88)⟩,
 ⟨some 90, none, .bin .or (.t 87) (.t 89)⟩,
 ⟨some 91, none, .mv (.t 4)⟩,
 ⟨some 92, none, .mv (.t 6)⟩,
 ⟨some 93, none, .mv (.t 10)⟩,
 ⟨some 94, none, .bin .shl (.c (.d (.int 1))) (.t 93)⟩,
 ⟨some 95, none, .bin .or (.t 92) (.t 94)⟩,
 ⟨some 96, none, .idx 1 (.t 91) (.t 95)⟩,
 ⟨some 97, none, .ld (.t 96)⟩,
 ⟨some 98, none, .mv (.t 12)⟩,
 ⟨some 99, none, .mnx false (.t 97) (.t 98)⟩]
 [⟨some 100, none, .idx 1 (.t 86) (.t 90)⟩,
 ⟨none, none, .st 1 (.t 100) (.t 99)⟩])) (
 .skip))))) (
 .reg [⟨some 101, none, .bin .add (.t 67) (.c (.d (.int 1)))⟩,
 ⟨some 67, none, .mv (.t 101)⟩])))

def L1_impl_BestWidth : C :=
 .seq (
 .reg [⟨some 52, none, .bin .lss (.t 51) (.t 50)⟩]) (
 .seq (
 .cond (.t 52) (
 .skip) (
 .exit 4)) (
 .seq (
 .block 5 (
 .seq (
 .reg [⟨some 53, none, .mv (.t 51)⟩,
 ⟨some 54, none, .idx 1 (.t 49) (.t 51)⟩,
 ⟨some 55, none, .ld (.t 54)⟩,
 ⟨some 8, none, .mv (.t 53)⟩,
 ⟨some 9, none, .mv (.t 55)⟩]) (
 .seq (
 .reg [⟨some 56, none, .mv (.t 6)⟩,
 ⟨some 57, none, .mv (.t 8)⟩,
 ⟨some 58, none, .bin .shr (.t 56) (.t 57)⟩,
 ⟨some 59, none, .bin .and (.t 58) (.c (.d (.int 1)))⟩,
 ⟨some 60, none, .bin .eql (.t 59) (.c (.d (.int 1)))⟩]) (
 .cond (.t 60) (
 .reg [⟨some 61, none, .mv (.t 7)⟩,
 ⟨some 62, none, .mv (.t 9)⟩,
 ⟨some 63, none, .call 92 [(.t 61), (.t 62)]⟩,
 ⟨some 7, none, .mv (.t 63)⟩]) (
 .skip))))) (
 .reg [⟨some 64, none, .bin .add (.t 51) (.c (.d (.int 1)))⟩,
 ⟨some 51, none, .mv (.t 64)⟩])))

def L2_impl_BestWidth : C :=
 .seq (
 .reg [⟨some 45, none, .bin .lss (.t 44) (.t 43)⟩]) (
 .seq (
 .cond (.t 45) (
 .skip) (
 .exit 2)) (
 .seq (
 .block 3 (
 .seq (
 .reg [⟨some 46, none, .mv (.t 44)⟩,
 ⟨some 6, none, .mv (.t 46)⟩]) (
 .seq (
 .reg [⟨some 47, none, .ldn 5 (.t 1)⟩,
 ⟨some 48, none, .call 91 [(.t 47)]⟩,
 ⟨some 7, none, .mv (.t 48)⟩]) (
 .seq (
 .seq (
 .reg [⟨some 49, none, .mv (.t 3)⟩,
 ⟨some 50, none, .len (.t 49)⟩,
 ⟨some 51, none, .mv (.c (.d (.int 0)))⟩]) (
 .block 4 (
 .loop L1_impl_BestWidth))) (
 .seq (
 .reg [⟨some 65, none, .mv (.t 3)⟩,
 ⟨some 66, none, .len (.t 65)⟩,
 ⟨some 67, none, .mv (.c (.d (.int 0)))⟩]) (
 .block 6 (
 .loop L0_impl_BestWidth))))))) (
 .reg [⟨some 102, none, .bin .add (.t 44) (.c (.d (.int 1)))⟩,
 ⟨some 44, none, .mv (.t 102)⟩])))

def L3_impl_BestWidth : C :=
 .seq (
 .reg [⟨some 30, none, .bin .lss (.t 29) (.t 28)⟩]) (
 .seq (
 .cond (.t 30) (
 .skip) (
 .exit 0)) (
 .seq (
 .block 1 (
 .seq (
 .reg [⟨some 31, none, .mv (.t 29)⟩,
 ⟨some 5, none, .mv (.t 31)⟩]) (
 .seq (
 .reg [⟨some 32, none, .mv (.t 5)⟩,
 ⟨some 33, none, .bin .gtr (.t 32) (.c (.d (.int 0)))⟩]) (
 .cond (.t 33) (
 .reg [⟨some 34, none, .mv (.t 4)⟩,
 ⟨some 35, none, .mv (.t 5)⟩,
 ⟨some 36, none, .ldn 5 (.t 1)⟩,
 ⟨some 37, none, .call 79 [(.t 36)]⟩,
 ⟨some 38, none, .len (.t 37)⟩,
 ⟨some 39, none, .bin .add (.t 38) (.c (.d (.int 1)))⟩,
 ⟨some 40, none, .idx 1 (.t 34) (.t 35)⟩,
 ⟨none, none, .st 1 (.t 40) (.t 39)⟩]) (
 .skip))))) (
 .reg [⟨some 41, none, .bin .add (.t 29) (.c (.d (.int 1)))⟩,
 ⟨some 29, none, .mv (.t 41)⟩])))

def C_impl_BestWidth : Fun := ⟨1, 109,
 .seq (
 .reg [⟨some 1, none, .box (.t 0)⟩,
 ⟨some 2, none, .mv (.c (.d (.int 0)))⟩]) (
 .seq (
 .reg [⟨some 13, none, .ldn 5 (.t 1)⟩,
 ⟨some 14, none, .call 90 [(.t 13)]⟩,
 ⟨some 3, none, .mv (.t 14)⟩]) (
 .seq (
 .seq (
 .reg [⟨some 15, none, .ldn 5 (.t 1)⟩,
 ⟨some 16, none, .call 66 [(.t 15)]⟩,
 ⟨some 17, none, .not (.t 16)⟩,
 ⟨some 18, none, .mv (.t 17)⟩,
 ⟨some 19, some (18, false), .mv (.t 3)⟩,
 ⟨some 20, some (18, false), .len (.t 19)⟩,
 ⟨some 21, some (18, false), .bin .gtr (.t 20) (.c (.d (.int 10)))⟩,
 ⟨some 22, none, .pick (.t 18) (.c (.d (.bool true))) (.t 21)⟩]) (
 .cond (.t 22) (
 .seq (
 .reg [⟨some 2, none, .mv (.c (.d (.int (-1))))⟩]) (
 .ret)) (
 .skip))) (
 .seq (
 .reg [⟨some 23, none, .mv (.t 3)⟩,
 ⟨some 24, none, .len (.t 23)⟩,
 ⟨some 25, none, .bin .shl (.c (.d (.int 1))) (.t 24)⟩,
 ⟨some 26, none, .make 1 8 [.d (.int 0)] (.t 25) (.t 25)⟩,
 ⟨some 4, none, .mv (.t 26)⟩]) (
 .seq (
 .seq (
 .reg [⟨some 27, none, .mv (.t 4)⟩,
 ⟨some 28, none, .len (.t 27)⟩,
 ⟨some 29, none, .mv (.c (.d (.int 0)))⟩]) (
 .block 0 (
 .loop L3_impl_BestWidth))) (
 .seq (
 .seq (
 .reg [⟨some 42, none, .mv (.t 4)⟩,
 ⟨some 43, none, .len (.t 42)⟩,
 ⟨some 44, none, .mv (.c (.d (.int 0)))⟩]) (
 .block 2 (
 .loop L2_impl_BestWidth))) (
 .seq (
 .reg [⟨some 103, none, .mv (.t 4)⟩,
 ⟨some 104, none, .mv (.t 4)⟩,
 ⟨some 105, none, .len (.t 104)⟩,
 ⟨some 106, none, .bin .sub (.t 105) (.c (.d (.int 1)))⟩,
 ⟨some 107, none, .idx 1 (.t 103) (.t 106)⟩,
 ⟨some 108, none, .ld (.t 107)⟩,
 ⟨some 2, none, .mv (.t 108)⟩]) (
 .ret))))))),
 [.t 2]⟩

theorem k_impl_BestWidth : cFun Try.prog Try.f37 = some C_impl_BestWidth.erase := by kernel_rfl

def L0_spec_BestWidth : C :=
 .seq (
 .reg [⟨some 35, none, .bin .lss (.t 34) (.t 33)⟩]) (
 .seq (
 .cond (.t 35) (
 .skip) (
 .exit 2)) (
 .seq (
 .block 3 (
 .seq (
 .reg [⟨some 36, none, .mv (.t 34)⟩,
 ⟨some 37, none, .idx 1 (.t 32) (.t 34)⟩,
 ⟨some 38, none, .ld (.t 37)⟩,
 ⟨some 6, none, .mv (.t 36)⟩,
 ⟨some 7, none, .mv (.t 38)⟩]) (
 .seq (
 .reg [⟨some 39, none, .mv (.t 5)⟩,
 ⟨some 40, none, .mv (.t 6)⟩,
 ⟨some 41, none, .bin .shr (.t 39) (.t 40)⟩,
 ⟨some 42, none, .bin .and (.t 41) (.c (.d (.int 1)))⟩,
 ⟨some 43, none, .bin .eql (.t 42) (.c (.d (.int 1)))⟩]) (
 .cond (.t 43) (
 .seq (
 .reg [⟨some 44, none, .mv (.t 5)⟩,
 ⟨some 45, none, .mv (.t 6)⟩,
 ⟨some 46, none, .bin .shl (.c (.d (.int 1))) (.t 45)⟩,
 ⟨some 47, none, .bin .sub (.t 44) (.t 46)⟩,
 ⟨some 8, none, .mv (.t 47)⟩]) (
 .draw [⟨some 48, none, .mv (.t 4)⟩,
 ⟨some 49, none, .mv (.t 5)⟩,
 ⟨some 50, none, .mv (.t 4)⟩,
 ⟨some 51, none, .mv (.t 5)⟩,
 ⟨some 52, none, .idx 1 (.t 50) (.t 51)⟩,
 ⟨some 53, none, .ld (.t 52)⟩,
 ⟨some 54, none, .mv (.t 4)⟩,
 ⟨some 55, none, .mv (.t 8)⟩,
 ⟨some 56, none, .idx 1 (.t 54) (.t 55)⟩,
 ⟨some 57, none, .ld (.t 56)⟩,
 ⟨some 58, none, .ldn 5 (.t 1)⟩,
 ⟨some 59, none, .mv (.t 3)⟩,
 ⟨some 60, none, .mv (.t 8)⟩,
 ⟨some 61, none, .mv (.t 7)⟩,
 ⟨some 62, none, .call 89 [(.t 58), (.t 59), (.t 60), (.t 61)]⟩,
 ⟨some 63, none, .mnx true (.t 57) (.t 62)⟩,
 ⟨some 64, none, .mnx false (.t 53) (.t 63)⟩]
 [⟨some 65, none, .idx 1 (.t 48) (.t 49)⟩,
 ⟨none, none, .st 1 (.t 65) (.t 64)⟩])) (
 .skip))))) (
 .reg [⟨some 66, none, .bin .add (.t 34) (.c (.d (.int 1)))⟩,
 ⟨some 34, none, .mv (.t 66)⟩])))

def L1_spec_BestWidth : C :=
 .seq (
 .seq (
 .reg [⟨some 23, none, .mv (.t 5)⟩,
 ⟨some 24, none, .mv (.t 4)⟩,
 ⟨some 25, none, .len (.t 24)⟩,
 ⟨some 26, none, .bin .lss (.t 23) (.t 25)⟩]) (
 .cond (.t 26) (
 .skip) (
 .exit 0))) (
 .seq (
 .block 1 (
 .seq (
 .reg [⟨some 29, none, .mv (.t 4)⟩,
 ⟨some 30, none, .mv (.t 5)⟩,
 ⟨some 31, none, .idx 1 (.t 29) (.t 30)⟩,
 ⟨none, none, .st 1 (.t 31) (.c (.d (.int 100)))⟩]) (
 .seq (
 .reg [⟨some 32, none, .mv (.t 3)⟩,
 ⟨some 33, none, .len (.t 32)⟩,
 ⟨some 34, none, .mv (.c (.d (.int 0)))⟩]) (
 .block 2 (
 .loop L0_spec_BestWidth))))) (
 .reg [⟨some 27, none, .mv (.t 5)⟩,
 ⟨some 28, none, .bin .add (.t 27) (.c (.d (.int 1)))⟩,
 ⟨some 5, none, .mv (.t 28)⟩]))

def C_spec_BestWidth : Fun := ⟨1, 73,
 .seq (
 .reg [⟨some 1, none, .box (.t 0)⟩,
 ⟨some 2, none, .mv (.c (.d (.int 0)))⟩]) (
 .seq (
 .reg [⟨some 9, none, .ldn 5 (.t 1)⟩,
 ⟨some 10, none, .call 88 [(.t 9)]⟩,
 ⟨some 3, none, .mv (.t 10)⟩]) (
 .seq (
 .seq (
 .reg [⟨some 11, none, .ldn 5 (.t 1)⟩,
 ⟨some 12, none, .call 61 [(.t 11)]⟩,
 ⟨some 13, none, .not (.t 12)⟩,
 ⟨some 14, none, .mv (.t 13)⟩,
 ⟨some 15, some (14, false), .mv (.t 3)⟩,
 ⟨some 16, some (14, false), .len (.t 15)⟩,
 ⟨some 17, some (14, false), .bin .gtr (.t 16) (.c (.d (.int 10)))⟩,
 ⟨some 18, none, .pick (.t 14) (.c (.d (.bool true))) (.t 17)⟩]) (
 .cond (.t 18) (
 .seq (
 .reg [⟨some 2, none, .mv (.c (.d (.int (-1))))⟩]) (
 .ret)) (
 .skip))) (
 .seq (
 .reg [⟨some 19, none, .mv (.t 3)⟩,
 ⟨some 20, none, .len (.t 19)⟩,
 ⟨some 21, none, .bin .shl (.c (.d (.int 1))) (.t 20)⟩,
 ⟨some 22, none, .make 1 8 [.d (.int 0)] (.t 21) (.t 21)⟩,
 ⟨some 4, none, .mv (.t 22)⟩]) (
 .seq (
 .seq (
 .reg [⟨some 5, none, .mv (.c (.d (.int 1)))⟩]) (
 .block 0 (
 .loop L1_spec_BestWidth))) (
 .seq (
 .reg [⟨some 67, none, .mv (.t 4)⟩,
 ⟨some 68, none, .mv (.t 4)⟩,
 ⟨some 69, none, .len (.t 68)⟩,
 ⟨some 70, none, .bin .sub (.t 69) (.c (.d (.int 1)))⟩,
 ⟨some 71, none, .idx 1 (.t 67) (.t 70)⟩,
 ⟨some 72, none, .ld (.t 71)⟩,
 ⟨some 2, none, .mv (.t 72)⟩]) (
 .ret)))))),
 [.t 2]⟩

theorem k_spec_BestWidth : cFun Try.prog Try.f36 = some C_spec_BestWidth.erase := by kernel_rfl

def L0_spec_l21Width : C :=
 .seq (
 .reg [⟨some 21, none, .bin .lss (.t 20) (.t 19)⟩]) (
 .seq (
 .cond (.t 21) (
 .skip) (
 .exit 0)) (
 .seq (
 .block 1 (
 .seq (
 .reg [⟨some 22, none, .mv (.t 20)⟩,
 ⟨some 23, none, .idx 1 (.t 18) (.t 20)⟩,
 ⟨some 24, none, .ld (.t 23)⟩,
 ⟨some 10, none, .mv (.t 22)⟩,
 ⟨some 11, none, .mv (.t 24)⟩]) (
 .seq (
 .reg [⟨some 25, none, .mv (.t 2)⟩,
 ⟨some 26, none, .mv (.t 10)⟩,
 ⟨some 27, none, .bin .shr (.t 25) (.t 26)⟩,
 ⟨some 28, none, .bin .and (.t 27) (.c (.d (.int 1)))⟩,
 ⟨some 29, none, .bin .eql (.t 28) (.c (.d (.int 1)))⟩]) (
 .cond (.t 29) (
 .seq (
 .reg [⟨some 31, none, .mv (.t 9)⟩,
 ⟨some 32, none, .mv (.t 11)⟩,
 ⟨some 33, none, .call 105 [(.t 31), (.t 32)]⟩,
 ⟨some 30, none, .mv (.t 33)⟩,
 ⟨some 34, none, .ext 0 (.t 30)⟩,
 ⟨some 35, none, .ext 1 (.t 30)⟩,
 ⟨some 12, none, .mv (.t 34)⟩,
 ⟨some 13, none, .mv (.t 35)⟩]) (
 .reg [⟨some 36, none, .mv (.t 13)⟩,
 ⟨some 37, none, .mv (.t 12)⟩,
 ⟨some 38, none, .mv (.t 11)⟩,
 ⟨some 39, none, .call 106 [(.t 37), (.t 38)]⟩,
 ⟨some 40, none, .mksl 1 1 [.nil] [(0, 1, (.t 39))]⟩,
 ⟨some 41, none, .app 1 24 [.nil] (.t 36) (.t 40)⟩,
 ⟨some 9, none, .mv (.t 41)⟩])) (
 .skip))))) (
 .reg [⟨some 42, none, .bin .add (.t 20) (.c (.d (.int 1)))⟩,
 ⟨some 20, none, .mv (.t 42)⟩])))

def C_spec_l21Width : Fun := ⟨4, 51,
 .seq (
 .reg [⟨some 4, none, .box (.t 0)⟩,
 ⟨some 8, none, .mv (.c (.d (.int 0)))⟩]) (
 .seq (
 .reg [⟨some 16, none, .ldn 5 (.t 4)⟩,
 ⟨some 17, none, .call 103 [(.t 16)]⟩,
 ⟨some 9, none, .mv (.t 17)⟩]) (
 .seq (
 .seq (
 .reg [⟨some 18, none, .mv (.t 1)⟩,
 ⟨some 19, none, .len (.t 18)⟩,
 ⟨some 20, none, .mv (.c (.d (.int 0)))⟩]) (
 .block 0 (
 .loop L0_spec_l21Width))) (
 .seq (
 .reg [⟨some 44, none, .mv (.t 9)⟩,
 ⟨some 45, none, .mv (.t 3)⟩,
 ⟨some 46, none, .call 105 [(.t 44), (.t 45)]⟩,
 ⟨some 43, none, .mv (.t 46)⟩,
 ⟨some 47, none, .ext 0 (.t 43)⟩,
 ⟨some 48, none, .ext 1 (.t 43)⟩,
 ⟨some 14, none, .mv (.t 47)⟩,
 ⟨some 15, none, .mv (.t 48)⟩]) (
 .seq (
 .reg [⟨some 49, none, .mv (.t 14)⟩,
 ⟨some 50, none, .len (.t 49)⟩,
 ⟨some 8, none, .mv (.t 50)⟩]) (
 .ret))))),
 [.t 8]⟩

theorem k_spec_l21Width : cFun Try.prog Try.f89 = some C_spec_l21Width.erase := by kernel_rfl
end Go.Proofs.Ytcgnehacihjnkaa
