/-
  The compiled code of functions of the seat (written by mkcode.py). No condition.
-/
import Derived.Test.YtcgnehacihjnkaaLiftE
import Derived.Test.YtcgnehacihjnkaaProg
import Derived.KernelRfl
namespace Go.Proofs.Ytcgnehacihjnkaa
open Go.Lift

def L0_spec_l07Join : C :=
 .seq (
 .seq (
 .reg [⟨some 13, none, .mv (.t 10)⟩,
 ⟨some 14, none, .fld 1 (.t 5)⟩,
 ⟨some 15, none, .ld (.t 14)⟩,
 ⟨some 16, none, .call 146 [(.t 15), (.c (.d (.int 4096)))]⟩,
 ⟨some 17, none, .bin .lss (.t 13) (.t 16)⟩]) (
 .cond (.t 17) (
 .skip) (
 .exit 0))) (
 .seq (
 .block 1 (
 .seq (
 .reg [⟨some 20, none, .mv (.t 3)⟩]) (
 .cond (.t 20) (
 .draw [⟨some 21, none, .ldn 3 (.t 4)⟩,
 ⟨some 22, none, .ldn 3 (.t 9)⟩,
 ⟨some 23, none, .mv (.t 10)⟩,
 ⟨some 24, none, .ldn 3 (.t 4)⟩,
 ⟨some 25, none, .ldn 3 (.t 4)⟩,
 ⟨some 26, none, .ldn 3 (.t 5)⟩,
 ⟨some 27, none, .mv (.t 10)⟩,
 ⟨some 28, none, .call 157 [(.t 25), (.t 26), (.t 27)]⟩,
 ⟨some 29, none, .ldn 3 (.t 4)⟩,
 ⟨some 30, none, .ldn 3 (.t 6)⟩,
 ⟨some 31, none, .mv (.t 10)⟩,
 ⟨some 32, none, .call 157 [(.t 29), (.t 30), (.t 31)]⟩,
 ⟨some 33, none, .call 156 [(.t 24), (.t 28), (.t 32)]⟩]
 [⟨some 34, none, .call 155 [(.t 21), (.t 22), (.t 23), (.t 33)]⟩]) (
 .draw [⟨some 35, none, .ldn 3 (.t 4)⟩,
 ⟨some 36, none, .ldn 3 (.t 9)⟩,
 ⟨some 37, none, .mv (.t 10)⟩,
 ⟨some 38, none, .ldn 3 (.t 4)⟩,
 ⟨some 39, none, .ldn 3 (.t 4)⟩,
 ⟨some 40, none, .ldn 3 (.t 5)⟩,
 ⟨some 41, none, .mv (.t 10)⟩,
 ⟨some 42, none, .call 157 [(.t 39), (.t 40), (.t 41)]⟩,
 ⟨some 43, none, .ldn 3 (.t 4)⟩,
 ⟨some 44, none, .ldn 3 (.t 6)⟩,
 ⟨some 45, none, .mv (.t 10)⟩,
 ⟨some 46, none, .call 157 [(.t 43), (.t 44), (.t 45)]⟩,
 ⟨some 47, none, .call 158 [(.t 38), (.t 42), (.t 46)]⟩]
 [⟨some 48, none, .call 155 [(.t 35), (.t 36), (.t 37), (.t 47)]⟩])))) (
 .reg [⟨some 18, none, .mv (.t 10)⟩,
 ⟨some 19, none, .bin .add (.t 18) (.c (.d (.int 1)))⟩,
 ⟨some 10, none, .mv (.t 19)⟩]))

def C_spec_l07Join : Fun := ⟨4, 50,
 .seq (
 .reg [⟨some 4, none, .box (.t 0)⟩,
 ⟨some 5, none, .box (.t 1)⟩,
 ⟨some 6, none, .box (.t 2)⟩,
 ⟨some 8, none, .zer [.nil, .nil, .nil]⟩]) (
 .seq (
 .reg [⟨some 11, none, .ldn 3 (.t 5)⟩,
 ⟨some 12, none, .call 139 [(.t 11)]⟩,
 ⟨some 9, none, .zer [.nil, .nil, .nil]⟩,
 ⟨none, none, .st 3 (.t 9) (.t 12)⟩]) (
 .seq (
 .seq (
 .reg [⟨some 10, none, .mv (.c (.d (.int 0)))⟩]) (
 .block 0 (
 .loop L0_spec_l07Join))) (
 .seq (
 .reg [⟨some 49, none, .ldn 3 (.t 9)⟩,
 ⟨none, none, .st 3 (.t 8) (.t 49)⟩]) (
 .ret)))),
 [.cell 8 3]⟩

theorem k_spec_l07Join : cFun Try.prog Try.f83 = some C_spec_l07Join.erase := by kernel_rfl

def L0_impl_addInto : C :=
 .seq (
 .reg [⟨some 12, none, .bin .lss (.t 11) (.t 10)⟩]) (
 .seq (
 .cond (.t 12) (
 .skip) (
 .exit 1)) (
 .seq (
 .block 2 (
 .seq (
 .reg [⟨some 13, none, .mv (.t 11)⟩,
 ⟨some 6, none, .mv (.t 13)⟩]) (
 .draw [⟨some 14, none, .mv (.t 1)⟩,
 ⟨some 15, none, .mv (.t 6)⟩,
 ⟨some 16, none, .mv (.t 1)⟩,
 ⟨some 17, none, .mv (.t 6)⟩,
 ⟨some 18, none, .idx 1 (.t 16) (.t 17)⟩,
 ⟨some 19, none, .ld (.t 18)⟩,
 ⟨some 20, none, .mv (.t 2)⟩,
 ⟨some 21, none, .mv (.t 6)⟩,
 ⟨some 22, none, .idx 1 (.t 20) (.t 21)⟩,
 ⟨some 23, none, .ld (.t 22)⟩,
 ⟨some 24, none, .bin .add (.t 19) (.t 23)⟩,
 ⟨some 25, none, .fld 1 (.t 3)⟩,
 ⟨some 26, none, .ld (.t 25)⟩,
 ⟨some 27, none, .bin .rem (.t 24) (.t 26)⟩]
 [⟨some 28, none, .idx 1 (.t 14) (.t 15)⟩,
 ⟨none, none, .st 1 (.t 28) (.t 27)⟩]))) (
 .reg [⟨some 29, none, .bin .add (.t 11) (.c (.d (.int 1)))⟩,
 ⟨some 11, none, .mv (.t 29)⟩])))

def C_impl_addInto : Fun := ⟨3, 77,
 .seq (
 .reg [⟨some 3, none, .box (.t 0)⟩]) (
 .seq (
 .reg [⟨some 7, none, .fld 0 (.t 3)⟩,
 ⟨some 8, none, .ld (.t 7)⟩]) (
 .block 0 (
 .seq (
 .seq (
 .reg [⟨some 31, none, .bin .eql (.t 8) (.c (.d (.int 1)))⟩,
 ⟨some 30, none, .mv (.t 31)⟩]) (
 .cond (.t 30) (
 .skip) (
 .reg [⟨some 32, none, .bin .eql (.t 8) (.c (.d (.int 5)))⟩,
 ⟨some 30, none, .mv (.t 32)⟩]))) (
 .cond (.t 30) (
 .draw [⟨some 33, none, .mv (.t 1)⟩,
 ⟨some 34, none, .mv (.t 1)⟩,
 ⟨some 35, none, .idx 1 (.t 34) (.c (.d (.int 0)))⟩,
 ⟨some 36, none, .ld (.t 35)⟩,
 ⟨some 37, none, .mv (.t 2)⟩,
 ⟨some 38, none, .idx 1 (.t 37) (.c (.d (.int 0)))⟩,
 ⟨some 39, none, .ld (.t 38)⟩,
 ⟨some 40, none, .mnx true (.t 36) (.t 39)⟩]
 [⟨some 41, none, .idx 1 (.t 33) (.c (.d (.int 0)))⟩,
 ⟨none, none, .st 1 (.t 41) (.t 40)⟩]) (
 .seq (
 .reg [⟨some 43, none, .bin .eql (.t 8) (.c (.d (.int 3)))⟩,
 ⟨some 42, none, .mv (.t 43)⟩]) (
 .cond (.t 42) (
 .draw [⟨some 44, none, .mv (.t 1)⟩,
 ⟨some 45, none, .mv (.t 1)⟩,
 ⟨some 46, none, .idx 1 (.t 45) (.c (.d (.int 0)))⟩,
 ⟨some 47, none, .ld (.t 46)⟩,
 ⟨some 48, none, .mv (.t 2)⟩,
 ⟨some 49, none, .idx 1 (.t 48) (.c (.d (.int 0)))⟩,
 ⟨some 50, none, .ld (.t 49)⟩,
 ⟨some 51, none, .bin .add (.t 47) (.t 50)⟩,
 ⟨some 52, none, .fld 1 (.t 3)⟩,
 ⟨some 53, none, .ld (.t 52)⟩,
 ⟨some 54, none, .mnx false (.t 51) (.t 53)⟩]
 [⟨some 55, none, .idx 1 (.t 44) (.c (.d (.int 0)))⟩,
 ⟨none, none, .st 1 (.t 55) (.t 54)⟩]) (
 .seq (
 .reg [⟨some 57, none, .bin .eql (.t 8) (.c (.d (.int 4)))⟩,
 ⟨some 56, none, .mv (.t 57)⟩]) (
 .cond (.t 56) (
 .draw [⟨some 58, none, .mv (.t 1)⟩,
 ⟨some 59, none, .mv (.t 1)⟩,
 ⟨some 60, none, .idx 1 (.t 59) (.c (.d (.int 0)))⟩,
 ⟨some 61, none, .ld (.t 60)⟩,
 ⟨some 62, none, .mv (.t 2)⟩,
 ⟨some 63, none, .idx 1 (.t 62) (.c (.d (.int 0)))⟩,
 ⟨some 64, none, .ld (.t 63)⟩,
 ⟨some 65, none, .mnx false (.t 61) (.t 64)⟩]
 [⟨some 66, none, .idx 1 (.t 58) (.c (.d (.int 0)))⟩,
 ⟨none, none, .st 1 (.t 66) (.t 65)⟩]) (
 .seq (
 .reg [⟨some 68, none, .bin .eql (.t 8) (.c (.d (.int 6)))⟩,
 ⟨some 67, none, .mv (.t 68)⟩]) (
 .cond (.t 67) (
 .draw [⟨some 69, none, .mv (.t 1)⟩,
 ⟨some 70, none, .idx 1 (.t 69) (.c (.d (.int 0)))⟩,
 ⟨some 71, none, .ld (.t 70)⟩,
 ⟨some 72, none, .mv (.t 2)⟩,
 ⟨some 73, none, .idx 1 (.t 72) (.c (.d (.int 0)))⟩,
 ⟨some 74, none, .ld (.t 73)⟩]
 [⟨some 75, none, .bin .or (.t 71) (.t 74)⟩,
 ⟨some 76, none, .idx 1 (.t 69) (.c (.d (.int 0)))⟩,
 ⟨none, none, .st 1 (.t 76) (.t 75)⟩]) (
 .seq (
 .reg [⟨some 9, none, .mv (.t 1)⟩,
 ⟨some 10, none, .len (.t 9)⟩,
 ⟨some 11, none, .mv (.c (.d (.int 0)))⟩]) (
 .block 1 (
 .loop L0_impl_addInto))))))))))))),
 []⟩

theorem k_impl_addInto : cFun Try.prog Try.f134 = some C_impl_addInto.erase := by kernel_rfl

def L0_spec_l02Add : C :=
 .seq (
 .reg [⟨some 15, none, .bin .lss (.t 14) (.t 13)⟩]) (
 .seq (
 .cond (.t 15) (
 .skip) (
 .exit 0)) (
 .seq (
 .block 1 (
 .seq (
 .reg [⟨some 16, none, .mv (.t 14)⟩,
 ⟨some 8, none, .mv (.t 16)⟩]) (
 .seq (
 .reg [⟨some 17, none, .fld 0 (.t 3)⟩,
 ⟨some 18, none, .ld (.t 17)⟩]) (
 .block 2 (
 .seq (
 .seq (
 .reg [⟨some 35, none, .bin .eql (.t 18) (.c (.d (.int 1)))⟩,
 ⟨some 34, none, .mv (.t 35)⟩]) (
 .cond (.t 34) (
 .skip) (
 .reg [⟨some 36, none, .bin .eql (.t 18) (.c (.d (.int 6)))⟩,
 ⟨some 34, none, .mv (.t 36)⟩]))) (
 .cond (.t 34) (
 .draw [⟨some 37, none, .mv (.t 7)⟩,
 ⟨some 38, none, .mv (.t 8)⟩,
 ⟨some 39, none, .mv (.t 1)⟩,
 ⟨some 40, none, .mv (.t 8)⟩,
 ⟨some 41, none, .idx 1 (.t 39) (.t 40)⟩,
 ⟨some 42, none, .ld (.t 41)⟩,
 ⟨some 43, none, .mv (.t 2)⟩,
 ⟨some 44, none, .mv (.t 8)⟩,
 ⟨some 45, none, .idx 1 (.t 43) (.t 44)⟩,
 ⟨some 46, none, .ld (.t 45)⟩,
 ⟨some 47, none, .bin .or (.t 42) (.t 46)⟩]
 [⟨some 48, none, .idx 1 (.t 37) (.t 38)⟩,
 ⟨none, none, .st 1 (.t 48) (.t 47)⟩]) (
 .seq (
 .reg [⟨some 50, none, .bin .eql (.t 18) (.c (.d (.int 3)))⟩,
 ⟨some 49, none, .mv (.t 50)⟩]) (
 .cond (.t 49) (
 .draw [⟨some 51, none, .mv (.t 7)⟩,
 ⟨some 52, none, .mv (.t 8)⟩,
 ⟨some 53, none, .mv (.t 1)⟩,
 ⟨some 54, none, .mv (.t 8)⟩,
 ⟨some 55, none, .idx 1 (.t 53) (.t 54)⟩,
 ⟨some 56, none, .ld (.t 55)⟩,
 ⟨some 57, none, .mv (.t 2)⟩,
 ⟨some 58, none, .mv (.t 8)⟩,
 ⟨some 59, none, .idx 1 (.t 57) (.t 58)⟩,
 ⟨some 60, none, .ld (.t 59)⟩,
 ⟨some 61, none, .bin .add (.t 56) (.t 60)⟩,
 ⟨some 62, none, .fld 1 (.t 3)⟩,
 ⟨some 63, none, .ld (.t 62)⟩,
 ⟨some 64, none, .mnx false (.t 61) (.t 63)⟩]
 [⟨some 65, none, .idx 1 (.t 51) (.t 52)⟩,
 ⟨none, none, .st 1 (.t 65) (.t 64)⟩]) (
 .seq (
 .reg [⟨some 67, none, .bin .eql (.t 18) (.c (.d (.int 4)))⟩,
 ⟨some 66, none, .mv (.t 67)⟩]) (
 .cond (.t 66) (
 .draw [⟨some 68, none, .mv (.t 7)⟩,
 ⟨some 69, none, .mv (.t 8)⟩,
 ⟨some 70, none, .mv (.t 1)⟩,
 ⟨some 71, none, .mv (.t 8)⟩,
 ⟨some 72, none, .idx 1 (.t 70) (.t 71)⟩,
 ⟨some 73, none, .ld (.t 72)⟩,
 ⟨some 74, none, .mv (.t 2)⟩,
 ⟨some 75, none, .mv (.t 8)⟩,
 ⟨some 76, none, .idx 1 (.t 74) (.t 75)⟩,
 ⟨some 77, none, .ld (.t 76)⟩,
 ⟨some 78, none, .mnx false (.t 73) (.t 77)⟩]
 [⟨some 79, none, .idx 1 (.t 68) (.t 69)⟩,
 ⟨none, none, .st 1 (.t 79) (.t 78)⟩]) (
 .seq (
 .reg [⟨some 81, none, .bin .eql (.t 18) (.c (.d (.int 5)))⟩,
 ⟨some 80, none, .mv (.t 81)⟩]) (
 .cond (.t 80) (
 .draw [⟨some 82, none, .mv (.t 7)⟩,
 ⟨some 83, none, .mv (.t 8)⟩,
 ⟨some 84, none, .mv (.t 1)⟩,
 ⟨some 85, none, .mv (.t 8)⟩,
 ⟨some 86, none, .idx 1 (.t 84) (.t 85)⟩,
 ⟨some 87, none, .ld (.t 86)⟩,
 ⟨some 88, none, .mv (.t 2)⟩,
 ⟨some 89, none, .mv (.t 8)⟩,
 ⟨some 90, none, .idx 1 (.t 88) (.t 89)⟩,
 ⟨some 91, none, .ld (.t 90)⟩,
 ⟨some 92, none, .mnx true (.t 87) (.t 91)⟩]
 [⟨some 93, none, .idx 1 (.t 82) (.t 83)⟩,
 ⟨none, none, .st 1 (.t 93) (.t 92)⟩]) (
 .draw [⟨some 19, none, .mv (.t 7)⟩,
 ⟨some 20, none, .mv (.t 8)⟩,
 ⟨some 21, none, .mv (.t 1)⟩,
 ⟨some 22, none, .mv (.t 8)⟩,
 ⟨some 23, none, .idx 1 (.t 21) (.t 22)⟩,
 ⟨some 24, none, .ld (.t 23)⟩,
 ⟨some 25, none, .mv (.t 2)⟩,
 ⟨some 26, none, .mv (.t 8)⟩,
 ⟨some 27, none, .idx 1 (.t 25) (.t 26)⟩,
 ⟨some 28, none, .ld (.t 27)⟩,
 ⟨some 29, none, .bin .add (.t 24) (.t 28)⟩,
 ⟨some 30, none, .fld 1 (.t 3)⟩,
 ⟨some 31, none, .ld (.t 30)⟩,
 ⟨some 32, none, .bin .rem (.t 29) (.t 31)⟩]
 [⟨some 33, none, .idx 1 (.t 19) (.t 20)⟩,
 ⟨none, none, .st 1 (.t 33) (.t 32)⟩]))))))))))))) (
 .reg [⟨some 94, none, .bin .add (.t 14) (.c (.d (.int 1)))⟩,
 ⟨some 14, none, .mv (.t 94)⟩])))

def C_spec_l02Add : Fun := ⟨3, 96,
 .seq (
 .reg [⟨some 3, none, .box (.t 0)⟩,
 ⟨some 6, none, .mv (.c (.nil))⟩]) (
 .seq (
 .reg [⟨some 9, none, .mv (.t 1)⟩,
 ⟨some 10, none, .len (.t 9)⟩,
 ⟨some 11, none, .make 1 8 [.d (.int 0)] (.t 10) (.t 10)⟩,
 ⟨some 7, none, .mv (.t 11)⟩]) (
 .seq (
 .seq (
 .reg [⟨some 12, none, .mv (.t 1)⟩,
 ⟨some 13, none, .len (.t 12)⟩,
 ⟨some 14, none, .mv (.c (.d (.int 0)))⟩]) (
 .block 0 (
 .loop L0_spec_l02Add))) (
 .seq (
 .reg [⟨some 95, none, .mv (.t 7)⟩,
 ⟨some 6, none, .mv (.t 95)⟩]) (
 .ret)))),
 [.t 6]⟩

theorem k_spec_l02Add : cFun Try.prog Try.f158 = some C_spec_l02Add.erase := by kernel_rfl

end Go.Proofs.Ytcgnehacihjnkaa
