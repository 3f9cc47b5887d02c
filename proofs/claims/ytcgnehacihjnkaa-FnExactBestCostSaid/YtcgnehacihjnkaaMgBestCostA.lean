/-
  The compiled code of functions of the seat (written by mkcode.py). No condition.
-/
import Derived.Test.YtcgnehacihjnkaaLiftE
import Derived.Test.YtcgnehacihjnkaaProg
import Derived.KernelRfl
import Derived.Test.YtcgnehacihjnkaaLiftK
namespace Go.Proofs.Ytcgnehacihjnkaa
open Go.Lift

def C_laws_FnExactBestCost : Fun := ⟨1, 27,
 .seq (
 .reg [⟨some 1, none, .box (.t 0)⟩,
 ⟨some 2, none, .mv (.c (.d (.bool false)))⟩]) (
 .seq (
 .reg [⟨some 3, none, .mv (.c (.d (.int 1048576)))⟩]) (
 .seq (
 .reg [⟨some 7, none, .ldn 5 (.t 1)⟩,
 ⟨some 8, none, .mv (.t 3)⟩,
 ⟨some 9, none, .call 14 [(.t 7), (.t 8)]⟩,
 ⟨some 3, none, .mv (.t 9)⟩]) (
 .seq (
 .seq (
 .reg [⟨some 10, none, .mv (.t 3)⟩,
 ⟨some 11, none, .bin .lss (.t 10) (.c (.d (.int 0)))⟩]) (
 .cond (.t 11) (
 .seq (
 .reg [⟨some 2, none, .mv (.c (.d (.bool true)))⟩]) (
 .ret)) (
 .skip))) (
 .seq (
 .reg [⟨some 12, none, .ldn 5 (.t 1)⟩,
 ⟨some 13, none, .call 16 [(.t 12)]⟩,
 ⟨some 14, none, .call 24 [(.t 13)]⟩,
 ⟨some 4, none, .mv (.t 14)⟩]) (
 .seq (
 .reg [⟨some 15, none, .ldn 5 (.t 1)⟩,
 ⟨some 16, none, .call 16 [(.t 15)]⟩,
 ⟨some 5, none, .zer [.d (.int 0), .d (.int 0), .d (.int 0), .nil, .nil]⟩,
 ⟨none, none, .st 5 (.t 5) (.t 16)⟩]) (
 .seq (
 .reg [⟨some 17, none, .ldn 5 (.t 5)⟩,
 ⟨some 18, none, .call 25 [(.t 17)]⟩,
 ⟨some 6, none, .mv (.t 18)⟩]) (
 .seq (
 .seq (
 .reg [⟨some 19, none, .mv (.t 6)⟩,
 ⟨some 20, none, .mv (.t 4)⟩,
 ⟨some 21, none, .bin .neq (.t 19) (.t 20)⟩]) (
 .cond (.t 21) (
 .seq (
 .reg [⟨some 2, none, .mv (.c (.d (.bool false)))⟩]) (
 .ret)) (
 .skip))) (
 .seq (
 .seq (
 .draw [⟨some 22, none, .ldn 5 (.t 5)⟩,
 ⟨some 23, none, .ldn 5 (.t 1)⟩,
 ⟨some 24, none, .call 16 [(.t 23)]⟩]
 [⟨some 25, none, .call 19 [(.t 22), (.t 24)]⟩,
 ⟨some 26, none, .not (.t 25)⟩]) (
 .cond (.t 26) (
 .seq (
 .reg [⟨some 2, none, .mv (.c (.d (.bool false)))⟩]) (
 .ret)) (
 .skip))) (
 .seq (
 .reg [⟨some 2, none, .mv (.c (.d (.bool true)))⟩]) (
 .ret)))))))))),
 [.t 2]⟩

theorem k_laws_FnExactBestCost : cFun Try.prog Try.f4 = some C_laws_FnExactBestCost.erase := by kernel_rfl

end Go.Proofs.Ytcgnehacihjnkaa

/-
  The compiled code of functions of the seat (written by mkcode.py). No condition.
-/
namespace Go.Proofs.Ytcgnehacihjnkaa
open Go.Lift

def C_spec_BestCost : Fun := ⟨1, 25,
 .seq (
 .reg [⟨some 1, none, .box (.t 0)⟩,
 ⟨some 2, none, .mv (.c (.d (.int 0)))⟩]) (
 .seq (
 .seq (
 .reg [⟨some 5, none, .ldn 5 (.t 1)⟩,
 ⟨some 6, none, .call 61 [(.t 5)]⟩,
 ⟨some 7, none, .not (.t 6)⟩,
 ⟨some 8, none, .mv (.t 7)⟩,
 ⟨some 9, some (8, false), .fld 3 (.t 1)⟩,
 ⟨some 10, some (8, false), .ld (.t 9)⟩,
 ⟨some 11, some (8, false), .len (.t 10)⟩,
 ⟨some 12, some (8, false), .bin .gtr (.t 11) (.c (.d (.int 7)))⟩,
 ⟨some 13, none, .pick (.t 8) (.c (.d (.bool true))) (.t 12)⟩]) (
 .cond (.t 13) (
 .seq (
 .reg [⟨some 2, none, .mv (.c (.d (.int (-1))))⟩]) (
 .ret)) (
 .skip))) (
 .seq (
 .reg [⟨some 15, none, .ldn 5 (.t 1)⟩,
 ⟨some 16, none, .call 74 [(.t 15)]⟩,
 ⟨some 14, none, .mv (.t 16)⟩,
 ⟨some 17, none, .ext 0 (.t 14)⟩,
 ⟨some 18, none, .ext 1 (.t 14)⟩,
 ⟨some 3, none, .mv (.t 17)⟩,
 ⟨some 4, none, .mv (.t 18)⟩]) (
 .seq (
 .reg [⟨some 19, none, .mv (.t 3)⟩,
 ⟨some 20, none, .mv (.t 3)⟩,
 ⟨some 21, none, .len (.t 20)⟩,
 ⟨some 22, none, .bin .sub (.t 21) (.c (.d (.int 1)))⟩,
 ⟨some 23, none, .idx 1 (.t 19) (.t 22)⟩,
 ⟨some 24, none, .ld (.t 23)⟩,
 ⟨some 2, none, .mv (.t 24)⟩]) (
 .ret)))),
 [.t 2]⟩

theorem k_spec_BestCost : cFun Try.prog Try.f24 = some C_spec_BestCost.erase := by kernel_rfl

def C_impl_BestCost : Fun := ⟨1, 25,
 .seq (
 .reg [⟨some 1, none, .box (.t 0)⟩,
 ⟨some 2, none, .mv (.c (.d (.int 0)))⟩]) (
 .seq (
 .seq (
 .reg [⟨some 5, none, .ldn 5 (.t 1)⟩,
 ⟨some 6, none, .call 66 [(.t 5)]⟩,
 ⟨some 7, none, .not (.t 6)⟩,
 ⟨some 8, none, .mv (.t 7)⟩,
 ⟨some 9, some (8, false), .fld 3 (.t 1)⟩,
 ⟨some 10, some (8, false), .ld (.t 9)⟩,
 ⟨some 11, some (8, false), .len (.t 10)⟩,
 ⟨some 12, some (8, false), .bin .gtr (.t 11) (.c (.d (.int 7)))⟩,
 ⟨some 13, none, .pick (.t 8) (.c (.d (.bool true))) (.t 12)⟩]) (
 .cond (.t 13) (
 .seq (
 .reg [⟨some 2, none, .mv (.c (.d (.int (-1))))⟩]) (
 .ret)) (
 .skip))) (
 .seq (
 .reg [⟨some 15, none, .ldn 5 (.t 1)⟩,
 ⟨some 16, none, .call 75 [(.t 15)]⟩,
 ⟨some 14, none, .mv (.t 16)⟩,
 ⟨some 17, none, .ext 0 (.t 14)⟩,
 ⟨some 18, none, .ext 1 (.t 14)⟩,
 ⟨some 3, none, .mv (.t 17)⟩,
 ⟨some 4, none, .mv (.t 18)⟩]) (
 .seq (
 .reg [⟨some 19, none, .mv (.t 3)⟩,
 ⟨some 20, none, .mv (.t 3)⟩,
 ⟨some 21, none, .len (.t 20)⟩,
 ⟨some 22, none, .bin .sub (.t 21) (.c (.d (.int 1)))⟩,
 ⟨some 23, none, .idx 1 (.t 19) (.t 22)⟩,
 ⟨some 24, none, .ld (.t 23)⟩,
 ⟨some 2, none, .mv (.t 24)⟩]) (
 .ret)))),
 [.t 2]⟩

theorem k_impl_BestCost : cFun Try.prog Try.f25 = some C_impl_BestCost.erase := by kernel_rfl

def L0_spec_l20Plan : C :=
 .seq (
 .seq (
 .reg [⟨some 47, none, .mv (.t 10)⟩,
 ⟨some 48, none, .mv (.t 8)⟩,
 ⟨some 49, none, .bin .lss (.t 47) (.t 48)⟩]) (
 .cond (.t 49) (
 .skip) (
 .exit 2))) (
 .seq (
 .block 3 (
 .seq (
 .seq (
 .reg [⟨some 52, none, .mv (.t 10)⟩,
 ⟨some 53, none, .mv (.t 8)⟩,
 ⟨some 54, none, .bin .and (.t 52) (.t 53)⟩,
 ⟨some 55, none, .mv (.t 10)⟩,
 ⟨some 56, none, .bin .neq (.t 54) (.t 55)⟩,
 ⟨some 57, none, .mv (.t 56)⟩,
 ⟨some 58, some (57, false), .mv (.t 10)⟩,
 ⟨some 59, some (57, false), .mv (.t 9)⟩,
 ⟨some 60, some (57, false), .bin .and (.t 58) (.t 59)⟩,
 ⟨some 61, some (57, false), .bin .eql (.t 60) (.c (.d (.int 0)))⟩,
 ⟨some 62, none, .pick (.t 57) (.c (.d (.bool true))) (.t 61)⟩]) (
 .cond (.t 62) (
 .exit 3) (
 .skip))) (
 .seq (
 .draw [⟨some 64, none, .mv (.t 7)⟩,
 ⟨some 65, none, .mv (.t 10)⟩,
 ⟨some 66, none, .idx 3 (.t 64) (.t 65)⟩,
 ⟨some 67, none, .ldn 3 (.t 66)⟩,
 ⟨some 68, none, .mv (.t 7)⟩,
 ⟨some 69, none, .mv (.t 8)⟩,
 ⟨some 70, none, .mv (.t 10)⟩,
 ⟨some 71, none, .bin .sub (.t 69) (.t 70)⟩,
 ⟨some 72, none, .idx 3 (.t 68) (.t 71)⟩,
 ⟨some 73, none, .ldn 3 (.t 72)⟩,
 ⟨some 74, none, .call 145 [(.t 67), (.t 73)]⟩,
 ⟨some 63, none, .mv (.t 74)⟩,
 ⟨some 75, none, .ext 0 (.t 63)⟩,
 ⟨some 76, none, .ext 1 (.t 63)⟩,
 ⟨some 77, none, .ext 2 (.t 63)⟩,
 ⟨some 11, none, .mv (.t 75)⟩,
 ⟨some 12, none, .mv (.t 76)⟩]
 [⟨some 13, none, .mv (.t 77)⟩]) (
 .seq (
 .draw [⟨some 78, none, .mv (.t 5)⟩,
 ⟨some 79, none, .mv (.t 10)⟩,
 ⟨some 80, none, .idx 1 (.t 78) (.t 79)⟩,
 ⟨some 81, none, .ld (.t 80)⟩,
 ⟨some 82, none, .mv (.t 5)⟩,
 ⟨some 83, none, .mv (.t 8)⟩,
 ⟨some 84, none, .mv (.t 10)⟩,
 ⟨some 85, none, .bin .sub (.t 83) (.t 84)⟩,
 ⟨some 86, none, .idx 1 (.t 82) (.t 85)⟩,
 ⟨some 87, none, .ld (.t 86)⟩,
 ⟨some 88, none, .bin .add (.t 81) (.t 87)⟩,
 ⟨some 89, none, .mv (.t 12)⟩,
 ⟨some 90, none, .call 146 [(.t 89), (.c (.d (.int 1000000000)))]⟩]
 [⟨some 91, none, .bin .add (.t 88) (.t 90)⟩,
 ⟨some 92, none, .mnx false (.c (.d (.int 1000000000))) (.t 91)⟩,
 ⟨some 14, none, .mv (.t 92)⟩]) (
 .seq (
 .reg [⟨some 93, none, .mv (.t 14)⟩,
 ⟨some 94, none, .mv (.t 5)⟩,
 ⟨some 95, none, .mv (.t 8)⟩,
 ⟨some 96, none, .idx 1 (.t 94) (.t 95)⟩,
 ⟨some 97, none, .ld (.t 96)⟩,
 ⟨some 98, none, .bin .lss (.t 93) (.t 97)⟩]) (
 .cond (.t 98) (
 .seq (
 .reg [⟨some 99, none, .mv (.t 5)⟩,
 ⟨some 100, none, .mv (.t 8)⟩,
 ⟨some 101, none, .mv (.t 14)⟩,
 ⟨some 102, none, .idx 1 (.t 99) (.t 100)⟩,
 ⟨none, none, .st 1 (.t 102) (.t 101)⟩]) (
 .reg [⟨some 103, none, .mv (.t 6)⟩,
 ⟨some 104, none, .mv (.t 8)⟩,
 ⟨some 105, none, .mv (.t 10)⟩,
 ⟨some 106, none, .idx 1 (.t 103) (.t 104)⟩,
 ⟨none, none, .st 1 (.t 106) (.t 105)⟩])) (
 .skip))))))) (
 .reg [⟨some 50, none, .mv (.t 10)⟩,
 ⟨some 51, none, .bin .add (.t 50) (.c (.d (.int 1)))⟩,
 ⟨some 10, none, .mv (.t 51)⟩]))

def L1_spec_l20Plan : C :=
 .seq (
 .seq (
 .reg [⟨some 25, none, .mv (.t 8)⟩,
 ⟨some 26, none, .mv (.t 4)⟩,
 ⟨some 27, none, .bin .shl (.c (.d (.int 1))) (.t 26)⟩,
 ⟨some 28, none, .bin .lss (.t 25) (.t 27)⟩]) (
 .cond (.t 28) (
 .skip) (
 .exit 0))) (
 .seq (
 .block 1 (
 .seq (
 .reg [⟨some 31, none, .mv (.t 7)⟩,
 ⟨some 32, none, .ldn 5 (.t 1)⟩,
 ⟨some 33, none, .mv (.t 8)⟩,
 ⟨some 34, none, .call 144 [(.t 32), (.t 33)]⟩,
 ⟨some 35, none, .mksl 3 1 [.nil, .nil, .nil] [(0, 3, (.t 34))]⟩,
 ⟨some 36, none, .app 3 72 [.nil, .nil, .nil] (.t 31) (.t 35)⟩,
 ⟨some 7, none, .mv (.t 36)⟩]) (
 .seq (
 .reg [⟨some 37, none, .mv (.t 8)⟩,
 ⟨some 38, none, .mv (.t 8)⟩,
 ⟨some 39, none, .neg (.t 38)⟩,
 ⟨some 40, none, .bin .and (.t 37) (.t 39)⟩,
 ⟨some 9, none, .mv (.t 40)⟩]) (
 .seq (
 .seq (
 .reg [⟨some 41, none, .mv (.t 8)⟩,
 ⟨some 42, none, .mv (.t 9)⟩,
 ⟨some 43, none, .bin .eql (.t 41) (.t 42)⟩]) (
 .cond (.t 43) (
 .exit 1) (
 .skip))) (
 .seq (
 .reg [⟨some 44, none, .mv (.t 5)⟩,
 ⟨some 45, none, .mv (.t 8)⟩,
 ⟨some 46, none, .idx 1 (.t 44) (.t 45)⟩,
 ⟨none, none, .st 1 (.t 46) (.c (.d (.int 1000000001)))⟩]) (
 .seq (
 .reg [⟨some 10, none, .mv (.c (.d (.int 1)))⟩]) (
 .block 2 (
 .loop L0_spec_l20Plan)))))))) (
 .reg [⟨some 29, none, .mv (.t 8)⟩,
 ⟨some 30, none, .bin .add (.t 29) (.c (.d (.int 1)))⟩,
 ⟨some 8, none, .mv (.t 30)⟩]))

def C_spec_l20Plan : Fun := ⟨1, 109,
 .seq (
 .reg [⟨some 1, none, .box (.t 0)⟩,
 ⟨some 2, none, .mv (.c (.nil))⟩,
 ⟨some 3, none, .mv (.c (.nil))⟩]) (
 .seq (
 .reg [⟨some 15, none, .fld 3 (.t 1)⟩,
 ⟨some 16, none, .ld (.t 15)⟩,
 ⟨some 17, none, .len (.t 16)⟩,
 ⟨some 4, none, .mv (.t 17)⟩]) (
 .seq (
 .reg [⟨some 18, none, .mv (.t 4)⟩,
 ⟨some 19, none, .bin .shl (.c (.d (.int 1))) (.t 18)⟩,
 ⟨some 20, none, .make 1 8 [.d (.int 0)] (.t 19) (.t 19)⟩,
 ⟨some 5, none, .mv (.t 20)⟩]) (
 .seq (
 .reg [⟨some 21, none, .mv (.t 4)⟩,
 ⟨some 22, none, .bin .shl (.c (.d (.int 1))) (.t 21)⟩,
 ⟨some 23, none, .make 1 8 [.d (.int 0)] (.t 22) (.t 22)⟩,
 ⟨some 6, none, .mv (.t 23)⟩]) (
 .seq (
 .reg [⟨some 24, none, .mksl 3 0 [.nil, .nil, .nil] []⟩,
 ⟨some 7, none, .mv (.t 24)⟩]) (
 .seq (
 .seq (
 .reg [⟨some 8, none, .mv (.c (.d (.int 0)))⟩]) (
 .block 0 (
 .loop L1_spec_l20Plan))) (
 .seq (
 .reg [⟨some 107, none, .mv (.t 5)⟩,
 ⟨some 108, none, .mv (.t 6)⟩,
 ⟨some 2, none, .mv (.t 107)⟩,
 ⟨some 3, none, .mv (.t 108)⟩]) (
 .ret))))))),
 [.t 2, .t 3]⟩

theorem k_spec_l20Plan : cFun Try.prog Try.f74 = some C_spec_l20Plan.erase := by kernel_rfl

def L0_impl_bestTable : C :=
 .seq (
 .seq (
 .reg [⟨some 74, none, .mv (.t 15)⟩,
 ⟨some 75, none, .mv (.t 13)⟩,
 ⟨some 76, none, .bin .lss (.t 74) (.t 75)⟩]) (
 .cond (.t 76) (
 .skip) (
 .exit 6))) (
 .seq (
 .block 7 (
 .seq (
 .seq (
 .reg [⟨some 79, none, .mv (.t 15)⟩,
 ⟨some 80, none, .mv (.t 13)⟩,
 ⟨some 81, none, .bin .and (.t 79) (.t 80)⟩,
 ⟨some 82, none, .mv (.t 15)⟩,
 ⟨some 83, none, .bin .neq (.t 81) (.t 82)⟩,
 ⟨some 84, none, .mv (.t 83)⟩,
 ⟨some 85, some (84, false), .mv (.t 15)⟩,
 ⟨some 86, some (84, false), .mv (.t 14)⟩,
 ⟨some 87, some (84, false), .bin .and (.t 85) (.t 86)⟩,
 ⟨some 88, some (84, false), .bin .eql (.t 87) (.c (.d (.int 0)))⟩,
 ⟨some 89, none, .pick (.t 84) (.c (.d (.bool true))) (.t 88)⟩]) (
 .cond (.t 89) (
 .exit 7) (
 .skip))) (
 .seq (
 .reg [⟨some 90, none, .mv (.t 13)⟩,
 ⟨some 91, none, .mv (.t 15)⟩,
 ⟨some 92, none, .bin .andNot (.t 90) (.t 91)⟩,
 ⟨some 16, none, .mv (.t 92)⟩]) (
 .seq (
 .draw [⟨some 93, none, .ldn 100 (.t 5)⟩,
 ⟨some 94, none, .mv (.t 7)⟩,
 ⟨some 95, none, .mv (.t 15)⟩,
 ⟨some 96, none, .idx 1 (.t 94) (.t 95)⟩,
 ⟨some 97, none, .ld (.t 96)⟩,
 ⟨some 98, none, .mv (.t 7)⟩,
 ⟨some 99, none, .mv (.t 16)⟩,
 ⟨some 100, none, .idx 1 (.t 98) (.t 99)⟩,
 ⟨some 101, none, .ld (.t 100)⟩,
 ⟨some 102, none, .call 149 [(.t 97), (.t 101)]⟩]
 [⟨some 103, none, .call 142 [(.t 93), (.t 102)]⟩,
 ⟨some 104, none, .fdv 1 1 false (.t 103)⟩,
 ⟨some 105, none, .call 148 [(.t 104), (.c (.d (.int 1000000000)))]⟩,
 ⟨some 17, none, .mv (.t 105)⟩]) (
 .seq (
 .draw [⟨some 106, none, .mv (.t 11)⟩,
 ⟨some 107, none, .mv (.t 15)⟩,
 ⟨some 108, none, .idx 1 (.t 106) (.t 107)⟩,
 ⟨some 109, none, .ld (.t 108)⟩,
 ⟨some 110, none, .mv (.t 11)⟩,
 ⟨some 111, none, .mv (.t 16)⟩,
 ⟨some 112, none, .idx 1 (.t 110) (.t 111)⟩,
 ⟨some 113, none, .ld (.t 112)⟩,
 ⟨some 114, none, .bin .add (.t 109) (.t 113)⟩,
 ⟨some 115, none, .mv (.t 17)⟩]
 [⟨some 116, none, .bin .add (.t 114) (.t 115)⟩,
 ⟨some 117, none, .mnx false (.t 116) (.c (.d (.int 1000000000)))⟩,
 ⟨some 18, none, .mv (.t 117)⟩]) (
 .seq (
 .reg [⟨some 118, none, .mv (.t 12)⟩,
 ⟨some 119, none, .mv (.t 13)⟩,
 ⟨some 120, none, .idx 1 (.t 118) (.t 119)⟩,
 ⟨some 121, none, .ld (.t 120)⟩,
 ⟨some 122, none, .bin .eql (.t 121) (.c (.d (.int 0)))⟩,
 ⟨some 123, none, .mv (.t 122)⟩,
 ⟨some 124, some (123, false), .mv (.t 18)⟩,
 ⟨some 125, some (123, false), .mv (.t 11)⟩,
 ⟨some 126, some (123, false), .mv (.t 13)⟩,
 ⟨some 127, some (123, false), .idx 1 (.t 125) (.t 126)⟩,
 ⟨some 128, some (123, false), .ld (.t 127)⟩,
 ⟨some 129, some (123, false), .bin .lss (.t 124) (.t 128)⟩,
 ⟨some 130, none, .pick (.t 123) (.c (.d (.bool true))) (.t 129)⟩]) (
 .cond (.t 130) (
 .seq (
 .reg [⟨some 131, none, .mv (.t 12)⟩,
 ⟨some 132, none, .mv (.t 13)⟩,
 ⟨some 133, none, .mv (.t 15)⟩,
 ⟨some 134, none, .idx 1 (.t 131) (.t 132)⟩,
 ⟨none, none, .st 1 (.t 134) (.t 133)⟩]) (
 .reg [⟨some 135, none, .mv (.t 11)⟩,
 ⟨some 136, none, .mv (.t 13)⟩,
 ⟨some 137, none, .mv (.t 18)⟩,
 ⟨some 138, none, .idx 1 (.t 135) (.t 136)⟩,
 ⟨none, none, .st 1 (.t 138) (.t 137)⟩])) (
 .skip)))))))) (
 .reg [⟨some 77, none, .mv (.t 15)⟩,
 ⟨some 78, none, .bin .add (.t 77) (.c (.d (.int 1)))⟩,
 ⟨some 15, none, .mv (.t 78)⟩]))

def L1_impl_bestTable : C :=
 .seq (
 .seq (
 .reg [⟨some 64, none, .mv (.t 13)⟩,
 ⟨some 65, none, .mv (.t 4)⟩,
 ⟨some 66, none, .bin .shl (.c (.d (.int 1))) (.t 65)⟩,
 ⟨some 67, none, .bin .lss (.t 64) (.t 66)⟩]) (
 .cond (.t 67) (
 .skip) (
 .exit 4))) (
 .seq (
 .block 5 (
 .seq (
 .reg [⟨some 70, none, .mv (.t 13)⟩,
 ⟨some 71, none, .mv (.t 13)⟩,
 ⟨some 72, none, .neg (.t 71)⟩,
 ⟨some 73, none, .bin .and (.t 70) (.t 72)⟩,
 ⟨some 14, none, .mv (.t 73)⟩]) (
 .seq (
 .reg [⟨some 15, none, .mv (.c (.d (.int 1)))⟩]) (
 .block 6 (
 .loop L0_impl_bestTable))))) (
 .reg [⟨some 68, none, .mv (.t 13)⟩,
 ⟨some 69, none, .bin .add (.t 68) (.c (.d (.int 1)))⟩,
 ⟨some 13, none, .mv (.t 69)⟩]))

def L2_impl_bestTable : C :=
 .seq (
 .reg [⟨some 47, none, .bin .lss (.t 46) (.t 45)⟩]) (
 .seq (
 .cond (.t 47) (
 .skip) (
 .exit 2)) (
 .seq (
 .block 3 (
 .seq (
 .reg [⟨some 48, none, .mv (.t 46)⟩,
 ⟨some 49, none, .idx 3 (.t 44) (.t 46)⟩,
 ⟨some 50, none, .ldn 3 (.t 49)⟩,
 ⟨some 10, none, .zer [.nil, .nil, .nil]⟩,
 ⟨some 9, none, .mv (.t 48)⟩,
 ⟨none, none, .st 3 (.t 10) (.t 50)⟩]) (
 .draw [⟨some 51, none, .mv (.t 7)⟩,
 ⟨some 52, none, .mv (.t 9)⟩,
 ⟨some 53, none, .bin .shl (.c (.d (.int 1))) (.t 52)⟩,
 ⟨some 54, none, .fld 0 (.t 10)⟩,
 ⟨some 55, none, .ld (.t 54)⟩]
 [⟨some 56, none, .idx 1 (.t 51) (.t 53)⟩,
 ⟨none, none, .st 1 (.t 56) (.t 55)⟩]))) (
 .reg [⟨some 57, none, .bin .add (.t 46) (.c (.d (.int 1)))⟩,
 ⟨some 46, none, .mv (.t 57)⟩])))

def L3_impl_bestTable : C :=
 .seq (
 .reg [⟨some 34, none, .bin .lss (.t 33) (.t 32)⟩]) (
 .seq (
 .cond (.t 34) (
 .skip) (
 .exit 0)) (
 .seq (
 .block 1 (
 .seq (
 .reg [⟨some 35, none, .mv (.t 33)⟩,
 ⟨some 8, none, .mv (.t 35)⟩]) (
 .reg [⟨some 36, none, .mv (.t 7)⟩,
 ⟨some 37, none, .mv (.t 8)⟩,
 ⟨some 38, none, .ldn 5 (.t 1)⟩,
 ⟨some 39, none, .mv (.t 8)⟩,
 ⟨some 40, none, .call 147 [(.t 38), (.t 39)]⟩,
 ⟨some 41, none, .idx 1 (.t 36) (.t 37)⟩,
 ⟨none, none, .st 1 (.t 41) (.t 40)⟩]))) (
 .reg [⟨some 42, none, .bin .add (.t 33) (.c (.d (.int 1)))⟩,
 ⟨some 33, none, .mv (.t 42)⟩])))

def C_impl_bestTable : Fun := ⟨1, 141,
 .seq (
 .reg [⟨some 1, none, .box (.t 0)⟩,
 ⟨some 2, none, .mv (.c (.nil))⟩,
 ⟨some 3, none, .mv (.c (.nil))⟩]) (
 .seq (
 .reg [⟨some 19, none, .fld 3 (.t 1)⟩,
 ⟨some 20, none, .ld (.t 19)⟩,
 ⟨some 21, none, .len (.t 20)⟩,
 ⟨some 4, none, .mv (.t 21)⟩]) (
 .seq (
 .reg [⟨some 23, none, .fld 3 (.t 1)⟩,
 ⟨some 24, none, .ld (.t 23)⟩,
 ⟨some 25, none, .call 141 [(.t 24)]⟩,
 ⟨some 22, none, .mv (.t 25)⟩,
 ⟨some 26, none, .ext 0 (.t 22)⟩,
 ⟨some 27, none, .ext 1 (.t 22)⟩,
 ⟨some 5, none, .zer (reps 100 (.d (.int 0)))⟩,
 ⟨none, none, .st 100 (.t 5) (.t 26)⟩,
 ⟨some 6, none, .mv (.t 27)⟩]) (
 .seq (
 .reg [⟨some 28, none, .mv (.t 4)⟩,
 ⟨some 29, none, .bin .shl (.c (.d (.int 1))) (.t 28)⟩,
 ⟨some 30, none, .make 1 24 [.nil] (.t 29) (.t 29)⟩,
 ⟨some 7, none, .mv (.t 30)⟩]) (
 .seq (
 .seq (
 .reg [⟨some 31, none, .mv (.t 7)⟩,
 ⟨some 32, none, .len (.t 31)⟩,
 ⟨some 33, none, .mv (.c (.d (.int 0)))⟩]) (
 .block 0 (
 .loop L3_impl_bestTable))) (
 .seq (
 .seq (
 .reg [⟨some 43, none, .fld 3 (.t 1)⟩,
 ⟨some 44, none, .ld (.t 43)⟩,
 ⟨some 45, none, .len (.t 44)⟩,
 ⟨some 46, none, .mv (.c (.d (.int 0)))⟩]) (
 .block 2 (
 .loop L2_impl_bestTable))) (
 .seq (
 .reg [⟨some 58, none, .mv (.t 4)⟩,
 ⟨some 59, none, .bin .shl (.c (.d (.int 1))) (.t 58)⟩,
 ⟨some 60, none, .make 1 8 [.d (.int 0)] (.t 59) (.t 59)⟩,
 ⟨some 11, none, .mv (.t 60)⟩]) (
 .seq (
 .reg [⟨some 61, none, .mv (.t 4)⟩,
 ⟨some 62, none, .bin .shl (.c (.d (.int 1))) (.t 61)⟩,
 ⟨some 63, none, .make 1 8 [.d (.int 0)] (.t 62) (.t 62)⟩,
 ⟨some 12, none, .mv (.t 63)⟩]) (
 .seq (
 .seq (
 .reg [⟨some 13, none, .mv (.c (.d (.int 1)))⟩]) (
 .block 4 (
 .loop L1_impl_bestTable))) (
 .seq (
 .reg [⟨some 139, none, .mv (.t 11)⟩,
 ⟨some 140, none, .mv (.t 12)⟩,
 ⟨some 2, none, .mv (.t 139)⟩,
 ⟨some 3, none, .mv (.t 140)⟩]) (
 .ret)))))))))),
 [.t 2, .t 3]⟩

theorem k_impl_bestTable : cFun Try.prog Try.f75 = some C_impl_bestTable.erase := by kernel_rfl

def L0_spec_l20Shape : C :=
 .seq (
 .reg [⟨some 12, none, .bin .lss (.t 11) (.t 10)⟩]) (
 .seq (
 .cond (.t 12) (
 .skip) (
 .exit 0)) (
 .seq (
 .block 1 (
 .seq (
 .reg [⟨some 13, none, .mv (.t 11)⟩,
 ⟨some 14, none, .idx 3 (.t 9) (.t 11)⟩,
 ⟨some 15, none, .ldn 3 (.t 14)⟩,
 ⟨some 6, none, .zer [.nil, .nil, .nil]⟩,
 ⟨some 5, none, .mv (.t 13)⟩,
 ⟨none, none, .st 3 (.t 6) (.t 15)⟩]) (
 .seq (
 .reg [⟨some 16, none, .mv (.t 1)⟩,
 ⟨some 17, none, .mv (.t 5)⟩,
 ⟨some 18, none, .bin .shl (.c (.d (.int 1))) (.t 17)⟩,
 ⟨some 19, none, .bin .eql (.t 16) (.t 18)⟩]) (
 .cond (.t 19) (
 .seq (
 .reg [⟨some 20, none, .fld 0 (.t 6)⟩,
 ⟨some 21, none, .ld (.t 20)⟩,
 ⟨some 22, none, .fld 1 (.t 6)⟩,
 ⟨some 23, none, .ld (.t 22)⟩,
 ⟨some 24, none, .agg [.nil, .nil, .nil] [(0, 1, (.t 21)), (1, 1, (.t 23))]⟩,
 ⟨none, none, .st 3 (.t 4) (.t 24)⟩]) (
 .ret)) (
 .skip))))) (
 .reg [⟨some 25, none, .bin .add (.t 11) (.c (.d (.int 1)))⟩,
 ⟨some 11, none, .mv (.t 25)⟩])))

def C_spec_l20Shape : Fun := ⟨2, 35,
 .seq (
 .reg [⟨some 2, none, .box (.t 0)⟩,
 ⟨some 4, none, .zer [.nil, .nil, .nil]⟩]) (
 .seq (
 .seq (
 .reg [⟨some 8, none, .fld 3 (.t 2)⟩,
 ⟨some 9, none, .ld (.t 8)⟩,
 ⟨some 10, none, .len (.t 9)⟩,
 ⟨some 11, none, .mv (.c (.d (.int 0)))⟩]) (
 .block 0 (
 .loop L0_spec_l20Shape))) (
 .seq (
 .reg [⟨some 26, none, .ldn 5 (.t 2)⟩,
 ⟨some 27, none, .mv (.t 1)⟩,
 ⟨some 28, none, .call 177 [(.t 26), (.t 27)]⟩,
 ⟨some 7, none, .mv (.t 28)⟩]) (
 .seq (
 .reg [⟨some 29, none, .mv (.t 7)⟩,
 ⟨some 30, none, .fld 3 (.t 2)⟩,
 ⟨some 31, none, .ld (.t 30)⟩,
 ⟨some 32, none, .mv (.t 7)⟩,
 ⟨some 33, none, .call 138 [(.t 31), (.t 32)]⟩,
 ⟨some 34, none, .agg [.nil, .nil, .nil] [(0, 1, (.t 29)), (1, 1, (.t 33))]⟩,
 ⟨none, none, .st 3 (.t 4) (.t 34)⟩]) (
 .ret)))),
 [.cell 4 3]⟩

theorem k_spec_l20Shape : cFun Try.prog Try.f144 = some C_spec_l20Shape.erase := by kernel_rfl

def L0_impl_cappedProduct : C :=
 .seq (
 .reg [⟨some 11, none, .bin .lss (.t 10) (.t 9)⟩]) (
 .seq (
 .cond (.t 11) (
 .skip) (
 .exit 0)) (
 .seq (
 .block 1 (
 .seq (
 .reg [⟨some 12, none, .idx 1 (.t 8) (.t 10)⟩,
 ⟨some 13, none, .ld (.t 12)⟩,
 ⟨some 7, none, .mv (.t 13)⟩]) (
 .reg [⟨some 14, none, .mv (.t 5)⟩,
 ⟨some 15, none, .mv (.t 7)⟩,
 ⟨some 16, none, .bin .mul (.t 14) (.t 15)⟩,
 ⟨some 17, none, .mv (.t 1)⟩,
 ⟨some 18, none, .mnx false (.t 16) (.t 17)⟩,
 ⟨some 5, none, .mv (.t 18)⟩]))) (
 .reg [⟨some 19, none, .bin .add (.t 10) (.c (.d (.int 1)))⟩,
 ⟨some 10, none, .mv (.t 19)⟩])))

def C_impl_cappedProduct : Fun := ⟨2, 21,
 .seq (
 .reg [⟨some 4, none, .mv (.c (.d (.int 0)))⟩]) (
 .seq (
 .reg [⟨some 5, none, .mv (.c (.d (.int 1)))⟩]) (
 .seq (
 .seq (
 .reg [⟨some 8, none, .mv (.t 0)⟩,
 ⟨some 9, none, .len (.t 8)⟩,
 ⟨some 10, none, .mv (.c (.d (.int 0)))⟩]) (
 .block 0 (
 .loop L0_impl_cappedProduct))) (
 .seq (
 .reg [⟨some 20, none, .mv (.t 5)⟩,
 ⟨some 4, none, .mv (.t 20)⟩]) (
 .ret)))),
 [.t 4]⟩

theorem k_impl_cappedProduct : cFun Try.prog Try.f148 = some C_impl_cappedProduct.erase := by kernel_rfl

end Go.Proofs.Ytcgnehacihjnkaa

/-
  The compiled code of functions of the seat (written by mkcode.py). No condition.
-/
namespace Go.Proofs.Ytcgnehacihjnkaa
open Go.Lift

def L0_laws_toIntS : C :=
      .seq (
      .seq (
      .reg [⟨some 8, none, .mv (.t 4)⟩,
            ⟨some 9, none, .mv (.t 0)⟩,
            ⟨some 10, none, .len (.t 9)⟩,
            ⟨some 11, none, .bin .lss (.t 8) (.t 10)⟩]) (
      .cond (.t 11) (
        .skip) (
        .exit 0))) (
      .seq (
      .block 1 (
        .reg [⟨some 14, none, .mv (.t 3)⟩,
              ⟨some 15, none, .mv (.t 4)⟩,
              ⟨some 16, none, .mv (.t 0)⟩,
              ⟨some 17, none, .mv (.t 4)⟩,
              ⟨some 18, none, .idx 1 (.t 16) (.t 17)⟩,
              ⟨some 19, none, .ld (.t 18)⟩,
              ⟨some 20, none, .idx 1 (.t 14) (.t 15)⟩,
              ⟨none, none, .st 1 (.t 20) (.t 19)⟩])) (
      .reg [⟨some 12, none, .mv (.t 4)⟩,
            ⟨some 13, none, .bin .add (.t 12) (.c (.d (.int 1)))⟩,
            ⟨some 4, none, .mv (.t 13)⟩]))

def C_laws_toIntS : Fun := ⟨1, 22,
  .seq (
  .reg [⟨some 2, none, .mv (.c (.nil))⟩]) (
  .seq (
  .reg [⟨some 5, none, .mv (.t 0)⟩,
        ⟨some 6, none, .len (.t 5)⟩,
        ⟨some 7, none, .make 1 8 [.d (.int 0)] (.t 6) (.t 6)⟩,
        ⟨some 3, none, .mv (.t 7)⟩]) (
  .seq (
  .seq (
  .reg [⟨some 4, none, .mv (.c (.d (.int 0)))⟩]) (
  .block 0 (
    .loop L0_laws_toIntS))) (
  .seq (
  .reg [⟨some 21, none, .mv (.t 3)⟩,
        ⟨some 2, none, .mv (.t 21)⟩]) (
  .ret)))),
  [.t 2]⟩

theorem k_laws_toIntS : cFun Try.prog Try.f17 = some C_laws_toIntS.erase := by kernel_rfl

def C_laws_toRing : Fun := ⟨1, 14,
  .seq (
  .reg [⟨some 1, none, .box (.t 0)⟩,
        ⟨some 2, none, .zer [.d (.int 0), .d (.int 0), .d (.int 0)]⟩]) (
  .seq (
  .reg [⟨some 3, none, .zer [.d (.int 0), .d (.int 0), .d (.int 0)]⟩]) (
  .seq (
  .reg [⟨some 4, none, .fld 0 (.t 1)⟩,
        ⟨some 5, none, .ld (.t 4)⟩,
        ⟨some 6, none, .fld 0 (.t 3)⟩,
        ⟨none, none, .st 1 (.t 6) (.t 5)⟩]) (
  .seq (
  .reg [⟨some 7, none, .fld 1 (.t 1)⟩,
        ⟨some 8, none, .ld (.t 7)⟩,
        ⟨some 9, none, .fld 1 (.t 3)⟩,
        ⟨none, none, .st 1 (.t 9) (.t 8)⟩]) (
  .seq (
  .reg [⟨some 10, none, .fld 2 (.t 1)⟩,
        ⟨some 11, none, .ld (.t 10)⟩,
        ⟨some 12, none, .fld 2 (.t 3)⟩,
        ⟨none, none, .st 1 (.t 12) (.t 11)⟩]) (
  .seq (
  .reg [⟨some 13, none, .ldn 3 (.t 3)⟩,
        ⟨none, none, .st 3 (.t 2) (.t 13)⟩]) (
  .ret)))))),
  [.cell 2 3]⟩

theorem k_laws_toRing : cFun Try.prog Try.f30 = some C_laws_toRing.erase := by kernel_rfl

def C_laws_toTensor : Fun := ⟨1, 17,
  .seq (
  .reg [⟨some 1, none, .box (.t 0)⟩,
        ⟨some 2, none, .zer [.nil, .nil, .nil]⟩]) (
  .seq (
  .reg [⟨some 3, none, .zer [.nil, .nil, .nil]⟩]) (
  .seq (
  .reg [⟨some 4, none, .fld 0 (.t 1)⟩,
        ⟨some 5, none, .ld (.t 4)⟩,
        ⟨some 6, none, .call 17 [(.t 5)]⟩,
        ⟨some 7, none, .fld 0 (.t 3)⟩,
        ⟨none, none, .st 1 (.t 7) (.t 6)⟩]) (
  .seq (
  .reg [⟨some 8, none, .fld 1 (.t 1)⟩,
        ⟨some 9, none, .ld (.t 8)⟩,
        ⟨some 10, none, .call 17 [(.t 9)]⟩,
        ⟨some 11, none, .fld 1 (.t 3)⟩,
        ⟨none, none, .st 1 (.t 11) (.t 10)⟩]) (
  .seq (
  .reg [⟨some 12, none, .fld 2 (.t 1)⟩,
        ⟨some 13, none, .ld (.t 12)⟩,
        ⟨some 14, none, .call 17 [(.t 13)]⟩,
        ⟨some 15, none, .fld 2 (.t 3)⟩,
        ⟨none, none, .st 1 (.t 15) (.t 14)⟩]) (
  .seq (
  .reg [⟨some 16, none, .ldn 3 (.t 3)⟩,
        ⟨none, none, .st 3 (.t 2) (.t 16)⟩]) (
  .ret)))))),
  [.cell 2 3]⟩

theorem k_laws_toTensor : cFun Try.prog Try.f31 = some C_laws_toTensor.erase := by kernel_rfl

def C_laws_szIntS : Fun := ⟨2, 12,
  .seq (
  .reg [⟨some 4, none, .mv (.c (.d (.int 0)))⟩]) (
  .seq (
  .reg [⟨some 5, none, .mv (.t 1)⟩,
        ⟨some 6, none, .mv (.t 0)⟩,
        ⟨some 7, none, .len (.t 6)⟩,
        ⟨some 8, none, .bin .sub (.t 5) (.t 7)⟩,
        ⟨some 1, none, .mv (.t 8)⟩]) (
  .seq (
  .seq (
  .reg [⟨some 9, none, .mv (.t 1)⟩,
        ⟨some 10, none, .bin .lss (.t 9) (.c (.d (.int 0)))⟩]) (
  .cond (.t 10) (
    .seq (
    .reg [⟨some 4, none, .mv (.c (.d (.int (-1))))⟩]) (
    .ret)) (
    .skip))) (
  .seq (
  .reg [⟨some 11, none, .mv (.t 1)⟩,
        ⟨some 4, none, .mv (.t 11)⟩]) (
  .ret)))),
  [.t 4]⟩

theorem k_laws_szIntS : cFun Try.prog Try.f60 = some C_laws_szIntS.erase := by kernel_rfl

def C_laws_szTensor : Fun := ⟨2, 24,
  .seq (
  .reg [⟨some 2, none, .box (.t 0)⟩,
        ⟨some 4, none, .mv (.c (.d (.int 0)))⟩]) (
  .seq (
  .reg [⟨some 5, none, .fld 0 (.t 2)⟩,
        ⟨some 6, none, .ld (.t 5)⟩,
        ⟨some 7, none, .mv (.t 1)⟩,
        ⟨some 8, none, .call 60 [(.t 6), (.t 7)]⟩,
        ⟨some 1, none, .mv (.t 8)⟩]) (
  .seq (
  .seq (
  .reg [⟨some 9, none, .mv (.t 1)⟩,
        ⟨some 10, none, .bin .lss (.t 9) (.c (.d (.int 0)))⟩]) (
  .cond (.t 10) (
    .seq (
    .reg [⟨some 4, none, .mv (.c (.d (.int (-1))))⟩]) (
    .ret)) (
    .skip))) (
  .seq (
  .reg [⟨some 11, none, .fld 1 (.t 2)⟩,
        ⟨some 12, none, .ld (.t 11)⟩,
        ⟨some 13, none, .mv (.t 1)⟩,
        ⟨some 14, none, .call 60 [(.t 12), (.t 13)]⟩,
        ⟨some 1, none, .mv (.t 14)⟩]) (
  .seq (
  .seq (
  .reg [⟨some 15, none, .mv (.t 1)⟩,
        ⟨some 16, none, .bin .lss (.t 15) (.c (.d (.int 0)))⟩]) (
  .cond (.t 16) (
    .seq (
    .reg [⟨some 4, none, .mv (.c (.d (.int (-1))))⟩]) (
    .ret)) (
    .skip))) (
  .seq (
  .reg [⟨some 17, none, .fld 2 (.t 2)⟩,
        ⟨some 18, none, .ld (.t 17)⟩,
        ⟨some 19, none, .mv (.t 1)⟩,
        ⟨some 20, none, .call 60 [(.t 18), (.t 19)]⟩,
        ⟨some 1, none, .mv (.t 20)⟩]) (
  .seq (
  .seq (
  .reg [⟨some 21, none, .mv (.t 1)⟩,
        ⟨some 22, none, .bin .lss (.t 21) (.c (.d (.int 0)))⟩]) (
  .cond (.t 22) (
    .seq (
    .reg [⟨some 4, none, .mv (.c (.d (.int (-1))))⟩]) (
    .ret)) (
    .skip))) (
  .seq (
  .reg [⟨some 23, none, .mv (.t 1)⟩,
        ⟨some 4, none, .mv (.t 23)⟩]) (
  .ret)))))))),
  [.t 4]⟩

theorem k_laws_szTensor : cFun Try.prog Try.f28 = some C_laws_szTensor.erase := by kernel_rfl

def L0_laws_eqIntS : C :=
      .seq (
      .seq (
      .reg [⟨some 11, none, .mv (.t 5)⟩,
            ⟨some 12, none, .mv (.t 0)⟩,
            ⟨some 13, none, .len (.t 12)⟩,
            ⟨some 14, none, .bin .lss (.t 11) (.t 13)⟩]) (
      .cond (.t 14) (
        .skip) (
        .exit 0))) (
      .seq (
      .block 1 (
        .seq (
        .draw [⟨some 17, none, .mv (.t 0)⟩,
               ⟨some 18, none, .mv (.t 5)⟩,
               ⟨some 19, none, .idx 1 (.t 17) (.t 18)⟩,
               ⟨some 20, none, .ld (.t 19)⟩,
               ⟨some 21, none, .mv (.t 1)⟩,
               ⟨some 22, none, .mv (.t 5)⟩,
               ⟨some 23, none, .idx 1 (.t 21) (.t 22)⟩,
               ⟨some 24, none, .ld (.t 23)⟩]
          [⟨some 25, none, .bin .neq (.t 20) (.t 24)⟩]) (
        .cond (.t 25) (
          .seq (
          .reg [⟨some 4, none, .mv (.c (.d (.bool false)))⟩]) (
          .ret)) (
          .skip)))) (
      .reg [⟨some 15, none, .mv (.t 5)⟩,
            ⟨some 16, none, .bin .add (.t 15) (.c (.d (.int 1)))⟩,
            ⟨some 5, none, .mv (.t 16)⟩]))

def C_laws_eqIntS : Fun := ⟨2, 26,
  .seq (
  .reg [⟨some 4, none, .mv (.c (.d (.bool false)))⟩]) (
  .seq (
  .seq (
  .reg [⟨some 6, none, .mv (.t 0)⟩,
        ⟨some 7, none, .len (.t 6)⟩,
        ⟨some 8, none, .mv (.t 1)⟩,
        ⟨some 9, none, .len (.t 8)⟩,
        ⟨some 10, none, .bin .neq (.t 7) (.t 9)⟩]) (
  .cond (.t 10) (
    .seq (
    .reg [⟨some 4, none, .mv (.c (.d (.bool false)))⟩]) (
    .ret)) (
    .skip))) (
  .seq (
  .seq (
  .reg [⟨some 5, none, .mv (.c (.d (.int 0)))⟩]) (
  .block 0 (
    .loop L0_laws_eqIntS))) (
  .seq (
  .reg [⟨some 4, none, .mv (.c (.d (.bool true)))⟩]) (
  .ret)))),
  [.t 4]⟩

theorem k_laws_eqIntS : cFun Try.prog Try.f20 = some C_laws_eqIntS.erase := by kernel_rfl

def C_laws_eqTensor : Fun := ⟨2, 23,
  .seq (
  .reg [⟨some 2, none, .box (.t 0)⟩,
        ⟨some 3, none, .box (.t 1)⟩,
        ⟨some 4, none, .mv (.c (.d (.bool false)))⟩]) (
  .seq (
  .seq (
  .reg [⟨some 5, none, .fld 0 (.t 2)⟩,
        ⟨some 6, none, .ld (.t 5)⟩,
        ⟨some 7, none, .fld 0 (.t 3)⟩,
        ⟨some 8, none, .ld (.t 7)⟩,
        ⟨some 9, none, .call 20 [(.t 6), (.t 8)]⟩,
        ⟨some 10, none, .not (.t 9)⟩]) (
  .cond (.t 10) (
    .seq (
    .reg [⟨some 4, none, .mv (.c (.d (.bool false)))⟩]) (
    .ret)) (
    .skip))) (
  .seq (
  .seq (
  .reg [⟨some 11, none, .fld 1 (.t 2)⟩,
        ⟨some 12, none, .ld (.t 11)⟩,
        ⟨some 13, none, .fld 1 (.t 3)⟩,
        ⟨some 14, none, .ld (.t 13)⟩,
        ⟨some 15, none, .call 20 [(.t 12), (.t 14)]⟩,
        ⟨some 16, none, .not (.t 15)⟩]) (
  .cond (.t 16) (
    .seq (
    .reg [⟨some 4, none, .mv (.c (.d (.bool false)))⟩]) (
    .ret)) (
    .skip))) (
  .seq (
  .seq (
  .reg [⟨some 17, none, .fld 2 (.t 2)⟩,
        ⟨some 18, none, .ld (.t 17)⟩,
        ⟨some 19, none, .fld 2 (.t 3)⟩,
        ⟨some 20, none, .ld (.t 19)⟩,
        ⟨some 21, none, .call 20 [(.t 18), (.t 20)]⟩,
        ⟨some 22, none, .not (.t 21)⟩]) (
  .cond (.t 22) (
    .seq (
    .reg [⟨some 4, none, .mv (.c (.d (.bool false)))⟩]) (
    .ret)) (
    .skip))) (
  .seq (
  .reg [⟨some 4, none, .mv (.c (.d (.bool true)))⟩]) (
  .ret))))),
  [.t 4]⟩

theorem k_laws_eqTensor : cFun Try.prog Try.f33 = some C_laws_eqTensor.erase := by kernel_rfl

def C_impl_copyInts : Fun := ⟨1, 5,
  .seq (
  .reg [⟨some 2, none, .mv (.c (.nil))⟩]) (
  .seq (
  .reg [⟨some 3, none, .mv (.t 0)⟩,
        ⟨some 4, none, .app 1 8 [.d (.int 0)] (.c (.nil)) (.t 3)⟩,
        ⟨some 2, none, .mv (.t 4)⟩]) (
  .ret)),
  [.t 2]⟩

theorem k_impl_copyInts : cFun Try.prog Try.f143 = some C_impl_copyInts.erase := by kernel_rfl

def C_spec_l05Get : Fun := ⟨3, 23,
  .seq (
  .reg [⟨some 3, none, .box (.t 0)⟩,
        ⟨some 4, none, .box (.t 1)⟩,
        ⟨some 6, none, .mv (.c (.nil))⟩]) (
  .seq (
  .reg [⟨some 8, none, .ldn 3 (.t 3)⟩,
        ⟨some 9, none, .call 168 [(.t 8)]⟩,
        ⟨some 7, none, .mv (.t 9)⟩]) (
  .seq (
  .reg [⟨some 10, none, .mksl 1 0 [.d (.int 0)] []⟩,
        ⟨some 11, none, .fld 2 (.t 4)⟩,
        ⟨some 12, none, .ld (.t 11)⟩,
        ⟨some 13, none, .mv (.t 2)⟩,
        ⟨some 14, none, .mv (.t 7)⟩,
        ⟨some 15, none, .bin .mul (.t 13) (.t 14)⟩,
        ⟨some 16, none, .mv (.t 2)⟩,
        ⟨some 17, none, .mv (.t 7)⟩,
        ⟨some 18, none, .bin .mul (.t 16) (.t 17)⟩,
        ⟨some 19, none, .mv (.t 7)⟩,
        ⟨some 20, none, .bin .add (.t 18) (.t 19)⟩,
        ⟨some 21, none, .slc 1 (.t 12) (some (.t 15)) (some (.t 20))⟩,
        ⟨some 22, none, .app 1 8 [.d (.int 0)] (.t 10) (.t 21)⟩,
        ⟨some 6, none, .mv (.t 22)⟩]) (
  .ret))),
  [.t 6]⟩

theorem k_spec_l05Get : cFun Try.prog Try.f157 = some C_spec_l05Get.erase := by kernel_rfl

end Go.Proofs.Ytcgnehacihjnkaa

/-
  The compiled code of functions of the seat (written by mkcode.py). No condition.
-/
namespace Go.Proofs.Ytcgnehacihjnkaa
open Go.Lift

def L0_spec_l05Product : C :=
 .seq (
 .reg [⟨some 11, none, .bin .lss (.t 10) (.t 9)⟩]) (
 .seq (
 .cond (.t 11) (
 .skip) (
 .exit 0)) (
 .seq (
 .block 1 (
 .seq (
 .reg [⟨some 12, none, .idx 1 (.t 8) (.t 10)⟩,
 ⟨some 13, none, .ld (.t 12)⟩,
 ⟨some 7, none, .mv (.t 13)⟩]) (
 .reg [⟨some 14, none, .mv (.t 5)⟩,
 ⟨some 15, none, .mv (.t 7)⟩,
 ⟨some 16, none, .bin .mul (.t 14) (.t 15)⟩,
 ⟨some 17, none, .mv (.t 1)⟩,
 ⟨some 18, none, .bin .add (.t 17) (.c (.d (.int 1)))⟩,
 ⟨some 19, none, .mnx false (.t 16) (.t 18)⟩,
 ⟨some 5, none, .mv (.t 19)⟩]))) (
 .reg [⟨some 20, none, .bin .add (.t 10) (.c (.d (.int 1)))⟩,
 ⟨some 10, none, .mv (.t 20)⟩])))

def C_spec_l05Product : Fun := ⟨2, 22,
 .seq (
 .reg [⟨some 4, none, .mv (.c (.d (.int 0)))⟩]) (
 .seq (
 .reg [⟨some 5, none, .mv (.c (.d (.int 1)))⟩]) (
 .seq (
 .seq (
 .reg [⟨some 8, none, .mv (.t 0)⟩,
 ⟨some 9, none, .len (.t 8)⟩,
 ⟨some 10, none, .mv (.c (.d (.int 0)))⟩]) (
 .block 0 (
 .loop L0_spec_l05Product))) (
 .seq (
 .reg [⟨some 21, none, .mv (.t 5)⟩,
 ⟨some 4, none, .mv (.t 21)⟩]) (
 .ret)))),
 [.t 4]⟩

theorem k_spec_l05Product : cFun Try.prog Try.f146 = some C_spec_l05Product.erase := by kernel_rfl

def L0_impl_hasInt : C :=
 .seq (
 .reg [⟨some 10, none, .bin .lss (.t 9) (.t 8)⟩]) (
 .seq (
 .cond (.t 10) (
 .skip) (
 .exit 0)) (
 .seq (
 .block 1 (
 .seq (
 .reg [⟨some 11, none, .idx 1 (.t 7) (.t 9)⟩,
 ⟨some 12, none, .ld (.t 11)⟩,
 ⟨some 6, none, .mv (.t 12)⟩]) (
 .seq (
 .reg [⟨some 13, none, .mv (.t 1)⟩,
 ⟨some 14, none, .mv (.t 6)⟩,
 ⟨some 15, none, .bin .eql (.t 13) (.t 14)⟩]) (
 .cond (.t 15) (
 .seq (
 .reg [⟨some 4, none, .mv (.c (.d (.bool true)))⟩]) (
 .ret)) (
 .skip))))) (
 .reg [⟨some 16, none, .bin .add (.t 9) (.c (.d (.int 1)))⟩,
 ⟨some 9, none, .mv (.t 16)⟩])))

def C_impl_hasInt : Fun := ⟨2, 17,
 .seq (
 .reg [⟨some 4, none, .mv (.c (.d (.bool false)))⟩]) (
 .seq (
 .seq (
 .reg [⟨some 7, none, .mv (.t 0)⟩,
 ⟨some 8, none, .len (.t 7)⟩,
 ⟨some 9, none, .mv (.c (.d (.int 0)))⟩]) (
 .block 0 (
 .loop L0_impl_hasInt))) (
 .seq (
 .reg [⟨some 4, none, .mv (.c (.d (.bool false)))⟩]) (
 .ret))),
 [.t 4]⟩

theorem k_impl_hasInt : cFun Try.prog Try.f67 = some C_impl_hasInt.erase := by kernel_rfl

def L0_spec_l08Join : C :=
 .seq (
 .reg [⟨some 22, none, .bin .lss (.t 21) (.t 20)⟩]) (
 .seq (
 .cond (.t 22) (
 .skip) (
 .exit 0)) (
 .seq (
 .block 1 (
 .seq (
 .reg [⟨some 23, none, .mv (.t 21)⟩,
 ⟨some 24, none, .idx 1 (.t 19) (.t 21)⟩,
 ⟨some 25, none, .ld (.t 24)⟩,
 ⟨some 9, none, .mv (.t 23)⟩,
 ⟨some 10, none, .mv (.t 25)⟩]) (
 .seq (
 .reg [⟨some 26, none, .mv (.t 7)⟩,
 ⟨some 27, none, .mv (.t 10)⟩,
 ⟨some 28, none, .call 63 [(.t 26), (.t 27)]⟩,
 ⟨some 11, none, .mv (.t 28)⟩]) (
 .seq (
 .seq (
 .draw [⟨some 29, none, .mv (.t 11)⟩,
 ⟨some 30, none, .bin .geq (.t 29) (.c (.d (.int 0)))⟩,
 ⟨some 31, none, .mv (.t 30)⟩,
 ⟨some 32, some (31, true), .mv (.t 8)⟩,
 ⟨some 33, some (31, true), .mv (.t 11)⟩,
 ⟨some 34, some (31, true), .idx 1 (.t 32) (.t 33)⟩,
 ⟨some 35, some (31, true), .ld (.t 34)⟩,
 ⟨some 36, some (31, true), .fld 1 (.t 3)⟩,
 ⟨some 37, some (31, true), .ld (.t 36)⟩,
 ⟨some 38, some (31, true), .mv (.t 9)⟩,
 ⟨some 39, some (31, true), .idx 1 (.t 37) (.t 38)⟩,
 ⟨some 40, some (31, true), .ld (.t 39)⟩]
 [⟨some 41, some (31, true), .bin .neq (.t 35) (.t 40)⟩,
 ⟨some 42, none, .pick (.t 31) (.t 41) (.c (.d (.bool false)))⟩]) (
 .cond (.t 42) (
 .seq (
 .reg [⟨some 4, none, .mv (.c (.nil))⟩,
 ⟨some 5, none, .mv (.c (.nil))⟩,
 ⟨some 6, none, .mv (.c (.d (.bool false)))⟩]) (
 .ret)) (
 .skip))) (
 .seq (
 .reg [⟨some 43, none, .mv (.t 11)⟩,
 ⟨some 44, none, .bin .lss (.t 43) (.c (.d (.int 0)))⟩]) (
 .cond (.t 44) (
 .seq (
 .reg [⟨some 45, none, .mv (.t 7)⟩,
 ⟨some 46, none, .mv (.t 10)⟩,
 ⟨some 47, none, .mksl 1 1 [.d (.int 0)] [(0, 1, (.t 46))]⟩,
 ⟨some 48, none, .app 1 8 [.d (.int 0)] (.t 45) (.t 47)⟩,
 ⟨some 7, none, .mv (.t 48)⟩]) (
 .reg [⟨some 49, none, .mv (.t 8)⟩,
 ⟨some 50, none, .fld 1 (.t 3)⟩,
 ⟨some 51, none, .ld (.t 50)⟩,
 ⟨some 52, none, .mv (.t 9)⟩,
 ⟨some 53, none, .idx 1 (.t 51) (.t 52)⟩,
 ⟨some 54, none, .ld (.t 53)⟩,
 ⟨some 55, none, .mksl 1 1 [.d (.int 0)] [(0, 1, (.t 54))]⟩,
 ⟨some 56, none, .app 1 8 [.d (.int 0)] (.t 49) (.t 55)⟩,
 ⟨some 8, none, .mv (.t 56)⟩])) (
 .skip))))))) (
 .reg [⟨some 57, none, .bin .add (.t 21) (.c (.d (.int 1)))⟩,
 ⟨some 21, none, .mv (.t 57)⟩])))

def C_spec_l08Join : Fun := ⟨2, 60,
 .seq (
 .reg [⟨some 2, none, .box (.t 0)⟩,
 ⟨some 3, none, .box (.t 1)⟩,
 ⟨some 4, none, .mv (.c (.nil))⟩,
 ⟨some 5, none, .mv (.c (.nil))⟩,
 ⟨some 6, none, .mv (.c (.d (.bool false)))⟩]) (
 .seq (
 .reg [⟨some 12, none, .fld 0 (.t 2)⟩,
 ⟨some 13, none, .ld (.t 12)⟩,
 ⟨some 14, none, .call 150 [(.t 13)]⟩,
 ⟨some 7, none, .mv (.t 14)⟩]) (
 .seq (
 .reg [⟨some 15, none, .fld 1 (.t 2)⟩,
 ⟨some 16, none, .ld (.t 15)⟩,
 ⟨some 17, none, .call 150 [(.t 16)]⟩,
 ⟨some 8, none, .mv (.t 17)⟩]) (
 .seq (
 .seq (
 .reg [⟨some 18, none, .fld 0 (.t 3)⟩,
 ⟨some 19, none, .ld (.t 18)⟩,
 ⟨some 20, none, .len (.t 19)⟩,
 ⟨some 21, none, .mv (.c (.d (.int 0)))⟩]) (
 .block 0 (
 .loop L0_spec_l08Join))) (
 .seq (
 .reg [⟨some 58, none, .mv (.t 7)⟩,
 ⟨some 59, none, .mv (.t 8)⟩,
 ⟨some 4, none, .mv (.t 58)⟩,
 ⟨some 5, none, .mv (.t 59)⟩,
 ⟨some 6, none, .mv (.c (.d (.bool true)))⟩]) (
 .ret))))),
 [.t 4, .t 5, .t 6]⟩

theorem k_spec_l08Join : cFun Try.prog Try.f145 = some C_spec_l08Join.erase := by kernel_rfl

def C_spec_l05Copy : Fun := ⟨1, 13,
 .seq (
 .reg [⟨some 1, none, .box (.t 0)⟩,
 ⟨some 2, none, .zer [.nil, .nil, .nil]⟩]) (
 .seq (
 .draw [⟨some 3, none, .fld 0 (.t 1)⟩,
 ⟨some 4, none, .ld (.t 3)⟩,
 ⟨some 5, none, .call 150 [(.t 4)]⟩,
 ⟨some 6, none, .fld 1 (.t 1)⟩,
 ⟨some 7, none, .ld (.t 6)⟩,
 ⟨some 8, none, .call 150 [(.t 7)]⟩,
 ⟨some 9, none, .fld 2 (.t 1)⟩,
 ⟨some 10, none, .ld (.t 9)⟩]
 [⟨some 11, none, .call 150 [(.t 10)]⟩,
 ⟨some 12, none, .agg [.nil, .nil, .nil] [(0, 1, (.t 5)), (1, 1, (.t 8)), (2, 1, (.t 11))]⟩,
 ⟨none, none, .st 3 (.t 2) (.t 12)⟩]) (
 .ret)),
 [.cell 2 3]⟩

theorem k_spec_l05Copy : cFun Try.prog Try.f139 = some C_spec_l05Copy.erase := by kernel_rfl

def L0_spec_l05Put : C :=
 .seq (
 .reg [⟨some 15, none, .bin .lss (.t 14) (.t 13)⟩]) (
 .seq (
 .cond (.t 15) (
 .skip) (
 .exit 0)) (
 .seq (
 .block 1 (
 .seq (
 .reg [⟨some 16, none, .mv (.t 14)⟩,
 ⟨some 9, none, .mv (.t 16)⟩]) (
 .draw [⟨some 17, none, .fld 2 (.t 5)⟩,
 ⟨some 18, none, .ld (.t 17)⟩,
 ⟨some 19, none, .mv (.t 2)⟩,
 ⟨some 20, none, .mv (.t 8)⟩,
 ⟨some 21, none, .bin .mul (.t 19) (.t 20)⟩,
 ⟨some 22, none, .mv (.t 9)⟩,
 ⟨some 23, none, .bin .add (.t 21) (.t 22)⟩,
 ⟨some 24, none, .mv (.t 3)⟩,
 ⟨some 25, none, .mv (.t 9)⟩,
 ⟨some 26, none, .idx 1 (.t 24) (.t 25)⟩,
 ⟨some 27, none, .ld (.t 26)⟩]
 [⟨some 28, none, .idx 1 (.t 18) (.t 23)⟩,
 ⟨none, none, .st 1 (.t 28) (.t 27)⟩]))) (
 .reg [⟨some 29, none, .bin .add (.t 14) (.c (.d (.int 1)))⟩,
 ⟨some 14, none, .mv (.t 29)⟩])))

def C_spec_l05Put : Fun := ⟨4, 30,
 .seq (
 .reg [⟨some 4, none, .box (.t 0)⟩,
 ⟨some 5, none, .box (.t 1)⟩]) (
 .seq (
 .reg [⟨some 10, none, .ldn 3 (.t 4)⟩,
 ⟨some 11, none, .call 168 [(.t 10)]⟩,
 ⟨some 8, none, .mv (.t 11)⟩]) (
 .seq (
 .reg [⟨some 12, none, .mv (.t 3)⟩,
 ⟨some 13, none, .len (.t 12)⟩,
 ⟨some 14, none, .mv (.c (.d (.int 0)))⟩]) (
 .block 0 (
 .loop L0_spec_l05Put)))),
 []⟩

theorem k_spec_l05Put : cFun Try.prog Try.f155 = some C_spec_l05Put.erase := by kernel_rfl

def L0_spec_l05Find : C :=
 .seq (
 .reg [⟨some 10, none, .bin .lss (.t 9) (.t 8)⟩]) (
 .seq (
 .cond (.t 10) (
 .skip) (
 .exit 0)) (
 .seq (
 .block 1 (
 .seq (
 .reg [⟨some 11, none, .mv (.t 9)⟩,
 ⟨some 12, none, .idx 1 (.t 7) (.t 9)⟩,
 ⟨some 13, none, .ld (.t 12)⟩,
 ⟨some 5, none, .mv (.t 11)⟩,
 ⟨some 6, none, .mv (.t 13)⟩]) (
 .seq (
 .reg [⟨some 14, none, .mv (.t 6)⟩,
 ⟨some 15, none, .mv (.t 1)⟩,
 ⟨some 16, none, .bin .eql (.t 14) (.t 15)⟩]) (
 .cond (.t 16) (
 .seq (
 .reg [⟨some 17, none, .mv (.t 5)⟩,
 ⟨some 4, none, .mv (.t 17)⟩]) (
 .ret)) (
 .skip))))) (
 .reg [⟨some 18, none, .bin .add (.t 9) (.c (.d (.int 1)))⟩,
 ⟨some 9, none, .mv (.t 18)⟩])))

def C_spec_l05Find : Fun := ⟨2, 19,
 .seq (
 .reg [⟨some 4, none, .mv (.c (.d (.int 0)))⟩]) (
 .seq (
 .seq (
 .reg [⟨some 7, none, .mv (.t 0)⟩,
 ⟨some 8, none, .len (.t 7)⟩,
 ⟨some 9, none, .mv (.c (.d (.int 0)))⟩]) (
 .block 0 (
 .loop L0_spec_l05Find))) (
 .seq (
 .reg [⟨some 4, none, .mv (.c (.d (.int (-1))))⟩]) (
 .ret))),
 [.t 4]⟩

theorem k_spec_l05Find : cFun Try.prog Try.f63 = some C_spec_l05Find.erase := by kernel_rfl

def L0_impl_withoutInt : C :=
 .seq (
 .reg [⟨some 11, none, .bin .lss (.t 10) (.t 9)⟩]) (
 .seq (
 .cond (.t 11) (
 .skip) (
 .exit 0)) (
 .seq (
 .block 1 (
 .seq (
 .reg [⟨some 12, none, .idx 1 (.t 8) (.t 10)⟩,
 ⟨some 13, none, .ld (.t 12)⟩,
 ⟨some 7, none, .mv (.t 13)⟩]) (
 .seq (
 .reg [⟨some 14, none, .mv (.t 7)⟩,
 ⟨some 15, none, .mv (.t 1)⟩,
 ⟨some 16, none, .bin .neq (.t 14) (.t 15)⟩]) (
 .cond (.t 16) (
 .reg [⟨some 17, none, .mv (.t 5)⟩,
 ⟨some 18, none, .mv (.t 7)⟩,
 ⟨some 19, none, .mksl 1 1 [.d (.int 0)] [(0, 1, (.t 18))]⟩,
 ⟨some 20, none, .app 1 8 [.d (.int 0)] (.t 17) (.t 19)⟩,
 ⟨some 5, none, .mv (.t 20)⟩]) (
 .skip))))) (
 .reg [⟨some 21, none, .bin .add (.t 10) (.c (.d (.int 1)))⟩,
 ⟨some 10, none, .mv (.t 21)⟩])))

def C_impl_withoutInt : Fun := ⟨2, 23,
 .seq (
 .reg [⟨some 4, none, .mv (.c (.nil))⟩]) (
 .seq (
 .reg [⟨some 5, none, .mv (.c (.nil))⟩]) (
 .seq (
 .seq (
 .reg [⟨some 8, none, .mv (.t 0)⟩,
 ⟨some 9, none, .len (.t 8)⟩,
 ⟨some 10, none, .mv (.c (.d (.int 0)))⟩]) (
 .block 0 (
 .loop L0_impl_withoutInt))) (
 .seq (
 .reg [⟨some 22, none, .mv (.t 5)⟩,
 ⟨some 4, none, .mv (.t 22)⟩]) (
 .ret)))),
 [.t 4]⟩

theorem k_impl_withoutInt : cFun Try.prog Try.f107 = some C_impl_withoutInt.erase := by kernel_rfl

def L0_spec_l02Mul : C :=
 .seq (
 .reg [⟨some 27, none, .bin .lss (.t 26) (.t 25)⟩]) (
 .seq (
 .cond (.t 27) (
 .skip) (
 .exit 3)) (
 .seq (
 .block 4 (
 .seq (
 .reg [⟨some 28, none, .mv (.t 26)⟩,
 ⟨some 29, none, .idx 1 (.t 24) (.t 26)⟩,
 ⟨some 30, none, .ld (.t 29)⟩,
 ⟨some 10, none, .mv (.t 28)⟩,
 ⟨some 11, none, .mv (.t 30)⟩]) (
 .block 5 (
 .seq (
 .reg [⟨some 32, none, .mv (.t 8)⟩,
 ⟨some 33, none, .mv (.t 10)⟩,
 ⟨some 34, none, .bin .add (.t 32) (.t 33)⟩,
 ⟨some 35, none, .mv (.t 7)⟩,
 ⟨some 36, none, .len (.t 35)⟩,
 ⟨some 37, none, .bin .lss (.t 34) (.t 36)⟩,
 ⟨some 31, none, .mv (.t 37)⟩]) (
 .cond (.t 31) (
 .draw [⟨some 38, none, .mv (.t 7)⟩,
 ⟨some 39, none, .mv (.t 8)⟩,
 ⟨some 40, none, .mv (.t 10)⟩,
 ⟨some 41, none, .bin .add (.t 39) (.t 40)⟩,
 ⟨some 42, none, .mv (.t 7)⟩,
 ⟨some 43, none, .mv (.t 8)⟩,
 ⟨some 44, none, .mv (.t 10)⟩,
 ⟨some 45, none, .bin .add (.t 43) (.t 44)⟩,
 ⟨some 46, none, .idx 1 (.t 42) (.t 45)⟩,
 ⟨some 47, none, .ld (.t 46)⟩,
 ⟨some 48, none, .mv (.t 9)⟩,
 ⟨some 49, none, .mv (.t 11)⟩,
 ⟨some 50, none, .bin .mul (.t 48) (.t 49)⟩,
 ⟨some 51, none, .bin .add (.t 47) (.t 50)⟩,
 ⟨some 52, none, .fld 1 (.t 3)⟩,
 ⟨some 53, none, .ld (.t 52)⟩,
 ⟨some 54, none, .bin .rem (.t 51) (.t 53)⟩]
 [⟨some 55, none, .idx 1 (.t 38) (.t 41)⟩,
 ⟨none, none, .st 1 (.t 55) (.t 54)⟩]) (
 .seq (
 .reg [⟨some 57, none, .fld 0 (.t 3)⟩,
 ⟨some 58, none, .ld (.t 57)⟩,
 ⟨some 59, none, .bin .eql (.t 58) (.c (.d (.int 8)))⟩,
 ⟨some 56, none, .mv (.t 59)⟩]) (
 .cond (.t 56) (
 .draw [⟨some 60, none, .mv (.t 7)⟩,
 ⟨some 61, none, .mv (.t 8)⟩,
 ⟨some 62, none, .mv (.t 10)⟩,
 ⟨some 63, none, .bin .add (.t 61) (.t 62)⟩,
 ⟨some 64, none, .bin .sub (.t 63) (.c (.d (.int 4)))⟩,
 ⟨some 65, none, .mv (.t 7)⟩,
 ⟨some 66, none, .mv (.t 8)⟩,
 ⟨some 67, none, .mv (.t 10)⟩,
 ⟨some 68, none, .bin .add (.t 66) (.t 67)⟩,
 ⟨some 69, none, .bin .sub (.t 68) (.c (.d (.int 4)))⟩,
 ⟨some 70, none, .idx 1 (.t 65) (.t 69)⟩,
 ⟨some 71, none, .ld (.t 70)⟩,
 ⟨some 72, none, .fld 1 (.t 3)⟩,
 ⟨some 73, none, .ld (.t 72)⟩,
 ⟨some 74, none, .mv (.t 9)⟩,
 ⟨some 75, none, .bin .sub (.t 73) (.t 74)⟩,
 ⟨some 76, none, .mv (.t 11)⟩,
 ⟨some 77, none, .bin .mul (.t 75) (.t 76)⟩,
 ⟨some 78, none, .bin .add (.t 71) (.t 77)⟩,
 ⟨some 79, none, .fld 1 (.t 3)⟩,
 ⟨some 80, none, .ld (.t 79)⟩,
 ⟨some 81, none, .bin .rem (.t 78) (.t 80)⟩]
 [⟨some 82, none, .idx 1 (.t 60) (.t 64)⟩,
 ⟨none, none, .st 1 (.t 82) (.t 81)⟩]) (
 .skip)))))))) (
 .reg [⟨some 83, none, .bin .add (.t 26) (.c (.d (.int 1)))⟩,
 ⟨some 26, none, .mv (.t 83)⟩])))

def L1_spec_l02Mul : C :=
 .seq (
 .reg [⟨some 20, none, .bin .lss (.t 19) (.t 18)⟩]) (
 .seq (
 .cond (.t 20) (
 .skip) (
 .exit 1)) (
 .seq (
 .block 2 (
 .seq (
 .reg [⟨some 21, none, .mv (.t 19)⟩,
 ⟨some 22, none, .idx 1 (.t 17) (.t 19)⟩,
 ⟨some 23, none, .ld (.t 22)⟩,
 ⟨some 8, none, .mv (.t 21)⟩,
 ⟨some 9, none, .mv (.t 23)⟩]) (
 .seq (
 .reg [⟨some 24, none, .mv (.t 2)⟩,
 ⟨some 25, none, .len (.t 24)⟩,
 ⟨some 26, none, .mv (.c (.d (.int 0)))⟩]) (
 .block 3 (
 .loop L0_spec_l02Mul))))) (
 .reg [⟨some 84, none, .bin .add (.t 19) (.c (.d (.int 1)))⟩,
 ⟨some 19, none, .mv (.t 84)⟩])))

def C_spec_l02Mul : Fun := ⟨3, 151,
 .seq (
 .reg [⟨some 3, none, .box (.t 0)⟩,
 ⟨some 6, none, .mv (.c (.nil))⟩]) (
 .seq (
 .reg [⟨some 12, none, .mv (.t 1)⟩,
 ⟨some 13, none, .len (.t 12)⟩,
 ⟨some 14, none, .make 1 8 [.d (.int 0)] (.t 13) (.t 13)⟩,
 ⟨some 7, none, .mv (.t 14)⟩]) (
 .seq (
 .seq (
 .reg [⟨some 15, none, .fld 0 (.t 3)⟩,
 ⟨some 16, none, .ld (.t 15)⟩]) (
 .block 0 (
 .seq (
 .seq (
 .reg [⟨some 86, none, .bin .eql (.t 16) (.c (.d (.int 1)))⟩,
 ⟨some 85, none, .mv (.t 86)⟩]) (
 .cond (.t 85) (
 .skip) (
 .reg [⟨some 87, none, .bin .eql (.t 16) (.c (.d (.int 6)))⟩,
 ⟨some 85, none, .mv (.t 87)⟩]))) (
 .cond (.t 85) (
 .draw [⟨some 88, none, .mv (.t 7)⟩,
 ⟨some 89, none, .mv (.t 1)⟩,
 ⟨some 90, none, .idx 1 (.t 89) (.c (.d (.int 0)))⟩,
 ⟨some 91, none, .ld (.t 90)⟩,
 ⟨some 92, none, .mv (.t 2)⟩,
 ⟨some 93, none, .idx 1 (.t 92) (.c (.d (.int 0)))⟩,
 ⟨some 94, none, .ld (.t 93)⟩,
 ⟨some 95, none, .bin .and (.t 91) (.t 94)⟩]
 [⟨some 96, none, .idx 1 (.t 88) (.c (.d (.int 0)))⟩,
 ⟨none, none, .st 1 (.t 96) (.t 95)⟩]) (
 .seq (
 .reg [⟨some 98, none, .bin .eql (.t 16) (.c (.d (.int 2)))⟩,
 ⟨some 97, none, .mv (.t 98)⟩]) (
 .cond (.t 97) (
 .draw [⟨some 99, none, .mv (.t 7)⟩,
 ⟨some 100, none, .mv (.t 1)⟩,
 ⟨some 101, none, .idx 1 (.t 100) (.c (.d (.int 0)))⟩,
 ⟨some 102, none, .ld (.t 101)⟩,
 ⟨some 103, none, .mv (.t 2)⟩,
 ⟨some 104, none, .idx 1 (.t 103) (.c (.d (.int 0)))⟩,
 ⟨some 105, none, .ld (.t 104)⟩,
 ⟨some 106, none, .bin .mul (.t 102) (.t 105)⟩,
 ⟨some 107, none, .fld 1 (.t 3)⟩,
 ⟨some 108, none, .ld (.t 107)⟩,
 ⟨some 109, none, .bin .rem (.t 106) (.t 108)⟩]
 [⟨some 110, none, .idx 1 (.t 99) (.c (.d (.int 0)))⟩,
 ⟨none, none, .st 1 (.t 110) (.t 109)⟩]) (
 .seq (
 .reg [⟨some 112, none, .bin .eql (.t 16) (.c (.d (.int 3)))⟩,
 ⟨some 111, none, .mv (.t 112)⟩]) (
 .cond (.t 111) (
 .draw [⟨some 113, none, .mv (.t 7)⟩,
 ⟨some 114, none, .mv (.t 1)⟩,
 ⟨some 115, none, .idx 1 (.t 114) (.c (.d (.int 0)))⟩,
 ⟨some 116, none, .ld (.t 115)⟩,
 ⟨some 117, none, .mv (.t 2)⟩,
 ⟨some 118, none, .idx 1 (.t 117) (.c (.d (.int 0)))⟩,
 ⟨some 119, none, .ld (.t 118)⟩,
 ⟨some 120, none, .bin .mul (.t 116) (.t 119)⟩,
 ⟨some 121, none, .fld 1 (.t 3)⟩,
 ⟨some 122, none, .ld (.t 121)⟩,
 ⟨some 123, none, .mnx false (.t 120) (.t 122)⟩]
 [⟨some 124, none, .idx 1 (.t 113) (.c (.d (.int 0)))⟩,
 ⟨none, none, .st 1 (.t 124) (.t 123)⟩]) (
 .seq (
 .reg [⟨some 126, none, .bin .eql (.t 16) (.c (.d (.int 4)))⟩,
 ⟨some 125, none, .mv (.t 126)⟩]) (
 .cond (.t 125) (
 .draw [⟨some 127, none, .mv (.t 7)⟩,
 ⟨some 128, none, .mv (.t 1)⟩,
 ⟨some 129, none, .idx 1 (.t 128) (.c (.d (.int 0)))⟩,
 ⟨some 130, none, .ld (.t 129)⟩,
 ⟨some 131, none, .mv (.t 2)⟩,
 ⟨some 132, none, .idx 1 (.t 131) (.c (.d (.int 0)))⟩,
 ⟨some 133, none, .ld (.t 132)⟩,
 ⟨some 134, none, .bin .add (.t 130) (.t 133)⟩,
 ⟨some 135, none, .fld 1 (.t 3)⟩,
 ⟨some 136, none, .ld (.t 135)⟩,
 ⟨some 137, none, .mnx false (.t 134) (.t 136)⟩]
 [⟨some 138, none, .idx 1 (.t 127) (.c (.d (.int 0)))⟩,
 ⟨none, none, .st 1 (.t 138) (.t 137)⟩]) (
 .seq (
 .reg [⟨some 140, none, .bin .eql (.t 16) (.c (.d (.int 5)))⟩,
 ⟨some 139, none, .mv (.t 140)⟩]) (
 .cond (.t 139) (
 .draw [⟨some 141, none, .mv (.t 7)⟩,
 ⟨some 142, none, .mv (.t 1)⟩,
 ⟨some 143, none, .idx 1 (.t 142) (.c (.d (.int 0)))⟩,
 ⟨some 144, none, .ld (.t 143)⟩,
 ⟨some 145, none, .mv (.t 2)⟩,
 ⟨some 146, none, .idx 1 (.t 145) (.c (.d (.int 0)))⟩,
 ⟨some 147, none, .ld (.t 146)⟩,
 ⟨some 148, none, .mnx false (.t 144) (.t 147)⟩]
 [⟨some 149, none, .idx 1 (.t 141) (.c (.d (.int 0)))⟩,
 ⟨none, none, .st 1 (.t 149) (.t 148)⟩]) (
 .seq (
 .reg [⟨some 17, none, .mv (.t 1)⟩,
 ⟨some 18, none, .len (.t 17)⟩,
 ⟨some 19, none, .mv (.c (.d (.int 0)))⟩]) (
 .block 1 (
 .loop L1_spec_l02Mul))))))))))))))) (
 .seq (
 .reg [⟨some 150, none, .mv (.t 7)⟩,
 ⟨some 6, none, .mv (.t 150)⟩]) (
 .ret)))),
 [.t 6]⟩

theorem k_spec_l02Mul : cFun Try.prog Try.f156 = some C_spec_l02Mul.erase := by kernel_rfl

def C_spec_l05Ints : Fun := ⟨1, 6,
 .seq (
 .reg [⟨some 2, none, .mv (.c (.nil))⟩]) (
 .seq (
 .reg [⟨some 3, none, .mksl 1 0 [.d (.int 0)] []⟩,
 ⟨some 4, none, .mv (.t 0)⟩,
 ⟨some 5, none, .app 1 8 [.d (.int 0)] (.t 3) (.t 4)⟩,
 ⟨some 2, none, .mv (.t 5)⟩]) (
 .ret)),
 [.t 2]⟩

theorem k_spec_l05Ints : cFun Try.prog Try.f150 = some C_spec_l05Ints.erase := by kernel_rfl

def L0_impl_joinLabels : C :=
 .seq (
 .reg [⟨some 13, none, .bin .lss (.t 12) (.t 11)⟩]) (
 .seq (
 .cond (.t 13) (
 .skip) (
 .exit 0)) (
 .seq (
 .block 1 (
 .seq (
 .reg [⟨some 14, none, .idx 1 (.t 10) (.t 12)⟩,
 ⟨some 15, none, .ld (.t 14)⟩,
 ⟨some 7, none, .mv (.t 15)⟩]) (
 .seq (
 .reg [⟨some 16, none, .mv (.t 0)⟩,
 ⟨some 17, none, .mv (.t 7)⟩,
 ⟨some 18, none, .call 67 [(.t 16), (.t 17)]⟩,
 ⟨some 19, none, .not (.t 18)⟩]) (
 .cond (.t 19) (
 .reg [⟨some 20, none, .mv (.t 5)⟩,
 ⟨some 21, none, .mv (.t 7)⟩,
 ⟨some 22, none, .mksl 1 1 [.d (.int 0)] [(0, 1, (.t 21))]⟩,
 ⟨some 23, none, .app 1 8 [.d (.int 0)] (.t 20) (.t 22)⟩,
 ⟨some 5, none, .mv (.t 23)⟩]) (
 .skip))))) (
 .reg [⟨some 24, none, .bin .add (.t 12) (.c (.d (.int 1)))⟩,
 ⟨some 12, none, .mv (.t 24)⟩])))

def C_impl_joinLabels : Fun := ⟨2, 26,
 .seq (
 .reg [⟨some 4, none, .mv (.c (.nil))⟩]) (
 .seq (
 .reg [⟨some 8, none, .mv (.t 0)⟩,
 ⟨some 9, none, .call 143 [(.t 8)]⟩,
 ⟨some 5, none, .mv (.t 9)⟩]) (
 .seq (
 .seq (
 .reg [⟨some 10, none, .mv (.t 1)⟩,
 ⟨some 11, none, .len (.t 10)⟩,
 ⟨some 12, none, .mv (.c (.d (.int 0)))⟩]) (
 .block 0 (
 .loop L0_impl_joinLabels))) (
 .seq (
 .reg [⟨some 25, none, .mv (.t 5)⟩,
 ⟨some 4, none, .mv (.t 25)⟩]) (
 .ret)))),
 [.t 4]⟩

theorem k_impl_joinLabels : cFun Try.prog Try.f149 = some C_impl_joinLabels.erase := by kernel_rfl

end Go.Proofs.Ytcgnehacihjnkaa

/-
  The compiled code of functions of the seat (written by mkcode.py). No condition.
-/
namespace Go.Proofs.Ytcgnehacihjnkaa
open Go.Lift

def C_impl_LabelsOf : Fun := ⟨1, 16,
 .seq (
 .reg [⟨some 1, none, .box (.t 0)⟩,
 ⟨some 2, none, .mv (.c (.nil))⟩]) (
 .seq (
 .seq (
 .reg [⟨some 5, none, .ldn 5 (.t 1)⟩,
 ⟨some 6, none, .call 66 [(.t 5)]⟩,
 ⟨some 7, none, .not (.t 6)⟩]) (
 .cond (.t 7) (
 .seq (
 .reg [⟨some 2, none, .mv (.c (.nil))⟩]) (
 .ret)) (
 .skip))) (
 .seq (
 .reg [⟨some 9, none, .fld 3 (.t 1)⟩,
 ⟨some 10, none, .ld (.t 9)⟩,
 ⟨some 11, none, .call 141 [(.t 10)]⟩,
 ⟨some 8, none, .mv (.t 11)⟩,
 ⟨some 12, none, .ext 0 (.t 8)⟩,
 ⟨some 13, none, .ext 1 (.t 8)⟩,
 ⟨some 3, none, .zer (reps 100 (.d (.int 0)))⟩,
 ⟨none, none, .st 100 (.t 3) (.t 12)⟩,
 ⟨some 4, none, .mv (.t 13)⟩]) (
 .seq (
 .reg [⟨some 14, none, .ldn 100 (.t 3)⟩,
 ⟨some 15, none, .call 151 [(.t 14)]⟩,
 ⟨some 2, none, .mv (.t 15)⟩]) (
 .ret)))),
 [.t 2]⟩

theorem k_impl_LabelsOf : cFun Try.prog Try.f79 = some C_impl_LabelsOf.erase := by kernel_rfl

def C_spec_ClosedLabels : Fun := ⟨1, 8,
 .seq (
 .reg [⟨some 1, none, .box (.t 0)⟩,
 ⟨some 2, none, .mv (.c (.nil))⟩]) (
 .seq (
 .seq (
 .reg [⟨some 3, none, .ldn 5 (.t 1)⟩,
 ⟨some 4, none, .call 61 [(.t 3)]⟩,
 ⟨some 5, none, .not (.t 4)⟩]) (
 .cond (.t 5) (
 .seq (
 .reg [⟨some 2, none, .mv (.c (.nil))⟩]) (
 .ret)) (
 .skip))) (
 .seq (
 .reg [⟨some 6, none, .ldn 5 (.t 1)⟩,
 ⟨some 7, none, .call 104 [(.t 6)]⟩,
 ⟨some 2, none, .mv (.t 7)⟩]) (
 .ret))),
 [.t 2]⟩

theorem k_spec_ClosedLabels : cFun Try.prog Try.f88 = some C_spec_ClosedLabels.erase := by kernel_rfl

def L0_impl_ClosedLabels : C :=
 .seq (
 .reg [⟨some 10, none, .bin .lss (.t 9) (.t 8)⟩]) (
 .seq (
 .cond (.t 10) (
 .skip) (
 .exit 0)) (
 .seq (
 .block 1 (
 .seq (
 .reg [⟨some 11, none, .idx 1 (.t 7) (.t 9)⟩,
 ⟨some 12, none, .ld (.t 11)⟩,
 ⟨some 5, none, .mv (.t 12)⟩]) (
 .seq (
 .reg [⟨some 13, none, .fld 4 (.t 1)⟩,
 ⟨some 14, none, .ld (.t 13)⟩,
 ⟨some 15, none, .mv (.t 5)⟩,
 ⟨some 16, none, .call 67 [(.t 14), (.t 15)]⟩,
 ⟨some 17, none, .not (.t 16)⟩]) (
 .cond (.t 17) (
 .reg [⟨some 18, none, .mv (.t 3)⟩,
 ⟨some 19, none, .mv (.t 5)⟩,
 ⟨some 20, none, .mksl 1 1 [.d (.int 0)] [(0, 1, (.t 19))]⟩,
 ⟨some 21, none, .app 1 8 [.d (.int 0)] (.t 18) (.t 20)⟩,
 ⟨some 3, none, .mv (.t 21)⟩]) (
 .skip))))) (
 .reg [⟨some 22, none, .bin .add (.t 9) (.c (.d (.int 1)))⟩,
 ⟨some 9, none, .mv (.t 22)⟩])))

def C_impl_ClosedLabels : Fun := ⟨1, 24,
 .seq (
 .reg [⟨some 1, none, .box (.t 0)⟩,
 ⟨some 2, none, .mv (.c (.nil))⟩]) (
 .seq (
 .reg [⟨some 3, none, .mv (.c (.nil))⟩]) (
 .seq (
 .seq (
 .reg [⟨some 6, none, .ldn 5 (.t 1)⟩,
 ⟨some 7, none, .call 79 [(.t 6)]⟩,
 ⟨some 8, none, .len (.t 7)⟩,
 ⟨some 9, none, .mv (.c (.d (.int 0)))⟩]) (
 .block 0 (
 .loop L0_impl_ClosedLabels))) (
 .seq (
 .reg [⟨some 23, none, .mv (.t 3)⟩,
 ⟨some 2, none, .mv (.t 23)⟩]) (
 .ret)))),
 [.t 2]⟩

theorem k_impl_ClosedLabels : cFun Try.prog Try.f90 = some C_impl_ClosedLabels.erase := by kernel_rfl

def L0_spec_l12Labels : C :=
 .seq (
 .seq (
 .reg [⟨some 6, none, .mv (.t 4)⟩,
 ⟨some 7, none, .bin .leq (.t 6) (.c (.d (.int 99)))⟩]) (
 .cond (.t 7) (
 .skip) (
 .exit 0))) (
 .seq (
 .block 1 (
 .seq (
 .reg [⟨some 10, none, .mv (.t 0)⟩,
 ⟨some 11, none, .mv (.t 4)⟩,
 ⟨some 12, none, .call 95 [(.t 10), (.t 11)]⟩,
 ⟨some 13, none, .bin .gtr (.t 12) (.c (.d (.int 0)))⟩]) (
 .cond (.t 13) (
 .reg [⟨some 14, none, .mv (.t 3)⟩,
 ⟨some 15, none, .mv (.t 4)⟩,
 ⟨some 16, none, .mksl 1 1 [.d (.int 0)] [(0, 1, (.t 15))]⟩,
 ⟨some 17, none, .app 1 8 [.d (.int 0)] (.t 14) (.t 16)⟩,
 ⟨some 3, none, .mv (.t 17)⟩]) (
 .skip)))) (
 .reg [⟨some 8, none, .mv (.t 4)⟩,
 ⟨some 9, none, .bin .add (.t 8) (.c (.d (.int 1)))⟩,
 ⟨some 4, none, .mv (.t 9)⟩]))

def C_spec_l12Labels : Fun := ⟨1, 19,
 .seq (
 .reg [⟨some 2, none, .mv (.c (.nil))⟩]) (
 .seq (
 .reg [⟨some 5, none, .mksl 1 0 [.d (.int 0)] []⟩,
 ⟨some 3, none, .mv (.t 5)⟩]) (
 .seq (
 .seq (
 .reg [⟨some 4, none, .mv (.c (.d (.int 0)))⟩]) (
 .block 0 (
 .loop L0_spec_l12Labels))) (
 .seq (
 .reg [⟨some 18, none, .mv (.t 3)⟩,
 ⟨some 2, none, .mv (.t 18)⟩]) (
 .ret)))),
 [.t 2]⟩

theorem k_spec_l12Labels : cFun Try.prog Try.f76 = some C_spec_l12Labels.erase := by kernel_rfl

def L0_impl_occurring : C :=
 .seq (
 .reg [⟨some 8, none, .bin .lss (.t 7) (.c (.d (.int 100)))⟩]) (
 .seq (
 .cond (.t 8) (
 .skip) (
 .exit 0)) (
 .seq (
 .block 1 (
 .seq (
 .reg [⟨some 9, none, .mv (.t 7)⟩,
 ⟨some 10, none, .ixa 100 (.t 6) (.t 7)⟩,
 ⟨some 4, none, .mv (.t 9)⟩,
 ⟨some 5, none, .mv (.t 10)⟩]) (
 .seq (
 .reg [⟨some 11, none, .mv (.t 5)⟩,
 ⟨some 12, none, .bin .neq (.t 11) (.c (.d (.int 0)))⟩]) (
 .cond (.t 12) (
 .reg [⟨some 13, none, .mv (.t 3)⟩,
 ⟨some 14, none, .mv (.t 4)⟩,
 ⟨some 15, none, .mksl 1 1 [.d (.int 0)] [(0, 1, (.t 14))]⟩,
 ⟨some 16, none, .app 1 8 [.d (.int 0)] (.t 13) (.t 15)⟩,
 ⟨some 3, none, .mv (.t 16)⟩]) (
 .skip))))) (
 .reg [⟨some 17, none, .bin .add (.t 7) (.c (.d (.int 1)))⟩,
 ⟨some 7, none, .mv (.t 17)⟩])))

def C_impl_occurring : Fun := ⟨1, 19,
 .seq (
 .reg [⟨some 1, none, .box (.t 0)⟩,
 ⟨some 2, none, .mv (.c (.nil))⟩]) (
 .seq (
 .reg [⟨some 3, none, .mv (.c (.nil))⟩]) (
 .seq (
 .seq (
 .reg [⟨some 6, none, .ldn 100 (.t 1)⟩,
 ⟨some 7, none, .mv (.c (.d (.int 0)))⟩]) (
 .block 0 (
 .loop L0_impl_occurring))) (
 .seq (
 .reg [⟨some 18, none, .mv (.t 3)⟩,
 ⟨some 2, none, .mv (.t 18)⟩]) (
 .ret)))),
 [.t 2]⟩

theorem k_impl_occurring : cFun Try.prog Try.f151 = some C_impl_occurring.erase := by kernel_rfl

def L0_spec_l21Closed : C :=
 .seq (
 .reg [⟨some 12, none, .bin .lss (.t 11) (.t 10)⟩]) (
 .seq (
 .cond (.t 12) (
 .skip) (
 .exit 0)) (
 .seq (
 .block 1 (
 .seq (
 .reg [⟨some 13, none, .idx 1 (.t 9) (.t 11)⟩,
 ⟨some 14, none, .ld (.t 13)⟩,
 ⟨some 5, none, .mv (.t 14)⟩]) (
 .seq (
 .reg [⟨some 15, none, .fld 4 (.t 1)⟩,
 ⟨some 16, none, .ld (.t 15)⟩,
 ⟨some 17, none, .mv (.t 5)⟩,
 ⟨some 18, none, .call 63 [(.t 16), (.t 17)]⟩,
 ⟨some 19, none, .bin .lss (.t 18) (.c (.d (.int 0)))⟩]) (
 .cond (.t 19) (
 .reg [⟨some 20, none, .mv (.t 3)⟩,
 ⟨some 21, none, .mv (.t 5)⟩,
 ⟨some 22, none, .mksl 1 1 [.d (.int 0)] [(0, 1, (.t 21))]⟩,
 ⟨some 23, none, .app 1 8 [.d (.int 0)] (.t 20) (.t 22)⟩,
 ⟨some 3, none, .mv (.t 23)⟩]) (
 .skip))))) (
 .reg [⟨some 24, none, .bin .add (.t 11) (.c (.d (.int 1)))⟩,
 ⟨some 11, none, .mv (.t 24)⟩])))

def C_spec_l21Closed : Fun := ⟨1, 26,
 .seq (
 .reg [⟨some 1, none, .box (.t 0)⟩,
 ⟨some 2, none, .mv (.c (.nil))⟩]) (
 .seq (
 .reg [⟨some 6, none, .mksl 1 0 [.d (.int 0)] []⟩,
 ⟨some 3, none, .mv (.t 6)⟩]) (
 .seq (
 .seq (
 .reg [⟨some 7, none, .fld 3 (.t 1)⟩,
 ⟨some 8, none, .ld (.t 7)⟩,
 ⟨some 9, none, .call 76 [(.t 8)]⟩,
 ⟨some 10, none, .len (.t 9)⟩,
 ⟨some 11, none, .mv (.c (.d (.int 0)))⟩]) (
 .block 0 (
 .loop L0_spec_l21Closed))) (
 .seq (
 .reg [⟨some 25, none, .mv (.t 3)⟩,
 ⟨some 2, none, .mv (.t 25)⟩]) (
 .ret)))),
 [.t 2]⟩

theorem k_spec_l21Closed : cFun Try.prog Try.f104 = some C_spec_l21Closed.erase := by kernel_rfl

end Go.Proofs.Ytcgnehacihjnkaa

/-
  The compiled code of functions of the seat (written by mkcode.py). No condition.
-/
namespace Go.Proofs.Ytcgnehacihjnkaa
open Go.Lift

def C_laws_szNetwork : Fun := ⟨2, 18,
 .seq (
 .reg [⟨some 2, none, .box (.t 0)⟩,
 ⟨some 4, none, .mv (.c (.d (.int 0)))⟩]) (
 .seq (
 .reg [⟨some 5, none, .fld 3 (.t 2)⟩,
 ⟨some 6, none, .ld (.t 5)⟩,
 ⟨some 7, none, .mv (.t 1)⟩,
 ⟨some 8, none, .call 59 [(.t 6), (.t 7)]⟩,
 ⟨some 1, none, .mv (.t 8)⟩]) (
 .seq (
 .seq (
 .reg [⟨some 9, none, .mv (.t 1)⟩,
 ⟨some 10, none, .bin .lss (.t 9) (.c (.d (.int 0)))⟩]) (
 .cond (.t 10) (
 .seq (
 .reg [⟨some 4, none, .mv (.c (.d (.int (-1))))⟩]) (
 .ret)) (
 .skip))) (
 .seq (
 .reg [⟨some 11, none, .fld 4 (.t 2)⟩,
 ⟨some 12, none, .ld (.t 11)⟩,
 ⟨some 13, none, .mv (.t 1)⟩,
 ⟨some 14, none, .call 60 [(.t 12), (.t 13)]⟩,
 ⟨some 1, none, .mv (.t 14)⟩]) (
 .seq (
 .seq (
 .reg [⟨some 15, none, .mv (.t 1)⟩,
 ⟨some 16, none, .bin .lss (.t 15) (.c (.d (.int 0)))⟩]) (
 .cond (.t 16) (
 .seq (
 .reg [⟨some 4, none, .mv (.c (.d (.int (-1))))⟩]) (
 .ret)) (
 .skip))) (
 .seq (
 .reg [⟨some 17, none, .mv (.t 1)⟩,
 ⟨some 4, none, .mv (.t 17)⟩]) (
 .ret)))))),
 [.t 4]⟩

theorem k_laws_szNetwork : cFun Try.prog Try.f14 = some C_laws_szNetwork.erase := by kernel_rfl

def L0_spec_NetworkOk : C :=
 .seq (
 .reg [⟨some 35, none, .bin .lss (.t 34) (.t 33)⟩]) (
 .seq (
 .cond (.t 35) (
 .skip) (
 .exit 2)) (
 .seq (
 .block 3 (
 .seq (
 .reg [⟨some 36, none, .mv (.t 34)⟩,
 ⟨some 37, none, .idx 1 (.t 32) (.t 34)⟩,
 ⟨some 38, none, .ld (.t 37)⟩,
 ⟨some 5, none, .mv (.t 36)⟩,
 ⟨some 6, none, .mv (.t 38)⟩]) (
 .seq (
 .reg [⟨some 39, none, .fld 3 (.t 1)⟩,
 ⟨some 40, none, .ld (.t 39)⟩,
 ⟨some 41, none, .mv (.t 3)⟩,
 ⟨some 42, none, .slc 3 (.t 40) none (some (.t 41))⟩,
 ⟨some 43, none, .mv (.t 6)⟩,
 ⟨some 44, none, .call 95 [(.t 42), (.t 43)]⟩,
 ⟨some 7, none, .mv (.t 44)⟩]) (
 .seq (
 .reg [⟨some 45, none, .mv (.t 7)⟩,
 ⟨some 46, none, .bin .gtr (.t 45) (.c (.d (.int 0)))⟩,
 ⟨some 47, none, .mv (.t 46)⟩,
 ⟨some 48, some (47, true), .mv (.t 7)⟩,
 ⟨some 49, some (47, true), .fld 1 (.t 4)⟩,
 ⟨some 50, some (47, true), .ld (.t 49)⟩,
 ⟨some 51, some (47, true), .mv (.t 5)⟩,
 ⟨some 52, some (47, true), .idx 1 (.t 50) (.t 51)⟩,
 ⟨some 53, some (47, true), .ld (.t 52)⟩,
 ⟨some 54, some (47, true), .bin .neq (.t 48) (.t 53)⟩,
 ⟨some 55, none, .pick (.t 47) (.t 54) (.c (.d (.bool false)))⟩]) (
 .cond (.t 55) (
 .seq (
 .reg [⟨some 2, none, .mv (.c (.d (.bool false)))⟩]) (
 .ret)) (
 .skip)))))) (
 .reg [⟨some 56, none, .bin .add (.t 34) (.c (.d (.int 1)))⟩,
 ⟨some 34, none, .mv (.t 56)⟩])))

def L1_spec_NetworkOk : C :=
 .seq (
 .reg [⟨some 22, none, .bin .lss (.t 21) (.t 20)⟩]) (
 .seq (
 .cond (.t 22) (
 .skip) (
 .exit 0)) (
 .seq (
 .block 1 (
 .seq (
 .reg [⟨some 23, none, .mv (.t 21)⟩,
 ⟨some 24, none, .idx 3 (.t 19) (.t 21)⟩,
 ⟨some 25, none, .ldn 3 (.t 24)⟩,
 ⟨some 4, none, .zer [.nil, .nil, .nil]⟩,
 ⟨some 3, none, .mv (.t 23)⟩,
 ⟨none, none, .st 3 (.t 4) (.t 25)⟩]) (
 .seq (
 .seq (
 .reg [⟨some 26, none, .fld 0 (.t 1)⟩,
 ⟨some 27, none, .ldn 3 (.t 26)⟩,
 ⟨some 28, none, .ldn 3 (.t 4)⟩,
 ⟨some 29, none, .call 122 [(.t 27), (.t 28)]⟩,
 ⟨some 30, none, .not (.t 29)⟩]) (
 .cond (.t 30) (
 .seq (
 .reg [⟨some 2, none, .mv (.c (.d (.bool false)))⟩]) (
 .ret)) (
 .skip))) (
 .seq (
 .reg [⟨some 31, none, .fld 0 (.t 4)⟩,
 ⟨some 32, none, .ld (.t 31)⟩,
 ⟨some 33, none, .len (.t 32)⟩,
 ⟨some 34, none, .mv (.c (.d (.int 0)))⟩]) (
 .block 2 (
 .loop L0_spec_NetworkOk)))))) (
 .reg [⟨some 57, none, .bin .add (.t 21) (.c (.d (.int 1)))⟩,
 ⟨some 21, none, .mv (.t 57)⟩])))

def C_spec_NetworkOk : Fun := ⟨1, 68,
 .seq (
 .reg [⟨some 1, none, .box (.t 0)⟩,
 ⟨some 2, none, .mv (.c (.d (.bool false)))⟩]) (
 .seq (
 .seq (
 .reg [⟨some 8, none, .fld 0 (.t 1)⟩,
 ⟨some 9, none, .ldn 3 (.t 8)⟩,
 ⟨some 10, none, .call 136 [(.t 9)]⟩,
 ⟨some 11, none, .not (.t 10)⟩,
 ⟨some 12, none, .mv (.t 11)⟩,
 ⟨some 13, some (12, false), .fld 3 (.t 1)⟩,
 ⟨some 14, some (12, false), .ld (.t 13)⟩,
 ⟨some 15, some (12, false), .len (.t 14)⟩,
 ⟨some 16, some (12, false), .bin .gtr (.t 15) (.c (.d (.int 12)))⟩,
 ⟨some 17, none, .pick (.t 12) (.c (.d (.bool true))) (.t 16)⟩]) (
 .cond (.t 17) (
 .seq (
 .reg [⟨some 2, none, .mv (.c (.d (.bool false)))⟩]) (
 .ret)) (
 .skip))) (
 .seq (
 .seq (
 .reg [⟨some 18, none, .fld 3 (.t 1)⟩,
 ⟨some 19, none, .ld (.t 18)⟩,
 ⟨some 20, none, .len (.t 19)⟩,
 ⟨some 21, none, .mv (.c (.d (.int 0)))⟩]) (
 .block 0 (
 .loop L1_spec_NetworkOk))) (
 .seq (
 .draw [⟨some 58, none, .fld 4 (.t 1)⟩,
 ⟨some 59, none, .ld (.t 58)⟩,
 ⟨some 60, none, .fld 3 (.t 1)⟩,
 ⟨some 61, none, .ld (.t 60)⟩,
 ⟨some 62, none, .fld 4 (.t 1)⟩,
 ⟨some 63, none, .ld (.t 62)⟩,
 ⟨some 64, none, .call 138 [(.t 61), (.t 63)]⟩]
 [⟨some 65, none, .agg [.nil, .nil, .nil] [(0, 1, (.t 59)), (1, 1, (.t 64))]⟩,
 ⟨some 66, none, .call 137 [(.t 65)]⟩,
 ⟨some 67, none, .bin .geq (.t 66) (.c (.d (.int 0)))⟩,
 ⟨some 2, none, .mv (.t 67)⟩]) (
 .ret)))),
 [.t 2]⟩

theorem k_spec_NetworkOk : cFun Try.prog Try.f61 = some C_spec_NetworkOk.erase := by kernel_rfl

def C_laws_toNetwork : Fun := ⟨1, 17,
 .seq (
 .reg [⟨some 1, none, .box (.t 0)⟩,
 ⟨some 2, none, .zer [.d (.int 0), .d (.int 0), .d (.int 0), .nil, .nil]⟩]) (
 .seq (
 .reg [⟨some 3, none, .zer [.d (.int 0), .d (.int 0), .d (.int 0), .nil, .nil]⟩]) (
 .seq (
 .reg [⟨some 4, none, .fld 0 (.t 1)⟩,
 ⟨some 5, none, .ldn 3 (.t 4)⟩,
 ⟨some 6, none, .call 30 [(.t 5)]⟩,
 ⟨some 7, none, .fld 0 (.t 3)⟩,
 ⟨none, none, .st 3 (.t 7) (.t 6)⟩]) (
 .seq (
 .reg [⟨some 8, none, .fld 3 (.t 1)⟩,
 ⟨some 9, none, .ld (.t 8)⟩,
 ⟨some 10, none, .call 65 [(.t 9)]⟩,
 ⟨some 11, none, .fld 3 (.t 3)⟩,
 ⟨none, none, .st 1 (.t 11) (.t 10)⟩]) (
 .seq (
 .reg [⟨some 12, none, .fld 4 (.t 1)⟩,
 ⟨some 13, none, .ld (.t 12)⟩,
 ⟨some 14, none, .call 17 [(.t 13)]⟩,
 ⟨some 15, none, .fld 4 (.t 3)⟩,
 ⟨none, none, .st 1 (.t 15) (.t 14)⟩]) (
 .seq (
 .reg [⟨some 16, none, .ldn 5 (.t 3)⟩,
 ⟨none, none, .st 5 (.t 2) (.t 16)⟩]) (
 .ret)))))),
 [.cell 2 5]⟩

theorem k_laws_toNetwork : cFun Try.prog Try.f16 = some C_laws_toNetwork.erase := by kernel_rfl

def L0_impl_NetworkOk : C :=
 .seq (
 .reg [⟨some 50, none, .bin .lss (.t 49) (.t 48)⟩]) (
 .seq (
 .cond (.t 50) (
 .skip) (
 .exit 2)) (
 .seq (
 .block 3 (
 .seq (
 .reg [⟨some 51, none, .idx 1 (.t 47) (.t 49)⟩,
 ⟨some 52, none, .ld (.t 51)⟩,
 ⟨some 8, none, .mv (.t 52)⟩]) (
 .seq (
 .reg [⟨some 53, none, .mv (.t 8)⟩,
 ⟨some 54, none, .bin .lss (.t 53) (.c (.d (.int 0)))⟩,
 ⟨some 55, none, .mv (.t 54)⟩,
 ⟨some 56, some (55, false), .mv (.t 8)⟩,
 ⟨some 57, some (55, false), .bin .gtr (.t 56) (.c (.d (.int 99)))⟩,
 ⟨some 58, none, .pick (.t 55) (.c (.d (.bool true))) (.t 57)⟩,
 ⟨some 59, none, .mv (.t 58)⟩,
 ⟨some 60, some (59, false), .mv (.t 8)⟩,
 ⟨some 61, some (59, false), .aix 1 100 (.t 5) (.t 60)⟩,
 ⟨some 62, some (59, false), .ld (.t 61)⟩,
 ⟨some 63, some (59, false), .bin .eql (.t 62) (.c (.d (.int 0)))⟩,
 ⟨some 64, none, .pick (.t 59) (.c (.d (.bool true))) (.t 63)⟩]) (
 .cond (.t 64) (
 .seq (
 .reg [⟨some 2, none, .mv (.c (.d (.bool false)))⟩]) (
 .ret)) (
 .skip))))) (
 .reg [⟨some 65, none, .bin .add (.t 49) (.c (.d (.int 1)))⟩,
 ⟨some 49, none, .mv (.t 65)⟩])))

def L1_impl_NetworkOk : C :=
 .seq (
 .reg [⟨some 29, none, .bin .lss (.t 28) (.t 27)⟩]) (
 .seq (
 .cond (.t 29) (
 .skip) (
 .exit 0)) (
 .seq (
 .block 1 (
 .seq (
 .reg [⟨some 30, none, .idx 3 (.t 26) (.t 28)⟩,
 ⟨some 31, none, .ldn 3 (.t 30)⟩,
 ⟨some 4, none, .zer [.nil, .nil, .nil]⟩,
 ⟨none, none, .st 3 (.t 4) (.t 31)⟩]) (
 .seq (
 .reg [⟨some 32, none, .fld 0 (.t 1)⟩,
 ⟨some 33, none, .ldn 3 (.t 32)⟩,
 ⟨some 34, none, .ldn 3 (.t 4)⟩,
 ⟨some 35, none, .call 125 [(.t 33), (.t 34)]⟩,
 ⟨some 36, none, .not (.t 35)⟩]) (
 .cond (.t 36) (
 .seq (
 .reg [⟨some 2, none, .mv (.c (.d (.bool false)))⟩]) (
 .ret)) (
 .skip))))) (
 .reg [⟨some 37, none, .bin .add (.t 28) (.c (.d (.int 1)))⟩,
 ⟨some 28, none, .mv (.t 37)⟩])))

def C_impl_NetworkOk : Fun := ⟨1, 72,
 .seq (
 .reg [⟨some 1, none, .box (.t 0)⟩,
 ⟨some 2, none, .mv (.c (.d (.bool false)))⟩]) (
 .seq (
 .seq (
 .reg [⟨some 9, none, .fld 0 (.t 1)⟩,
 ⟨some 10, none, .ldn 3 (.t 9)⟩,
 ⟨some 11, none, .call 140 [(.t 10)]⟩,
 ⟨some 12, none, .not (.t 11)⟩,
 ⟨some 13, none, .mv (.t 12)⟩,
 ⟨some 14, some (13, false), .fld 3 (.t 1)⟩,
 ⟨some 15, some (13, false), .ld (.t 14)⟩,
 ⟨some 16, some (13, false), .len (.t 15)⟩,
 ⟨some 17, some (13, false), .bin .gtr (.t 16) (.c (.d (.int 12)))⟩,
 ⟨some 18, none, .pick (.t 13) (.c (.d (.bool true))) (.t 17)⟩,
 ⟨some 19, none, .mv (.t 18)⟩,
 ⟨some 20, some (19, false), .fld 4 (.t 1)⟩,
 ⟨some 21, some (19, false), .ld (.t 20)⟩,
 ⟨some 22, some (19, false), .len (.t 21)⟩,
 ⟨some 23, some (19, false), .bin .gtr (.t 22) (.c (.d (.int 12)))⟩,
 ⟨some 24, none, .pick (.t 19) (.c (.d (.bool true))) (.t 23)⟩]) (
 .cond (.t 24) (
 .seq (
 .reg [⟨some 2, none, .mv (.c (.d (.bool false)))⟩]) (
 .ret)) (
 .skip))) (
 .seq (
 .seq (
 .reg [⟨some 25, none, .fld 3 (.t 1)⟩,
 ⟨some 26, none, .ld (.t 25)⟩,
 ⟨some 27, none, .len (.t 26)⟩,
 ⟨some 28, none, .mv (.c (.d (.int 0)))⟩]) (
 .block 0 (
 .loop L1_impl_NetworkOk))) (
 .seq (
 .reg [⟨some 39, none, .fld 3 (.t 1)⟩,
 ⟨some 40, none, .ld (.t 39)⟩,
 ⟨some 41, none, .call 141 [(.t 40)]⟩,
 ⟨some 38, none, .mv (.t 41)⟩,
 ⟨some 42, none, .ext 0 (.t 38)⟩,
 ⟨some 43, none, .ext 1 (.t 38)⟩,
 ⟨some 5, none, .zer (reps 100 (.d (.int 0)))⟩,
 ⟨none, none, .st 100 (.t 5) (.t 42)⟩,
 ⟨some 6, none, .mv (.t 43)⟩]) (
 .seq (
 .seq (
 .reg [⟨some 44, none, .mv (.t 6)⟩,
 ⟨some 45, none, .not (.t 44)⟩]) (
 .cond (.t 45) (
 .seq (
 .reg [⟨some 2, none, .mv (.c (.d (.bool false)))⟩]) (
 .ret)) (
 .skip))) (
 .seq (
 .seq (
 .reg [⟨some 46, none, .fld 4 (.t 1)⟩,
 ⟨some 47, none, .ld (.t 46)⟩,
 ⟨some 48, none, .len (.t 47)⟩,
 ⟨some 49, none, .mv (.c (.d (.int 0)))⟩]) (
 .block 2 (
 .loop L0_impl_NetworkOk))) (
 .seq (
 .reg [⟨some 66, none, .ldn 100 (.t 5)⟩,
 ⟨some 67, none, .fld 4 (.t 1)⟩,
 ⟨some 68, none, .ld (.t 67)⟩,
 ⟨some 69, none, .call 142 [(.t 66), (.t 68)]⟩,
 ⟨some 70, none, .call 128 [(.t 69)]⟩,
 ⟨some 71, none, .bin .neq (.t 70) (.c (.d (.int (-1))))⟩,
 ⟨some 2, none, .mv (.t 71)⟩]) (
 .ret))))))),
 [.t 2]⟩

theorem k_impl_NetworkOk : cFun Try.prog Try.f66 = some C_impl_NetworkOk.erase := by kernel_rfl

def C_laws_eqNetwork : Fun := ⟨2, 23,
 .seq (
 .reg [⟨some 2, none, .box (.t 0)⟩,
 ⟨some 3, none, .box (.t 1)⟩,
 ⟨some 4, none, .mv (.c (.d (.bool false)))⟩]) (
 .seq (
 .seq (
 .reg [⟨some 5, none, .fld 0 (.t 2)⟩,
 ⟨some 6, none, .ldn 3 (.t 5)⟩,
 ⟨some 7, none, .fld 0 (.t 3)⟩,
 ⟨some 8, none, .ldn 3 (.t 7)⟩,
 ⟨some 9, none, .call 70 [(.t 6), (.t 8)]⟩,
 ⟨some 10, none, .not (.t 9)⟩]) (
 .cond (.t 10) (
 .seq (
 .reg [⟨some 4, none, .mv (.c (.d (.bool false)))⟩]) (
 .ret)) (
 .skip))) (
 .seq (
 .seq (
 .reg [⟨some 11, none, .fld 3 (.t 2)⟩,
 ⟨some 12, none, .ld (.t 11)⟩,
 ⟨some 13, none, .fld 3 (.t 3)⟩,
 ⟨some 14, none, .ld (.t 13)⟩,
 ⟨some 15, none, .call 71 [(.t 12), (.t 14)]⟩,
 ⟨some 16, none, .not (.t 15)⟩]) (
 .cond (.t 16) (
 .seq (
 .reg [⟨some 4, none, .mv (.c (.d (.bool false)))⟩]) (
 .ret)) (
 .skip))) (
 .seq (
 .seq (
 .reg [⟨some 17, none, .fld 4 (.t 2)⟩,
 ⟨some 18, none, .ld (.t 17)⟩,
 ⟨some 19, none, .fld 4 (.t 3)⟩,
 ⟨some 20, none, .ld (.t 19)⟩,
 ⟨some 21, none, .call 20 [(.t 18), (.t 20)]⟩,
 ⟨some 22, none, .not (.t 21)⟩]) (
 .cond (.t 22) (
 .seq (
 .reg [⟨some 4, none, .mv (.c (.d (.bool false)))⟩]) (
 .ret)) (
 .skip))) (
 .seq (
 .reg [⟨some 4, none, .mv (.c (.d (.bool true)))⟩]) (
 .ret))))),
 [.t 4]⟩

theorem k_laws_eqNetwork : cFun Try.prog Try.f19 = some C_laws_eqNetwork.erase := by kernel_rfl

def L0_laws_szTensorS : C :=
 .seq (
 .seq (
 .reg [⟨some 12, none, .mv (.t 5)⟩,
 ⟨some 13, none, .mv (.t 0)⟩,
 ⟨some 14, none, .len (.t 13)⟩,
 ⟨some 15, none, .bin .lss (.t 12) (.t 14)⟩]) (
 .cond (.t 15) (
 .skip) (
 .exit 0))) (
 .seq (
 .block 1 (
 .seq (
 .reg [⟨some 18, none, .mv (.t 0)⟩,
 ⟨some 19, none, .mv (.t 5)⟩,
 ⟨some 20, none, .idx 3 (.t 18) (.t 19)⟩,
 ⟨some 21, none, .ldn 3 (.t 20)⟩,
 ⟨some 22, none, .mv (.t 1)⟩,
 ⟨some 23, none, .call 28 [(.t 21), (.t 22)]⟩,
 ⟨some 1, none, .mv (.t 23)⟩]) (
 .seq (
 .reg [⟨some 24, none, .mv (.t 1)⟩,
 ⟨some 25, none, .bin .lss (.t 24) (.c (.d (.int 0)))⟩]) (
 .cond (.t 25) (
 .seq (
 .reg [⟨some 4, none, .mv (.c (.d (.int (-1))))⟩]) (
 .ret)) (
 .skip))))) (
 .reg [⟨some 16, none, .mv (.t 5)⟩,
 ⟨some 17, none, .bin .add (.t 16) (.c (.d (.int 1)))⟩,
 ⟨some 5, none, .mv (.t 17)⟩]))

def C_laws_szTensorS : Fun := ⟨2, 27,
 .seq (
 .reg [⟨some 4, none, .mv (.c (.d (.int 0)))⟩]) (
 .seq (
 .reg [⟨some 6, none, .mv (.t 1)⟩,
 ⟨some 7, none, .mv (.t 0)⟩,
 ⟨some 8, none, .len (.t 7)⟩,
 ⟨some 9, none, .bin .sub (.t 6) (.t 8)⟩,
 ⟨some 1, none, .mv (.t 9)⟩]) (
 .seq (
 .seq (
 .reg [⟨some 10, none, .mv (.t 1)⟩,
 ⟨some 11, none, .bin .lss (.t 10) (.c (.d (.int 0)))⟩]) (
 .cond (.t 11) (
 .seq (
 .reg [⟨some 4, none, .mv (.c (.d (.int (-1))))⟩]) (
 .ret)) (
 .skip))) (
 .seq (
 .seq (
 .reg [⟨some 5, none, .mv (.c (.d (.int 0)))⟩]) (
 .block 0 (
 .loop L0_laws_szTensorS))) (
 .seq (
 .reg [⟨some 26, none, .mv (.t 1)⟩,
 ⟨some 4, none, .mv (.t 26)⟩]) (
 .ret))))),
 [.t 4]⟩

theorem k_laws_szTensorS : cFun Try.prog Try.f59 = some C_laws_szTensorS.erase := by kernel_rfl

def L0_spec_l12Dim : C :=
 .seq (
 .reg [⟨some 11, none, .bin .lss (.t 10) (.t 9)⟩]) (
 .seq (
 .cond (.t 11) (
 .skip) (
 .exit 0)) (
 .seq (
 .block 1 (
 .seq (
 .reg [⟨some 12, none, .idx 3 (.t 8) (.t 10)⟩,
 ⟨some 13, none, .ldn 3 (.t 12)⟩,
 ⟨some 6, none, .zer [.nil, .nil, .nil]⟩,
 ⟨none, none, .st 3 (.t 6) (.t 13)⟩]) (
 .seq (
 .reg [⟨some 14, none, .fld 0 (.t 6)⟩,
 ⟨some 15, none, .ld (.t 14)⟩,
 ⟨some 16, none, .mv (.t 1)⟩,
 ⟨some 17, none, .call 63 [(.t 15), (.t 16)]⟩,
 ⟨some 7, none, .mv (.t 17)⟩]) (
 .seq (
 .reg [⟨some 18, none, .mv (.t 7)⟩,
 ⟨some 19, none, .bin .geq (.t 18) (.c (.d (.int 0)))⟩]) (
 .cond (.t 19) (
 .seq (
 .reg [⟨some 20, none, .fld 1 (.t 6)⟩,
 ⟨some 21, none, .ld (.t 20)⟩,
 ⟨some 22, none, .mv (.t 7)⟩,
 ⟨some 23, none, .idx 1 (.t 21) (.t 22)⟩,
 ⟨some 24, none, .ld (.t 23)⟩,
 ⟨some 4, none, .mv (.t 24)⟩]) (
 .ret)) (
 .skip)))))) (
 .reg [⟨some 25, none, .bin .add (.t 10) (.c (.d (.int 1)))⟩,
 ⟨some 10, none, .mv (.t 25)⟩])))

def C_spec_l12Dim : Fun := ⟨2, 26,
 .seq (
 .reg [⟨some 4, none, .mv (.c (.d (.int 0)))⟩]) (
 .seq (
 .seq (
 .reg [⟨some 8, none, .mv (.t 0)⟩,
 ⟨some 9, none, .len (.t 8)⟩,
 ⟨some 10, none, .mv (.c (.d (.int 0)))⟩]) (
 .block 0 (
 .loop L0_spec_l12Dim))) (
 .seq (
 .reg [⟨some 4, none, .mv (.c (.d (.int 0)))⟩]) (
 .ret))),
 [.t 4]⟩

theorem k_spec_l12Dim : cFun Try.prog Try.f95 = some C_spec_l12Dim.erase := by kernel_rfl

def L0_spec_l12Dims : C :=
 .seq (
 .reg [⟨some 12, none, .bin .lss (.t 11) (.t 10)⟩]) (
 .seq (
 .cond (.t 12) (
 .skip) (
 .exit 0)) (
 .seq (
 .block 1 (
 .seq (
 .reg [⟨some 13, none, .idx 1 (.t 9) (.t 11)⟩,
 ⟨some 14, none, .ld (.t 13)⟩,
 ⟨some 7, none, .mv (.t 14)⟩]) (
 .reg [⟨some 15, none, .mv (.t 5)⟩,
 ⟨some 16, none, .mv (.t 0)⟩,
 ⟨some 17, none, .mv (.t 7)⟩,
 ⟨some 18, none, .call 95 [(.t 16), (.t 17)]⟩,
 ⟨some 19, none, .mksl 1 1 [.d (.int 0)] [(0, 1, (.t 18))]⟩,
 ⟨some 20, none, .app 1 8 [.d (.int 0)] (.t 15) (.t 19)⟩,
 ⟨some 5, none, .mv (.t 20)⟩]))) (
 .reg [⟨some 21, none, .bin .add (.t 11) (.c (.d (.int 1)))⟩,
 ⟨some 11, none, .mv (.t 21)⟩])))

def C_spec_l12Dims : Fun := ⟨2, 23,
 .seq (
 .reg [⟨some 4, none, .mv (.c (.nil))⟩]) (
 .seq (
 .reg [⟨some 8, none, .mksl 1 0 [.d (.int 0)] []⟩,
 ⟨some 5, none, .mv (.t 8)⟩]) (
 .seq (
 .seq (
 .reg [⟨some 9, none, .mv (.t 1)⟩,
 ⟨some 10, none, .len (.t 9)⟩,
 ⟨some 11, none, .mv (.c (.d (.int 0)))⟩]) (
 .block 0 (
 .loop L0_spec_l12Dims))) (
 .seq (
 .reg [⟨some 22, none, .mv (.t 5)⟩,
 ⟨some 4, none, .mv (.t 22)⟩]) (
 .ret)))),
 [.t 4]⟩

theorem k_spec_l12Dims : cFun Try.prog Try.f138 = some C_spec_l12Dims.erase := by kernel_rfl

def L0_laws_toTensorS : C :=
 .seq (
 .seq (
 .reg [⟨some 8, none, .mv (.t 4)⟩,
 ⟨some 9, none, .mv (.t 0)⟩,
 ⟨some 10, none, .len (.t 9)⟩,
 ⟨some 11, none, .bin .lss (.t 8) (.t 10)⟩]) (
 .cond (.t 11) (
 .skip) (
 .exit 0))) (
 .seq (
 .block 1 (
 .reg [⟨some 14, none, .mv (.t 3)⟩,
 ⟨some 15, none, .mv (.t 4)⟩,
 ⟨some 16, none, .mv (.t 0)⟩,
 ⟨some 17, none, .mv (.t 4)⟩,
 ⟨some 18, none, .idx 3 (.t 16) (.t 17)⟩,
 ⟨some 19, none, .ldn 3 (.t 18)⟩,
 ⟨some 20, none, .call 31 [(.t 19)]⟩,
 ⟨some 21, none, .idx 3 (.t 14) (.t 15)⟩,
 ⟨none, none, .st 3 (.t 21) (.t 20)⟩])) (
 .reg [⟨some 12, none, .mv (.t 4)⟩,
 ⟨some 13, none, .bin .add (.t 12) (.c (.d (.int 1)))⟩,
 ⟨some 4, none, .mv (.t 13)⟩]))

def C_laws_toTensorS : Fun := ⟨1, 23,
 .seq (
 .reg [⟨some 2, none, .mv (.c (.nil))⟩]) (
 .seq (
 .reg [⟨some 5, none, .mv (.t 0)⟩,
 ⟨some 6, none, .len (.t 5)⟩,
 ⟨some 7, none, .make 3 72 [.nil, .nil, .nil] (.t 6) (.t 6)⟩,
 ⟨some 3, none, .mv (.t 7)⟩]) (
 .seq (
 .seq (
 .reg [⟨some 4, none, .mv (.c (.d (.int 0)))⟩]) (
 .block 0 (
 .loop L0_laws_toTensorS))) (
 .seq (
 .reg [⟨some 22, none, .mv (.t 3)⟩,
 ⟨some 2, none, .mv (.t 22)⟩]) (
 .ret)))),
 [.t 2]⟩

theorem k_laws_toTensorS : cFun Try.prog Try.f65 = some C_laws_toTensorS.erase := by kernel_rfl

def L0_impl_dimsOf : C :=
 .seq (
 .reg [⟨some 19, none, .bin .lss (.t 18) (.t 17)⟩]) (
 .seq (
 .cond (.t 19) (
 .skip) (
 .exit 2)) (
 .seq (
 .block 3 (
 .seq (
 .reg [⟨some 20, none, .mv (.t 18)⟩,
 ⟨some 21, none, .idx 1 (.t 16) (.t 18)⟩,
 ⟨some 22, none, .ld (.t 21)⟩,
 ⟨some 7, none, .mv (.t 20)⟩,
 ⟨some 8, none, .mv (.t 22)⟩]) (
 .seq (
 .seq (
 .draw [⟨some 23, none, .mv (.t 8)⟩,
 ⟨some 24, none, .aix 1 100 (.t 4) (.t 23)⟩,
 ⟨some 25, none, .ld (.t 24)⟩,
 ⟨some 26, none, .bin .neq (.t 25) (.c (.d (.int 0)))⟩,
 ⟨some 27, none, .mv (.t 26)⟩,
 ⟨some 28, some (27, true), .mv (.t 8)⟩,
 ⟨some 29, some (27, true), .aix 1 100 (.t 4) (.t 28)⟩,
 ⟨some 30, some (27, true), .ld (.t 29)⟩,
 ⟨some 31, some (27, true), .fld 1 (.t 6)⟩,
 ⟨some 32, some (27, true), .ld (.t 31)⟩,
 ⟨some 33, some (27, true), .mv (.t 7)⟩,
 ⟨some 34, some (27, true), .idx 1 (.t 32) (.t 33)⟩,
 ⟨some 35, some (27, true), .ld (.t 34)⟩]
 [⟨some 36, some (27, true), .bin .neq (.t 30) (.t 35)⟩,
 ⟨some 37, none, .pick (.t 27) (.t 36) (.c (.d (.bool false)))⟩]) (
 .cond (.t 37) (
 .seq (
 .reg [⟨some 38, none, .ldn 100 (.t 4)⟩,
 ⟨none, none, .st 100 (.t 2) (.t 38)⟩,
 ⟨some 3, none, .mv (.c (.d (.bool false)))⟩]) (
 .ret)) (
 .skip))) (
 .reg [⟨some 39, none, .mv (.t 8)⟩,
 ⟨some 40, none, .fld 1 (.t 6)⟩,
 ⟨some 41, none, .ld (.t 40)⟩,
 ⟨some 42, none, .mv (.t 7)⟩,
 ⟨some 43, none, .idx 1 (.t 41) (.t 42)⟩,
 ⟨some 44, none, .ld (.t 43)⟩,
 ⟨some 45, none, .aix 1 100 (.t 4) (.t 39)⟩,
 ⟨none, none, .st 1 (.t 45) (.t 44)⟩])))) (
 .reg [⟨some 46, none, .bin .add (.t 18) (.c (.d (.int 1)))⟩,
 ⟨some 18, none, .mv (.t 46)⟩])))

def L1_impl_dimsOf : C :=
 .seq (
 .reg [⟨some 12, none, .bin .lss (.t 11) (.t 10)⟩]) (
 .seq (
 .cond (.t 12) (
 .skip) (
 .exit 0)) (
 .seq (
 .block 1 (
 .seq (
 .reg [⟨some 13, none, .idx 3 (.t 9) (.t 11)⟩,
 ⟨some 14, none, .ldn 3 (.t 13)⟩,
 ⟨some 6, none, .zer [.nil, .nil, .nil]⟩,
 ⟨none, none, .st 3 (.t 6) (.t 14)⟩]) (
 .seq (
 .reg [⟨some 15, none, .fld 0 (.t 6)⟩,
 ⟨some 16, none, .ld (.t 15)⟩,
 ⟨some 17, none, .len (.t 16)⟩,
 ⟨some 18, none, .mv (.c (.d (.int 0)))⟩]) (
 .block 2 (
 .loop L0_impl_dimsOf))))) (
 .reg [⟨some 47, none, .bin .add (.t 11) (.c (.d (.int 1)))⟩,
 ⟨some 11, none, .mv (.t 47)⟩])))

def C_impl_dimsOf : Fun := ⟨1, 49,
 .seq (
 .reg [⟨some 2, none, .zer (reps 100 (.d (.int 0)))⟩,
 ⟨some 3, none, .mv (.c (.d (.bool false)))⟩]) (
 .seq (
 .reg [⟨some 4, none, .zer (reps 100 (.d (.int 0)))⟩]) (
 .seq (
 .seq (
 .reg [⟨some 9, none, .mv (.t 0)⟩,
 ⟨some 10, none, .len (.t 9)⟩,
 ⟨some 11, none, .mv (.c (.d (.int 0)))⟩]) (
 .block 0 (
 .loop L1_impl_dimsOf))) (
 .seq (
 .reg [⟨some 48, none, .ldn 100 (.t 4)⟩,
 ⟨none, none, .st 100 (.t 2) (.t 48)⟩,
 ⟨some 3, none, .mv (.c (.d (.bool true)))⟩]) (
 .ret)))),
 [.cell 2 100, .t 3]⟩

theorem k_impl_dimsOf : cFun Try.prog Try.f141 = some C_impl_dimsOf.erase := by kernel_rfl

def L0_impl_axesOf : C :=
 .seq (
 .reg [⟨some 17, none, .bin .lss (.t 16) (.t 15)⟩]) (
 .seq (
 .cond (.t 17) (
 .skip) (
 .exit 0)) (
 .seq (
 .block 1 (
 .seq (
 .reg [⟨some 18, none, .mv (.t 16)⟩,
 ⟨some 19, none, .idx 1 (.t 14) (.t 16)⟩,
 ⟨some 20, none, .ld (.t 19)⟩,
 ⟨some 6, none, .mv (.t 18)⟩,
 ⟨some 7, none, .mv (.t 20)⟩]) (
 .draw [⟨some 21, none, .fld 1 (.t 5)⟩,
 ⟨some 22, none, .ld (.t 21)⟩,
 ⟨some 23, none, .mv (.t 6)⟩,
 ⟨some 24, none, .mv (.t 7)⟩,
 ⟨some 25, none, .aix 1 100 (.t 2) (.t 24)⟩,
 ⟨some 26, none, .ld (.t 25)⟩]
 [⟨some 27, none, .idx 1 (.t 22) (.t 23)⟩,
 ⟨none, none, .st 1 (.t 27) (.t 26)⟩]))) (
 .reg [⟨some 28, none, .bin .add (.t 16) (.c (.d (.int 1)))⟩,
 ⟨some 16, none, .mv (.t 28)⟩])))

def C_impl_axesOf : Fun := ⟨2, 30,
 .seq (
 .reg [⟨some 2, none, .box (.t 0)⟩,
 ⟨some 4, none, .zer [.nil, .nil, .nil]⟩]) (
 .seq (
 .draw [⟨some 8, none, .mv (.t 1)⟩,
 ⟨some 9, none, .call 143 [(.t 8)]⟩,
 ⟨some 10, none, .mv (.t 1)⟩,
 ⟨some 11, none, .len (.t 10)⟩,
 ⟨some 12, none, .make 1 8 [.d (.int 0)] (.t 11) (.t 11)⟩,
 ⟨some 13, none, .agg [.nil, .nil, .nil] [(0, 1, (.t 9)), (1, 1, (.t 12))]⟩,
 ⟨some 5, none, .zer [.nil, .nil, .nil]⟩]
 [⟨none, none, .st 3 (.t 5) (.t 13)⟩]) (
 .seq (
 .seq (
 .reg [⟨some 14, none, .mv (.t 1)⟩,
 ⟨some 15, none, .len (.t 14)⟩,
 ⟨some 16, none, .mv (.c (.d (.int 0)))⟩]) (
 .block 0 (
 .loop L0_impl_axesOf))) (
 .seq (
 .reg [⟨some 29, none, .ldn 3 (.t 5)⟩,
 ⟨none, none, .st 3 (.t 4) (.t 29)⟩]) (
 .ret)))),
 [.cell 4 3]⟩

theorem k_impl_axesOf : cFun Try.prog Try.f142 = some C_impl_axesOf.erase := by kernel_rfl

def C_laws_eqRing : Fun := ⟨2, 20,
 .seq (
 .reg [⟨some 2, none, .box (.t 0)⟩,
 ⟨some 3, none, .box (.t 1)⟩,
 ⟨some 4, none, .mv (.c (.d (.bool false)))⟩]) (
 .seq (
 .seq (
 .reg [⟨some 5, none, .fld 0 (.t 2)⟩,
 ⟨some 6, none, .ld (.t 5)⟩,
 ⟨some 7, none, .fld 0 (.t 3)⟩,
 ⟨some 8, none, .ld (.t 7)⟩,
 ⟨some 9, none, .bin .neq (.t 6) (.t 8)⟩]) (
 .cond (.t 9) (
 .seq (
 .reg [⟨some 4, none, .mv (.c (.d (.bool false)))⟩]) (
 .ret)) (
 .skip))) (
 .seq (
 .seq (
 .reg [⟨some 10, none, .fld 1 (.t 2)⟩,
 ⟨some 11, none, .ld (.t 10)⟩,
 ⟨some 12, none, .fld 1 (.t 3)⟩,
 ⟨some 13, none, .ld (.t 12)⟩,
 ⟨some 14, none, .bin .neq (.t 11) (.t 13)⟩]) (
 .cond (.t 14) (
 .seq (
 .reg [⟨some 4, none, .mv (.c (.d (.bool false)))⟩]) (
 .ret)) (
 .skip))) (
 .seq (
 .seq (
 .reg [⟨some 15, none, .fld 2 (.t 2)⟩,
 ⟨some 16, none, .ld (.t 15)⟩,
 ⟨some 17, none, .fld 2 (.t 3)⟩,
 ⟨some 18, none, .ld (.t 17)⟩,
 ⟨some 19, none, .bin .neq (.t 16) (.t 18)⟩]) (
 .cond (.t 19) (
 .seq (
 .reg [⟨some 4, none, .mv (.c (.d (.bool false)))⟩]) (
 .ret)) (
 .skip))) (
 .seq (
 .reg [⟨some 4, none, .mv (.c (.d (.bool true)))⟩]) (
 .ret))))),
 [.t 4]⟩

theorem k_laws_eqRing : cFun Try.prog Try.f70 = some C_laws_eqRing.erase := by kernel_rfl

def L0_laws_eqTensorS : C :=
 .seq (
 .seq (
 .reg [⟨some 11, none, .mv (.t 5)⟩,
 ⟨some 12, none, .mv (.t 0)⟩,
 ⟨some 13, none, .len (.t 12)⟩,
 ⟨some 14, none, .bin .lss (.t 11) (.t 13)⟩]) (
 .cond (.t 14) (
 .skip) (
 .exit 0))) (
 .seq (
 .block 1 (
 .seq (
 .draw [⟨some 17, none, .mv (.t 0)⟩,
 ⟨some 18, none, .mv (.t 5)⟩,
 ⟨some 19, none, .idx 3 (.t 17) (.t 18)⟩,
 ⟨some 20, none, .ldn 3 (.t 19)⟩,
 ⟨some 21, none, .mv (.t 1)⟩,
 ⟨some 22, none, .mv (.t 5)⟩,
 ⟨some 23, none, .idx 3 (.t 21) (.t 22)⟩,
 ⟨some 24, none, .ldn 3 (.t 23)⟩]
 [⟨some 25, none, .call 33 [(.t 20), (.t 24)]⟩,
 ⟨some 26, none, .not (.t 25)⟩]) (
 .cond (.t 26) (
 .seq (
 .reg [⟨some 4, none, .mv (.c (.d (.bool false)))⟩]) (
 .ret)) (
 .skip)))) (
 .reg [⟨some 15, none, .mv (.t 5)⟩,
 ⟨some 16, none, .bin .add (.t 15) (.c (.d (.int 1)))⟩,
 ⟨some 5, none, .mv (.t 16)⟩]))

def C_laws_eqTensorS : Fun := ⟨2, 27,
 .seq (
 .reg [⟨some 4, none, .mv (.c (.d (.bool false)))⟩]) (
 .seq (
 .seq (
 .reg [⟨some 6, none, .mv (.t 0)⟩,
 ⟨some 7, none, .len (.t 6)⟩,
 ⟨some 8, none, .mv (.t 1)⟩,
 ⟨some 9, none, .len (.t 8)⟩,
 ⟨some 10, none, .bin .neq (.t 7) (.t 9)⟩]) (
 .cond (.t 10) (
 .seq (
 .reg [⟨some 4, none, .mv (.c (.d (.bool false)))⟩]) (
 .ret)) (
 .skip))) (
 .seq (
 .seq (
 .reg [⟨some 5, none, .mv (.c (.d (.int 0)))⟩]) (
 .block 0 (
 .loop L0_laws_eqTensorS))) (
 .seq (
 .reg [⟨some 4, none, .mv (.c (.d (.bool true)))⟩]) (
 .ret)))),
 [.t 4]⟩

theorem k_laws_eqTensorS : cFun Try.prog Try.f71 = some C_laws_eqTensorS.erase := by kernel_rfl

end Go.Proofs.Ytcgnehacihjnkaa

/-
  The compiled code of functions of the seat (written by mkcode.py). No condition.
-/
namespace Go.Proofs.Ytcgnehacihjnkaa
open Go.Lift

def L0_impl_BestWidth : C :=
 .seq (
 .reg [⟨some 68, none, .bin .lss (.t 67) (.t 66)⟩]) (
 .seq (
 .cond (.t 68) (
 .skip) (
 .exit 6)) (
 .seq (
 .block 7 (
 .seq (
 .reg [⟨some 69, none, .mv (.t 67)⟩,
 ⟨some 70, none, .idx 1 (.t 65) (.t 67)⟩,
 ⟨some 71, none, .ld (.t 70)⟩,
 ⟨some 10, none, .mv (.t 69)⟩,
 ⟨some 11, none, .mv (.t 71)⟩]) (
 .seq (
 .reg [⟨some 72, none, .mv (.t 6)⟩,
 ⟨some 73, none, .mv (.t 10)⟩,
 ⟨some 74, none, .bin .shr (.t 72) (.t 73)⟩,
 ⟨some 75, none, .bin .and (.t 74) (.c (.d (.int 1)))⟩,
 ⟨some 76, none, .bin .eql (.t 75) (.c (.d (.int 0)))⟩]) (
 .cond (.t 76) (
 .seq (
 .draw [⟨some 77, none, .mv (.t 4)⟩,
 ⟨some 78, none, .mv (.t 6)⟩,
 ⟨some 79, none, .idx 1 (.t 77) (.t 78)⟩,
 ⟨some 80, none, .ld (.t 79)⟩,
 ⟨some 81, none, .mv (.t 7)⟩,
 ⟨some 82, none, .mv (.t 11)⟩,
 ⟨some 83, none, .call 93 [(.t 81), (.t 82)]⟩,
 ⟨some 84, none, .len (.t 83)⟩]
 [⟨some 85, none, .mnx true (.t 80) (.t 84)⟩,
 ⟨some 12, none, .mv (.t 85)⟩]) (
 .draw [⟨some 86, none, .mv (.t 4)⟩,
 ⟨some 87, none, .mv (.t 6)⟩,
 ⟨some 88, none, .mv (.t 10)⟩,
 ⟨some 89, none, .bin .shl (.c (.d (.int 1))) (.t 88)⟩,
 ⟨some 90, none, .bin .or (.t 87) (.t 89)⟩,
 ⟨some 91, none, .mv (.t 4)⟩,
 ⟨some 92, none, .mv (.t 6)⟩,
 ⟨some 93, none, .mv (.t 10)⟩,
 ⟨some 94, none, .bin .shl (.c (.d (.int 1))) (.t 93)⟩,
 ⟨some 95, none, .bin .or (.t 92) (.t 94)⟩,
 ⟨some 96, none, .idx 1 (.t 91) (.t 95)⟩,
 ⟨some 97, none, .ld (.t 96)⟩,
 ⟨some 98, none, .mv (.t 12)⟩,
 ⟨some 99, none, .mnx false (.t 97) (.t 98)⟩]
 [⟨some 100, none, .idx 1 (.t 86) (.t 90)⟩,
 ⟨none, none, .st 1 (.t 100) (.t 99)⟩])) (
 .skip))))) (
 .reg [⟨some 101, none, .bin .add (.t 67) (.c (.d (.int 1)))⟩,
 ⟨some 67, none, .mv (.t 101)⟩])))

def L1_impl_BestWidth : C :=
 .seq (
 .reg [⟨some 52, none, .bin .lss (.t 51) (.t 50)⟩]) (
 .seq (
 .cond (.t 52) (
 .skip) (
 .exit 4)) (
 .seq (
 .block 5 (
 .seq (
 .reg [⟨some 53, none, .mv (.t 51)⟩,
 ⟨some 54, none, .idx 1 (.t 49) (.t 51)⟩,
 ⟨some 55, none, .ld (.t 54)⟩,
 ⟨some 8, none, .mv (.t 53)⟩,
 ⟨some 9, none, .mv (.t 55)⟩]) (
 .seq (
 .reg [⟨some 56, none, .mv (.t 6)⟩,
 ⟨some 57, none, .mv (.t 8)⟩,
 ⟨some 58, none, .bin .shr (.t 56) (.t 57)⟩,
 ⟨some 59, none, .bin .and (.t 58) (.c (.d (.int 1)))⟩,
 ⟨some 60, none, .bin .eql (.t 59) (.c (.d (.int 1)))⟩]) (
 .cond (.t 60) (
 .reg [⟨some 61, none, .mv (.t 7)⟩,
 ⟨some 62, none, .mv (.t 9)⟩,
 ⟨some 63, none, .call 92 [(.t 61), (.t 62)]⟩,
 ⟨some 7, none, .mv (.t 63)⟩]) (
 .skip))))) (
 .reg [⟨some 64, none, .bin .add (.t 51) (.c (.d (.int 1)))⟩,
 ⟨some 51, none, .mv (.t 64)⟩])))

def L2_impl_BestWidth : C :=
 .seq (
 .reg [⟨some 45, none, .bin .lss (.t 44) (.t 43)⟩]) (
 .seq (
 .cond (.t 45) (
 .skip) (
 .exit 2)) (
 .seq (
 .block 3 (
 .seq (
 .reg [⟨some 46, none, .mv (.t 44)⟩,
 ⟨some 6, none, .mv (.t 46)⟩]) (
 .seq (
 .reg [⟨some 47, none, .ldn 5 (.t 1)⟩,
 ⟨some 48, none, .call 91 [(.t 47)]⟩,
 ⟨some 7, none, .mv (.t 48)⟩]) (
 .seq (
 .seq (
 .reg [⟨some 49, none, .mv (.t 3)⟩,
 ⟨some 50, none, .len (.t 49)⟩,
 ⟨some 51, none, .mv (.c (.d (.int 0)))⟩]) (
 .block 4 (
 .loop L1_impl_BestWidth))) (
 .seq (
 .reg [⟨some 65, none, .mv (.t 3)⟩,
 ⟨some 66, none, .len (.t 65)⟩,
 ⟨some 67, none, .mv (.c (.d (.int 0)))⟩]) (
 .block 6 (
 .loop L0_impl_BestWidth))))))) (
 .reg [⟨some 102, none, .bin .add (.t 44) (.c (.d (.int 1)))⟩,
 ⟨some 44, none, .mv (.t 102)⟩])))

def L3_impl_BestWidth : C :=
 .seq (
 .reg [⟨some 30, none, .bin .lss (.t 29) (.t 28)⟩]) (
 .seq (
 .cond (.t 30) (
 .skip) (
 .exit 0)) (
 .seq (
 .block 1 (
 .seq (
 .reg [⟨some 31, none, .mv (.t 29)⟩,
 ⟨some 5, none, .mv (.t 31)⟩]) (
 .seq (
 .reg [⟨some 32, none, .mv (.t 5)⟩,
 ⟨some 33, none, .bin .gtr (.t 32) (.c (.d (.int 0)))⟩]) (
 .cond (.t 33) (
 .reg [⟨some 34, none, .mv (.t 4)⟩,
 ⟨some 35, none, .mv (.t 5)⟩,
 ⟨some 36, none, .ldn 5 (.t 1)⟩,
 ⟨some 37, none, .call 79 [(.t 36)]⟩,
 ⟨some 38, none, .len (.t 37)⟩,
 ⟨some 39, none, .bin .add (.t 38) (.c (.d (.int 1)))⟩,
 ⟨some 40, none, .idx 1 (.t 34) (.t 35)⟩,
 ⟨none, none, .st 1 (.t 40) (.t 39)⟩]) (
 .skip))))) (
 .reg [⟨some 41, none, .bin .add (.t 29) (.c (.d (.int 1)))⟩,
 ⟨some 29, none, .mv (.t 41)⟩])))

def C_impl_BestWidth : Fun := ⟨1, 109,
 .seq (
 .reg [⟨some 1, none, .box (.t 0)⟩,
 ⟨some 2, none, .mv (.c (.d (.int 0)))⟩]) (
 .seq (
 .reg [⟨some 13, none, .ldn 5 (.t 1)⟩,
 ⟨some 14, none, .call 90 [(.t 13)]⟩,
 ⟨some 3, none, .mv (.t 14)⟩]) (
 .seq (
 .seq (
 .reg [⟨some 15, none, .ldn 5 (.t 1)⟩,
 ⟨some 16, none, .call 66 [(.t 15)]⟩,
 ⟨some 17, none, .not (.t 16)⟩,
 ⟨some 18, none, .mv (.t 17)⟩,
 ⟨some 19, some (18, false), .mv (.t 3)⟩,
 ⟨some 20, some (18, false), .len (.t 19)⟩,
 ⟨some 21, some (18, false), .bin .gtr (.t 20) (.c (.d (.int 10)))⟩,
 ⟨some 22, none, .pick (.t 18) (.c (.d (.bool true))) (.t 21)⟩]) (
 .cond (.t 22) (
 .seq (
 .reg [⟨some 2, none, .mv (.c (.d (.int (-1))))⟩]) (
 .ret)) (
 .skip))) (
 .seq (
 .reg [⟨some 23, none, .mv (.t 3)⟩,
 ⟨some 24, none, .len (.t 23)⟩,
 ⟨some 25, none, .bin .shl (.c (.d (.int 1))) (.t 24)⟩,
 ⟨some 26, none, .make 1 8 [.d (.int 0)] (.t 25) (.t 25)⟩,
 ⟨some 4, none, .mv (.t 26)⟩]) (
 .seq (
 .seq (
 .reg [⟨some 27, none, .mv (.t 4)⟩,
 ⟨some 28, none, .len (.t 27)⟩,
 ⟨some 29, none, .mv (.c (.d (.int 0)))⟩]) (
 .block 0 (
 .loop L3_impl_BestWidth))) (
 .seq (
 .seq (
 .reg [⟨some 42, none, .mv (.t 4)⟩,
 ⟨some 43, none, .len (.t 42)⟩,
 ⟨some 44, none, .mv (.c (.d (.int 0)))⟩]) (
 .block 2 (
 .loop L2_impl_BestWidth))) (
 .seq (
 .reg [⟨some 103, none, .mv (.t 4)⟩,
 ⟨some 104, none, .mv (.t 4)⟩,
 ⟨some 105, none, .len (.t 104)⟩,
 ⟨some 106, none, .bin .sub (.t 105) (.c (.d (.int 1)))⟩,
 ⟨some 107, none, .idx 1 (.t 103) (.t 106)⟩,
 ⟨some 108, none, .ld (.t 107)⟩,
 ⟨some 2, none, .mv (.t 108)⟩]) (
 .ret))))))),
 [.t 2]⟩

theorem k_impl_BestWidth : cFun Try.prog Try.f37 = some C_impl_BestWidth.erase := by kernel_rfl

def L0_spec_BestWidth : C :=
 .seq (
 .reg [⟨some 35, none, .bin .lss (.t 34) (.t 33)⟩]) (
 .seq (
 .cond (.t 35) (
 .skip) (
 .exit 2)) (
 .seq (
 .block 3 (
 .seq (
 .reg [⟨some 36, none, .mv (.t 34)⟩,
 ⟨some 37, none, .idx 1 (.t 32) (.t 34)⟩,
 ⟨some 38, none, .ld (.t 37)⟩,
 ⟨some 6, none, .mv (.t 36)⟩,
 ⟨some 7, none, .mv (.t 38)⟩]) (
 .seq (
 .reg [⟨some 39, none, .mv (.t 5)⟩,
 ⟨some 40, none, .mv (.t 6)⟩,
 ⟨some 41, none, .bin .shr (.t 39) (.t 40)⟩,
 ⟨some 42, none, .bin .and (.t 41) (.c (.d (.int 1)))⟩,
 ⟨some 43, none, .bin .eql (.t 42) (.c (.d (.int 1)))⟩]) (
 .cond (.t 43) (
 .seq (
 .reg [⟨some 44, none, .mv (.t 5)⟩,
 ⟨some 45, none, .mv (.t 6)⟩,
 ⟨some 46, none, .bin .shl (.c (.d (.int 1))) (.t 45)⟩,
 ⟨some 47, none, .bin .sub (.t 44) (.t 46)⟩,
 ⟨some 8, none, .mv (.t 47)⟩]) (
 .draw [⟨some 48, none, .mv (.t 4)⟩,
 ⟨some 49, none, .mv (.t 5)⟩,
 ⟨some 50, none, .mv (.t 4)⟩,
 ⟨some 51, none, .mv (.t 5)⟩,
 ⟨some 52, none, .idx 1 (.t 50) (.t 51)⟩,
 ⟨some 53, none, .ld (.t 52)⟩,
 ⟨some 54, none, .mv (.t 4)⟩,
 ⟨some 55, none, .mv (.t 8)⟩,
 ⟨some 56, none, .idx 1 (.t 54) (.t 55)⟩,
 ⟨some 57, none, .ld (.t 56)⟩,
 ⟨some 58, none, .ldn 5 (.t 1)⟩,
 ⟨some 59, none, .mv (.t 3)⟩,
 ⟨some 60, none, .mv (.t 8)⟩,
 ⟨some 61, none, .mv (.t 7)⟩,
 ⟨some 62, none, .call 89 [(.t 58), (.t 59), (.t 60), (.t 61)]⟩,
 ⟨some 63, none, .mnx true (.t 57) (.t 62)⟩,
 ⟨some 64, none, .mnx false (.t 53) (.t 63)⟩]
 [⟨some 65, none, .idx 1 (.t 48) (.t 49)⟩,
 ⟨none, none, .st 1 (.t 65) (.t 64)⟩])) (
 .skip))))) (
 .reg [⟨some 66, none, .bin .add (.t 34) (.c (.d (.int 1)))⟩,
 ⟨some 34, none, .mv (.t 66)⟩])))

def L1_spec_BestWidth : C :=
 .seq (
 .seq (
 .reg [⟨some 23, none, .mv (.t 5)⟩,
 ⟨some 24, none, .mv (.t 4)⟩,
 ⟨some 25, none, .len (.t 24)⟩,
 ⟨some 26, none, .bin .lss (.t 23) (.t 25)⟩]) (
 .cond (.t 26) (
 .skip) (
 .exit 0))) (
 .seq (
 .block 1 (
 .seq (
 .reg [⟨some 29, none, .mv (.t 4)⟩,
 ⟨some 30, none, .mv (.t 5)⟩,
 ⟨some 31, none, .idx 1 (.t 29) (.t 30)⟩,
 ⟨none, none, .st 1 (.t 31) (.c (.d (.int 100)))⟩]) (
 .seq (
 .reg [⟨some 32, none, .mv (.t 3)⟩,
 ⟨some 33, none, .len (.t 32)⟩,
 ⟨some 34, none, .mv (.c (.d (.int 0)))⟩]) (
 .block 2 (
 .loop L0_spec_BestWidth))))) (
 .reg [⟨some 27, none, .mv (.t 5)⟩,
 ⟨some 28, none, .bin .add (.t 27) (.c (.d (.int 1)))⟩,
 ⟨some 5, none, .mv (.t 28)⟩]))

def C_spec_BestWidth : Fun := ⟨1, 73,
 .seq (
 .reg [⟨some 1, none, .box (.t 0)⟩,
 ⟨some 2, none, .mv (.c (.d (.int 0)))⟩]) (
 .seq (
 .reg [⟨some 9, none, .ldn 5 (.t 1)⟩,
 ⟨some 10, none, .call 88 [(.t 9)]⟩,
 ⟨some 3, none, .mv (.t 10)⟩]) (
 .seq (
 .seq (
 .reg [⟨some 11, none, .ldn 5 (.t 1)⟩,
 ⟨some 12, none, .call 61 [(.t 11)]⟩,
 ⟨some 13, none, .not (.t 12)⟩,
 ⟨some 14, none, .mv (.t 13)⟩,
 ⟨some 15, some (14, false), .mv (.t 3)⟩,
 ⟨some 16, some (14, false), .len (.t 15)⟩,
 ⟨some 17, some (14, false), .bin .gtr (.t 16) (.c (.d (.int 10)))⟩,
 ⟨some 18, none, .pick (.t 14) (.c (.d (.bool true))) (.t 17)⟩]) (
 .cond (.t 18) (
 .seq (
 .reg [⟨some 2, none, .mv (.c (.d (.int (-1))))⟩]) (
 .ret)) (
 .skip))) (
 .seq (
 .reg [⟨some 19, none, .mv (.t 3)⟩,
 ⟨some 20, none, .len (.t 19)⟩,
 ⟨some 21, none, .bin .shl (.c (.d (.int 1))) (.t 20)⟩,
 ⟨some 22, none, .make 1 8 [.d (.int 0)] (.t 21) (.t 21)⟩,
 ⟨some 4, none, .mv (.t 22)⟩]) (
 .seq (
 .seq (
 .reg [⟨some 5, none, .mv (.c (.d (.int 1)))⟩]) (
 .block 0 (
 .loop L1_spec_BestWidth))) (
 .seq (
 .reg [⟨some 67, none, .mv (.t 4)⟩,
 ⟨some 68, none, .mv (.t 4)⟩,
 ⟨some 69, none, .len (.t 68)⟩,
 ⟨some 70, none, .bin .sub (.t 69) (.c (.d (.int 1)))⟩,
 ⟨some 71, none, .idx 1 (.t 67) (.t 70)⟩,
 ⟨some 72, none, .ld (.t 71)⟩,
 ⟨some 2, none, .mv (.t 72)⟩]) (
 .ret)))))),
 [.t 2]⟩

theorem k_spec_BestWidth : cFun Try.prog Try.f36 = some C_spec_BestWidth.erase := by kernel_rfl

def L0_spec_l21Width : C :=
 .seq (
 .reg [⟨some 21, none, .bin .lss (.t 20) (.t 19)⟩]) (
 .seq (
 .cond (.t 21) (
 .skip) (
 .exit 0)) (
 .seq (
 .block 1 (
 .seq (
 .reg [⟨some 22, none, .mv (.t 20)⟩,
 ⟨some 23, none, .idx 1 (.t 18) (.t 20)⟩,
 ⟨some 24, none, .ld (.t 23)⟩,
 ⟨some 10, none, .mv (.t 22)⟩,
 ⟨some 11, none, .mv (.t 24)⟩]) (
 .seq (
 .reg [⟨some 25, none, .mv (.t 2)⟩,
 ⟨some 26, none, .mv (.t 10)⟩,
 ⟨some 27, none, .bin .shr (.t 25) (.t 26)⟩,
 ⟨some 28, none, .bin .and (.t 27) (.c (.d (.int 1)))⟩,
 ⟨some 29, none, .bin .eql (.t 28) (.c (.d (.int 1)))⟩]) (
 .cond (.t 29) (
 .seq (
 .reg [⟨some 31, none, .mv (.t 9)⟩,
 ⟨some 32, none, .mv (.t 11)⟩,
 ⟨some 33, none, .call 105 [(.t 31), (.t 32)]⟩,
 ⟨some 30, none, .mv (.t 33)⟩,
 ⟨some 34, none, .ext 0 (.t 30)⟩,
 ⟨some 35, none, .ext 1 (.t 30)⟩,
 ⟨some 12, none, .mv (.t 34)⟩,
 ⟨some 13, none, .mv (.t 35)⟩]) (
 .reg [⟨some 36, none, .mv (.t 13)⟩,
 ⟨some 37, none, .mv (.t 12)⟩,
 ⟨some 38, none, .mv (.t 11)⟩,
 ⟨some 39, none, .call 106 [(.t 37), (.t 38)]⟩,
 ⟨some 40, none, .mksl 1 1 [.nil] [(0, 1, (.t 39))]⟩,
 ⟨some 41, none, .app 1 24 [.nil] (.t 36) (.t 40)⟩,
 ⟨some 9, none, .mv (.t 41)⟩])) (
 .skip))))) (
 .reg [⟨some 42, none, .bin .add (.t 20) (.c (.d (.int 1)))⟩,
 ⟨some 20, none, .mv (.t 42)⟩])))

def C_spec_l21Width : Fun := ⟨4, 51,
 .seq (
 .reg [⟨some 4, none, .box (.t 0)⟩,
 ⟨some 8, none, .mv (.c (.d (.int 0)))⟩]) (
 .seq (
 .reg [⟨some 16, none, .ldn 5 (.t 4)⟩,
 ⟨some 17, none, .call 103 [(.t 16)]⟩,
 ⟨some 9, none, .mv (.t 17)⟩]) (
 .seq (
 .seq (
 .reg [⟨some 18, none, .mv (.t 1)⟩,
 ⟨some 19, none, .len (.t 18)⟩,
 ⟨some 20, none, .mv (.c (.d (.int 0)))⟩]) (
 .block 0 (
 .loop L0_spec_l21Width))) (
 .seq (
 .reg [⟨some 44, none, .mv (.t 9)⟩,
 ⟨some 45, none, .mv (.t 3)⟩,
 ⟨some 46, none, .call 105 [(.t 44), (.t 45)]⟩,
 ⟨some 43, none, .mv (.t 46)⟩,
 ⟨some 47, none, .ext 0 (.t 43)⟩,
 ⟨some 48, none, .ext 1 (.t 43)⟩,
 ⟨some 14, none, .mv (.t 47)⟩,
 ⟨some 15, none, .mv (.t 48)⟩]) (
 .seq (
 .reg [⟨some 49, none, .mv (.t 14)⟩,
 ⟨some 50, none, .len (.t 49)⟩,
 ⟨some 8, none, .mv (.t 50)⟩]) (
 .ret))))),
 [.t 8]⟩

theorem k_spec_l21Width : cFun Try.prog Try.f89 = some C_spec_l21Width.erase := by kernel_rfl
end Go.Proofs.Ytcgnehacihjnkaa

/-
  The compiled code of functions of the seat (written by mkcode.py). No condition.
-/
namespace Go.Proofs.Ytcgnehacihjnkaa
open Go.Lift

def L0_impl_labelLists : C :=
 .seq (
 .reg [⟨some 10, none, .bin .lss (.t 9) (.t 8)⟩]) (
 .seq (
 .cond (.t 10) (
 .skip) (
 .exit 0)) (
 .seq (
 .block 1 (
 .seq (
 .reg [⟨some 11, none, .idx 3 (.t 7) (.t 9)⟩,
 ⟨some 12, none, .ldn 3 (.t 11)⟩,
 ⟨some 5, none, .zer [.nil, .nil, .nil]⟩,
 ⟨none, none, .st 3 (.t 5) (.t 12)⟩]) (
 .reg [⟨some 13, none, .mv (.t 3)⟩,
 ⟨some 14, none, .fld 0 (.t 5)⟩,
 ⟨some 15, none, .ld (.t 14)⟩,
 ⟨some 16, none, .call 143 [(.t 15)]⟩,
 ⟨some 17, none, .mksl 1 1 [.nil] [(0, 1, (.t 16))]⟩,
 ⟨some 18, none, .app 1 24 [.nil] (.t 13) (.t 17)⟩,
 ⟨some 3, none, .mv (.t 18)⟩]))) (
 .reg [⟨some 19, none, .bin .add (.t 9) (.c (.d (.int 1)))⟩,
 ⟨some 9, none, .mv (.t 19)⟩])))

def C_impl_labelLists : Fun := ⟨1, 21,
 .seq (
 .reg [⟨some 1, none, .box (.t 0)⟩,
 ⟨some 2, none, .mv (.c (.nil))⟩]) (
 .seq (
 .reg [⟨some 3, none, .mv (.c (.nil))⟩]) (
 .seq (
 .seq (
 .reg [⟨some 6, none, .fld 3 (.t 1)⟩,
 ⟨some 7, none, .ld (.t 6)⟩,
 ⟨some 8, none, .len (.t 7)⟩,
 ⟨some 9, none, .mv (.c (.d (.int 0)))⟩]) (
 .block 0 (
 .loop L0_impl_labelLists))) (
 .seq (
 .reg [⟨some 20, none, .mv (.t 3)⟩,
 ⟨some 2, none, .mv (.t 20)⟩]) (
 .ret)))),
 [.t 2]⟩

theorem k_impl_labelLists : cFun Try.prog Try.f91 = some C_impl_labelLists.erase := by kernel_rfl

def L0_impl_bucketLabels : C :=
 .seq (
 .reg [⟨some 11, none, .bin .lss (.t 10) (.t 9)⟩]) (
 .seq (
 .cond (.t 11) (
 .skip) (
 .exit 0)) (
 .seq (
 .block 1 (
 .seq (
 .reg [⟨some 12, none, .idx 1 (.t 8) (.t 10)⟩,
 ⟨some 13, none, .ld (.t 12)⟩,
 ⟨some 7, none, .mv (.t 13)⟩]) (
 .seq (
 .reg [⟨some 14, none, .mv (.t 7)⟩,
 ⟨some 15, none, .mv (.t 1)⟩,
 ⟨some 16, none, .call 67 [(.t 14), (.t 15)]⟩]) (
 .cond (.t 16) (
 .reg [⟨some 17, none, .mv (.t 5)⟩,
 ⟨some 18, none, .mv (.t 7)⟩,
 ⟨some 19, none, .call 149 [(.t 17), (.t 18)]⟩,
 ⟨some 5, none, .mv (.t 19)⟩]) (
 .skip))))) (
 .reg [⟨some 20, none, .bin .add (.t 10) (.c (.d (.int 1)))⟩,
 ⟨some 10, none, .mv (.t 20)⟩])))

def C_impl_bucketLabels : Fun := ⟨2, 22,
 .seq (
 .reg [⟨some 4, none, .mv (.c (.nil))⟩]) (
 .seq (
 .reg [⟨some 5, none, .mv (.c (.nil))⟩]) (
 .seq (
 .seq (
 .reg [⟨some 8, none, .mv (.t 0)⟩,
 ⟨some 9, none, .len (.t 8)⟩,
 ⟨some 10, none, .mv (.c (.d (.int 0)))⟩]) (
 .block 0 (
 .loop L0_impl_bucketLabels))) (
 .seq (
 .reg [⟨some 21, none, .mv (.t 5)⟩,
 ⟨some 4, none, .mv (.t 21)⟩]) (
 .ret)))),
 [.t 4]⟩

theorem k_impl_bucketLabels : cFun Try.prog Try.f93 = some C_impl_bucketLabels.erase := by kernel_rfl

def L0_impl_eliminateFrom : C :=
 .seq (
 .reg [⟨some 11, none, .bin .lss (.t 10) (.t 9)⟩]) (
 .seq (
 .cond (.t 11) (
 .skip) (
 .exit 0)) (
 .seq (
 .block 1 (
 .seq (
 .reg [⟨some 12, none, .idx 1 (.t 8) (.t 10)⟩,
 ⟨some 13, none, .ld (.t 12)⟩,
 ⟨some 7, none, .mv (.t 13)⟩]) (
 .seq (
 .reg [⟨some 14, none, .mv (.t 7)⟩,
 ⟨some 15, none, .mv (.t 1)⟩,
 ⟨some 16, none, .call 67 [(.t 14), (.t 15)]⟩,
 ⟨some 17, none, .not (.t 16)⟩]) (
 .cond (.t 17) (
 .reg [⟨some 18, none, .mv (.t 5)⟩,
 ⟨some 19, none, .mv (.t 7)⟩,
 ⟨some 20, none, .mksl 1 1 [.nil] [(0, 1, (.t 19))]⟩,
 ⟨some 21, none, .app 1 24 [.nil] (.t 18) (.t 20)⟩,
 ⟨some 5, none, .mv (.t 21)⟩]) (
 .skip))))) (
 .reg [⟨some 22, none, .bin .add (.t 10) (.c (.d (.int 1)))⟩,
 ⟨some 10, none, .mv (.t 22)⟩])))

def C_impl_eliminateFrom : Fun := ⟨2, 31,
 .seq (
 .reg [⟨some 4, none, .mv (.c (.nil))⟩]) (
 .seq (
 .reg [⟨some 5, none, .mv (.c (.nil))⟩]) (
 .seq (
 .seq (
 .reg [⟨some 8, none, .mv (.t 0)⟩,
 ⟨some 9, none, .len (.t 8)⟩,
 ⟨some 10, none, .mv (.c (.d (.int 0)))⟩]) (
 .block 0 (
 .loop L0_impl_eliminateFrom))) (
 .seq (
 .reg [⟨some 23, none, .mv (.t 5)⟩,
 ⟨some 24, none, .mv (.t 0)⟩,
 ⟨some 25, none, .mv (.t 1)⟩,
 ⟨some 26, none, .call 93 [(.t 24), (.t 25)]⟩,
 ⟨some 27, none, .mv (.t 1)⟩,
 ⟨some 28, none, .call 107 [(.t 26), (.t 27)]⟩,
 ⟨some 29, none, .mksl 1 1 [.nil] [(0, 1, (.t 28))]⟩,
 ⟨some 30, none, .app 1 24 [.nil] (.t 23) (.t 29)⟩,
 ⟨some 4, none, .mv (.t 30)⟩]) (
 .ret)))),
 [.t 4]⟩

theorem k_impl_eliminateFrom : cFun Try.prog Try.f92 = some C_impl_eliminateFrom.erase := by kernel_rfl

def L0_spec_l21Lists : C :=
 .seq (
 .reg [⟨some 11, none, .bin .lss (.t 10) (.t 9)⟩]) (
 .seq (
 .cond (.t 11) (
 .skip) (
 .exit 0)) (
 .seq (
 .block 1 (
 .seq (
 .reg [⟨some 12, none, .idx 3 (.t 8) (.t 10)⟩,
 ⟨some 13, none, .ldn 3 (.t 12)⟩,
 ⟨some 5, none, .zer [.nil, .nil, .nil]⟩,
 ⟨none, none, .st 3 (.t 5) (.t 13)⟩]) (
 .reg [⟨some 14, none, .mv (.t 3)⟩,
 ⟨some 15, none, .fld 0 (.t 5)⟩,
 ⟨some 16, none, .ld (.t 15)⟩,
 ⟨some 17, none, .mksl 1 1 [.nil] [(0, 1, (.t 16))]⟩,
 ⟨some 18, none, .app 1 24 [.nil] (.t 14) (.t 17)⟩,
 ⟨some 3, none, .mv (.t 18)⟩]))) (
 .reg [⟨some 19, none, .bin .add (.t 10) (.c (.d (.int 1)))⟩,
 ⟨some 10, none, .mv (.t 19)⟩])))

def C_spec_l21Lists : Fun := ⟨1, 21,
 .seq (
 .reg [⟨some 1, none, .box (.t 0)⟩,
 ⟨some 2, none, .mv (.c (.nil))⟩]) (
 .seq (
 .reg [⟨some 6, none, .mksl 1 0 [.nil] []⟩,
 ⟨some 3, none, .mv (.t 6)⟩]) (
 .seq (
 .seq (
 .reg [⟨some 7, none, .fld 3 (.t 1)⟩,
 ⟨some 8, none, .ld (.t 7)⟩,
 ⟨some 9, none, .len (.t 8)⟩,
 ⟨some 10, none, .mv (.c (.d (.int 0)))⟩]) (
 .block 0 (
 .loop L0_spec_l21Lists))) (
 .seq (
 .reg [⟨some 20, none, .mv (.t 3)⟩,
 ⟨some 2, none, .mv (.t 20)⟩]) (
 .ret)))),
 [.t 2]⟩

theorem k_spec_l21Lists : cFun Try.prog Try.f103 = some C_spec_l21Lists.erase := by kernel_rfl

def L0_spec_l21Bucket : C :=
 .seq (
 .reg [⟨some 31, none, .bin .lss (.t 30) (.t 29)⟩]) (
 .seq (
 .cond (.t 31) (
 .skip) (
 .exit 2)) (
 .seq (
 .block 3 (
 .seq (
 .reg [⟨some 32, none, .idx 1 (.t 28) (.t 30)⟩,
 ⟨some 33, none, .ld (.t 32)⟩,
 ⟨some 11, none, .mv (.t 33)⟩]) (
 .seq (
 .reg [⟨some 34, none, .mv (.t 6)⟩,
 ⟨some 35, none, .mv (.t 11)⟩,
 ⟨some 36, none, .call 63 [(.t 34), (.t 35)]⟩,
 ⟨some 37, none, .bin .lss (.t 36) (.c (.d (.int 0)))⟩]) (
 .cond (.t 37) (
 .reg [⟨some 38, none, .mv (.t 6)⟩,
 ⟨some 39, none, .mv (.t 11)⟩,
 ⟨some 40, none, .mksl 1 1 [.d (.int 0)] [(0, 1, (.t 39))]⟩,
 ⟨some 41, none, .app 1 8 [.d (.int 0)] (.t 38) (.t 40)⟩,
 ⟨some 6, none, .mv (.t 41)⟩]) (
 .skip))))) (
 .reg [⟨some 42, none, .bin .add (.t 30) (.c (.d (.int 1)))⟩,
 ⟨some 30, none, .mv (.t 42)⟩])))

def L1_spec_l21Bucket : C :=
 .seq (
 .reg [⟨some 17, none, .bin .lss (.t 16) (.t 15)⟩]) (
 .seq (
 .cond (.t 17) (
 .skip) (
 .exit 0)) (
 .seq (
 .block 1 (
 .seq (
 .reg [⟨some 18, none, .idx 1 (.t 14) (.t 16)⟩,
 ⟨some 19, none, .ld (.t 18)⟩,
 ⟨some 9, none, .mv (.t 19)⟩]) (
 .seq (
 .seq (
 .reg [⟨some 20, none, .mv (.t 9)⟩,
 ⟨some 21, none, .mv (.t 1)⟩,
 ⟨some 22, none, .call 63 [(.t 20), (.t 21)]⟩,
 ⟨some 23, none, .bin .lss (.t 22) (.c (.d (.int 0)))⟩]) (
 .cond (.t 23) (
 .seq (
 .reg [⟨some 24, none, .mv (.t 7)⟩,
 ⟨some 25, none, .mv (.t 9)⟩,
 ⟨some 26, none, .mksl 1 1 [.nil] [(0, 1, (.t 25))]⟩,
 ⟨some 27, none, .app 1 24 [.nil] (.t 24) (.t 26)⟩,
 ⟨some 7, none, .mv (.t 27)⟩]) (
 .exit 1)) (
 .skip))) (
 .seq (
 .reg [⟨some 28, none, .mv (.t 9)⟩,
 ⟨some 29, none, .len (.t 28)⟩,
 ⟨some 30, none, .mv (.c (.d (.int 0)))⟩]) (
 .block 2 (
 .loop L0_spec_l21Bucket)))))) (
 .reg [⟨some 43, none, .bin .add (.t 16) (.c (.d (.int 1)))⟩,
 ⟨some 16, none, .mv (.t 43)⟩])))

def C_spec_l21Bucket : Fun := ⟨2, 46,
 .seq (
 .reg [⟨some 4, none, .mv (.c (.nil))⟩,
 ⟨some 5, none, .mv (.c (.nil))⟩]) (
 .seq (
 .reg [⟨some 12, none, .mksl 1 0 [.d (.int 0)] []⟩,
 ⟨some 6, none, .mv (.t 12)⟩]) (
 .seq (
 .reg [⟨some 13, none, .mksl 1 0 [.nil] []⟩,
 ⟨some 7, none, .mv (.t 13)⟩]) (
 .seq (
 .seq (
 .reg [⟨some 14, none, .mv (.t 0)⟩,
 ⟨some 15, none, .len (.t 14)⟩,
 ⟨some 16, none, .mv (.c (.d (.int 0)))⟩]) (
 .block 0 (
 .loop L1_spec_l21Bucket))) (
 .seq (
 .reg [⟨some 44, none, .mv (.t 6)⟩,
 ⟨some 45, none, .mv (.t 7)⟩,
 ⟨some 4, none, .mv (.t 44)⟩,
 ⟨some 5, none, .mv (.t 45)⟩]) (
 .ret))))),
 [.t 4, .t 5]⟩

theorem k_spec_l21Bucket : cFun Try.prog Try.f105 = some C_spec_l21Bucket.erase := by kernel_rfl

def L0_spec_l21Without : C :=
 .seq (
 .reg [⟨some 12, none, .bin .lss (.t 11) (.t 10)⟩]) (
 .seq (
 .cond (.t 12) (
 .skip) (
 .exit 0)) (
 .seq (
 .block 1 (
 .seq (
 .reg [⟨some 13, none, .idx 1 (.t 9) (.t 11)⟩,
 ⟨some 14, none, .ld (.t 13)⟩,
 ⟨some 7, none, .mv (.t 14)⟩]) (
 .seq (
 .reg [⟨some 15, none, .mv (.t 7)⟩,
 ⟨some 16, none, .mv (.t 1)⟩,
 ⟨some 17, none, .bin .neq (.t 15) (.t 16)⟩]) (
 .cond (.t 17) (
 .reg [⟨some 18, none, .mv (.t 5)⟩,
 ⟨some 19, none, .mv (.t 7)⟩,
 ⟨some 20, none, .mksl 1 1 [.d (.int 0)] [(0, 1, (.t 19))]⟩,
 ⟨some 21, none, .app 1 8 [.d (.int 0)] (.t 18) (.t 20)⟩,
 ⟨some 5, none, .mv (.t 21)⟩]) (
 .skip))))) (
 .reg [⟨some 22, none, .bin .add (.t 11) (.c (.d (.int 1)))⟩,
 ⟨some 11, none, .mv (.t 22)⟩])))

def C_spec_l21Without : Fun := ⟨2, 24,
 .seq (
 .reg [⟨some 4, none, .mv (.c (.nil))⟩]) (
 .seq (
 .reg [⟨some 8, none, .mksl 1 0 [.d (.int 0)] []⟩,
 ⟨some 5, none, .mv (.t 8)⟩]) (
 .seq (
 .seq (
 .reg [⟨some 9, none, .mv (.t 0)⟩,
 ⟨some 10, none, .len (.t 9)⟩,
 ⟨some 11, none, .mv (.c (.d (.int 0)))⟩]) (
 .block 0 (
 .loop L0_spec_l21Without))) (
 .seq (
 .reg [⟨some 23, none, .mv (.t 5)⟩,
 ⟨some 4, none, .mv (.t 23)⟩]) (
 .ret)))),
 [.t 4]⟩

theorem k_spec_l21Without : cFun Try.prog Try.f106 = some C_spec_l21Without.erase := by kernel_rfl

end Go.Proofs.Ytcgnehacihjnkaa

/-
  The compiled code of functions of the seat (written by mkcode.py). No condition.
-/
namespace Go.Proofs.Ytcgnehacihjnkaa
open Go.Lift

def L0_spec_l20Labels : C :=
 .seq (
 .reg [⟨some 41, none, .bin .lss (.t 40) (.t 39)⟩]) (
 .seq (
 .cond (.t 41) (
 .skip) (
 .exit 2)) (
 .seq (
 .block 3 (
 .seq (
 .reg [⟨some 42, none, .idx 1 (.t 38) (.t 40)⟩,
 ⟨some 43, none, .ld (.t 42)⟩,
 ⟨some 11, none, .mv (.t 43)⟩]) (
 .seq (
 .reg [⟨some 44, none, .fld 4 (.t 2)⟩,
 ⟨some 45, none, .ld (.t 44)⟩,
 ⟨some 46, none, .mv (.t 11)⟩,
 ⟨some 47, none, .call 63 [(.t 45), (.t 46)]⟩,
 ⟨some 48, none, .bin .geq (.t 47) (.c (.d (.int 0)))⟩,
 ⟨some 49, none, .mv (.t 48)⟩,
 ⟨some 50, some (49, false), .mv (.t 6)⟩,
 ⟨some 51, some (49, false), .mv (.t 11)⟩,
 ⟨some 52, some (49, false), .call 95 [(.t 50), (.t 51)]⟩,
 ⟨some 53, some (49, false), .bin .gtr (.t 52) (.c (.d (.int 0)))⟩,
 ⟨some 54, none, .pick (.t 49) (.c (.d (.bool true))) (.t 53)⟩]) (
 .cond (.t 54) (
 .reg [⟨some 55, none, .mv (.t 9)⟩,
 ⟨some 56, none, .mv (.t 11)⟩,
 ⟨some 57, none, .mksl 1 1 [.d (.int 0)] [(0, 1, (.t 56))]⟩,
 ⟨some 58, none, .app 1 8 [.d (.int 0)] (.t 55) (.t 57)⟩,
 ⟨some 9, none, .mv (.t 58)⟩]) (
 .skip))))) (
 .reg [⟨some 59, none, .bin .add (.t 40) (.c (.d (.int 1)))⟩,
 ⟨some 40, none, .mv (.t 59)⟩])))

def L1_spec_l20Labels : C :=
 .seq (
 .reg [⟨some 18, none, .bin .lss (.t 17) (.t 16)⟩]) (
 .seq (
 .cond (.t 18) (
 .skip) (
 .exit 0)) (
 .seq (
 .block 1 (
 .seq (
 .reg [⟨some 19, none, .mv (.t 17)⟩,
 ⟨some 20, none, .idx 3 (.t 15) (.t 17)⟩,
 ⟨some 21, none, .ldn 3 (.t 20)⟩,
 ⟨some 8, none, .zer [.nil, .nil, .nil]⟩,
 ⟨some 7, none, .mv (.t 19)⟩,
 ⟨none, none, .st 3 (.t 8) (.t 21)⟩]) (
 .seq (
 .reg [⟨some 22, none, .mv (.t 1)⟩,
 ⟨some 23, none, .mv (.t 7)⟩,
 ⟨some 24, none, .bin .shr (.t 22) (.t 23)⟩,
 ⟨some 25, none, .bin .and (.t 24) (.c (.d (.int 1)))⟩,
 ⟨some 26, none, .bin .eql (.t 25) (.c (.d (.int 1)))⟩]) (
 .cond (.t 26) (
 .reg [⟨some 27, none, .mv (.t 5)⟩,
 ⟨some 28, none, .ldn 3 (.t 8)⟩,
 ⟨some 29, none, .mksl 3 1 [.nil, .nil, .nil] [(0, 3, (.t 28))]⟩,
 ⟨some 30, none, .app 3 72 [.nil, .nil, .nil] (.t 27) (.t 29)⟩,
 ⟨some 5, none, .mv (.t 30)⟩]) (
 .reg [⟨some 31, none, .mv (.t 6)⟩,
 ⟨some 32, none, .ldn 3 (.t 8)⟩,
 ⟨some 33, none, .mksl 3 1 [.nil, .nil, .nil] [(0, 3, (.t 32))]⟩,
 ⟨some 34, none, .app 3 72 [.nil, .nil, .nil] (.t 31) (.t 33)⟩,
 ⟨some 6, none, .mv (.t 34)⟩]))))) (
 .reg [⟨some 35, none, .bin .add (.t 17) (.c (.d (.int 1)))⟩,
 ⟨some 17, none, .mv (.t 35)⟩])))

def C_spec_l20Labels : Fun := ⟨2, 61,
 .seq (
 .reg [⟨some 2, none, .box (.t 0)⟩,
 ⟨some 4, none, .mv (.c (.nil))⟩]) (
 .seq (
 .reg [⟨some 12, none, .mksl 3 0 [.nil, .nil, .nil] []⟩,
 ⟨some 5, none, .mv (.t 12)⟩]) (
 .seq (
 .reg [⟨some 13, none, .mksl 3 0 [.nil, .nil, .nil] []⟩,
 ⟨some 6, none, .mv (.t 13)⟩]) (
 .seq (
 .seq (
 .reg [⟨some 14, none, .fld 3 (.t 2)⟩,
 ⟨some 15, none, .ld (.t 14)⟩,
 ⟨some 16, none, .len (.t 15)⟩,
 ⟨some 17, none, .mv (.c (.d (.int 0)))⟩]) (
 .block 0 (
 .loop L1_spec_l20Labels))) (
 .seq (
 .reg [⟨some 36, none, .mksl 1 0 [.d (.int 0)] []⟩,
 ⟨some 9, none, .mv (.t 36)⟩]) (
 .seq (
 .seq (
 .reg [⟨some 37, none, .mv (.t 5)⟩,
 ⟨some 38, none, .call 76 [(.t 37)]⟩,
 ⟨some 39, none, .len (.t 38)⟩,
 ⟨some 40, none, .mv (.c (.d (.int 0)))⟩]) (
 .block 2 (
 .loop L0_spec_l20Labels))) (
 .seq (
 .reg [⟨some 60, none, .mv (.t 9)⟩,
 ⟨some 4, none, .mv (.t 60)⟩]) (
 .ret))))))),
 [.t 4]⟩

theorem k_spec_l20Labels : cFun Try.prog Try.f177 = some C_spec_l20Labels.erase := by kernel_rfl

def L0_impl_rawSetLabels : C :=
 .seq (
 .reg [⟨some 35, none, .bin .lss (.t 34) (.c (.d (.int 100)))⟩]) (
 .seq (
 .cond (.t 35) (
 .skip) (
 .exit 2)) (
 .seq (
 .block 3 (
 .seq (
 .reg [⟨some 36, none, .mv (.t 34)⟩,
 ⟨some 10, none, .mv (.t 36)⟩]) (
 .seq (
 .reg [⟨some 37, none, .mv (.t 10)⟩,
 ⟨some 38, none, .aix 1 100 (.t 5) (.t 37)⟩,
 ⟨some 39, none, .ld (.t 38)⟩,
 ⟨some 40, none, .mv (.t 39)⟩,
 ⟨some 41, some (40, true), .mv (.t 10)⟩,
 ⟨some 42, some (40, true), .aix 1 100 (.t 6) (.t 41)⟩,
 ⟨some 43, some (40, true), .ld (.t 42)⟩,
 ⟨some 44, none, .pick (.t 40) (.t 43) (.c (.d (.bool false)))⟩]) (
 .cond (.t 44) (
 .reg [⟨some 45, none, .mv (.t 9)⟩,
 ⟨some 46, none, .mv (.t 10)⟩,
 ⟨some 47, none, .mksl 1 1 [.d (.int 0)] [(0, 1, (.t 46))]⟩,
 ⟨some 48, none, .app 1 8 [.d (.int 0)] (.t 45) (.t 47)⟩,
 ⟨some 9, none, .mv (.t 48)⟩]) (
 .skip))))) (
 .reg [⟨some 49, none, .bin .add (.t 34) (.c (.d (.int 1)))⟩,
 ⟨some 34, none, .mv (.t 49)⟩])))

def L1_impl_rawSetLabels : C :=
 .seq (
 .reg [⟨some 18, none, .bin .lss (.t 17) (.t 16)⟩]) (
 .seq (
 .cond (.t 18) (
 .skip) (
 .exit 0)) (
 .seq (
 .block 1 (
 .seq (
 .reg [⟨some 19, none, .mv (.t 17)⟩,
 ⟨some 20, none, .idx 3 (.t 15) (.t 17)⟩,
 ⟨some 21, none, .ldn 3 (.t 20)⟩,
 ⟨some 8, none, .zer [.nil, .nil, .nil]⟩,
 ⟨some 7, none, .mv (.t 19)⟩,
 ⟨none, none, .st 3 (.t 8) (.t 21)⟩]) (
 .seq (
 .reg [⟨some 22, none, .mv (.t 1)⟩,
 ⟨some 23, none, .mv (.t 7)⟩,
 ⟨some 24, none, .bin .shr (.t 22) (.t 23)⟩,
 ⟨some 25, none, .bin .and (.t 24) (.c (.d (.int 1)))⟩,
 ⟨some 26, none, .bin .eql (.t 25) (.c (.d (.int 1)))⟩]) (
 .cond (.t 26) (
 .reg [⟨some 27, none, .fld 0 (.t 8)⟩,
 ⟨some 28, none, .ld (.t 27)⟩,
 ⟨some 29, none, .call 69 [(.t 5), (.t 28)]⟩]) (
 .reg [⟨some 30, none, .fld 0 (.t 8)⟩,
 ⟨some 31, none, .ld (.t 30)⟩,
 ⟨some 32, none, .call 69 [(.t 6), (.t 31)]⟩]))))) (
 .reg [⟨some 33, none, .bin .add (.t 17) (.c (.d (.int 1)))⟩,
 ⟨some 17, none, .mv (.t 33)⟩])))

def C_impl_rawSetLabels : Fun := ⟨2, 51,
 .seq (
 .reg [⟨some 2, none, .box (.t 0)⟩,
 ⟨some 4, none, .mv (.c (.nil))⟩]) (
 .seq (
 .reg [⟨some 5, none, .zer (reps 100 (.d (.bool false)))⟩,
 ⟨some 6, none, .zer (reps 100 (.d (.bool false)))⟩]) (
 .seq (
 .reg [⟨some 11, none, .fld 4 (.t 2)⟩,
 ⟨some 12, none, .ld (.t 11)⟩,
 ⟨some 13, none, .call 69 [(.t 6), (.t 12)]⟩]) (
 .seq (
 .seq (
 .reg [⟨some 14, none, .fld 3 (.t 2)⟩,
 ⟨some 15, none, .ld (.t 14)⟩,
 ⟨some 16, none, .len (.t 15)⟩,
 ⟨some 17, none, .mv (.c (.d (.int 0)))⟩]) (
 .block 0 (
 .loop L1_impl_rawSetLabels))) (
 .seq (
 .reg [⟨some 9, none, .mv (.c (.nil))⟩]) (
 .seq (
 .seq (
 .reg [⟨some 34, none, .mv (.c (.d (.int 0)))⟩]) (
 .block 2 (
 .loop L0_impl_rawSetLabels))) (
 .seq (
 .reg [⟨some 50, none, .mv (.t 9)⟩,
 ⟨some 4, none, .mv (.t 50)⟩]) (
 .ret))))))),
 [.t 4]⟩

theorem k_impl_rawSetLabels : cFun Try.prog Try.f147 = some C_impl_rawSetLabels.erase := by kernel_rfl

def L0_impl_markLabels : C :=
 .seq (
 .reg [⟨some 9, none, .bin .lss (.t 8) (.t 7)⟩]) (
 .seq (
 .cond (.t 9) (
 .skip) (
 .exit 0)) (
 .seq (
 .block 1 (
 .seq (
 .reg [⟨some 10, none, .idx 1 (.t 6) (.t 8)⟩,
 ⟨some 11, none, .ld (.t 10)⟩,
 ⟨some 5, none, .mv (.t 11)⟩]) (
 .reg [⟨some 12, none, .mv (.t 0)⟩,
 ⟨some 13, none, .mv (.t 5)⟩,
 ⟨some 14, none, .nck (.t 12)⟩,
 ⟨some 15, none, .aix 1 100 (.t 14) (.t 13)⟩,
 ⟨none, none, .st 1 (.t 15) (.c (.d (.bool true)))⟩]))) (
 .reg [⟨some 16, none, .bin .add (.t 8) (.c (.d (.int 1)))⟩,
 ⟨some 8, none, .mv (.t 16)⟩])))

def C_impl_markLabels : Fun := ⟨2, 17,
 .seq (
 .reg [⟨some 6, none, .mv (.t 1)⟩,
 ⟨some 7, none, .len (.t 6)⟩,
 ⟨some 8, none, .mv (.c (.d (.int 0)))⟩]) (
 .block 0 (
 .loop L0_impl_markLabels)),
 []⟩

theorem k_impl_markLabels : cFun Try.prog Try.f69 = some C_impl_markLabels.erase := by kernel_rfl

end Go.Proofs.Ytcgnehacihjnkaa

/-
  The compiled code of functions of the seat (written by mkcode.py). No condition.
-/
namespace Go.Proofs.Ytcgnehacihjnkaa
open Go.Lift

end Go.Proofs.Ytcgnehacihjnkaa

/-
  The compiled code of functions of the seat (written by mkcode.py). No condition.
-/
namespace Go.Proofs.Ytcgnehacihjnkaa
open Go.Lift

end Go.Proofs.Ytcgnehacihjnkaa

/-
  The compiled code of functions of the seat (written by mkcode.py). No condition.
-/
namespace Go.Proofs.Ytcgnehacihjnkaa
open Go.Lift

end Go.Proofs.Ytcgnehacihjnkaa

/-
  The compiled code of functions of the seat (written by mkcode.py). No condition.
-/
namespace Go.Proofs.Ytcgnehacihjnkaa
open Go.Lift

end Go.Proofs.Ytcgnehacihjnkaa

/-
  The compiled code of functions of the seat (written by mkcode.py). No condition.
-/
namespace Go.Proofs.Ytcgnehacihjnkaa
open Go.Lift

end Go.Proofs.Ytcgnehacihjnkaa

/-
  The compiled code of functions of the seat (written by mkcode.py). No condition.
-/
namespace Go.Proofs.Ytcgnehacihjnkaa
open Go.Lift

end Go.Proofs.Ytcgnehacihjnkaa

/-
  The compiled code of functions of the seat (written by mkcode.py). No condition.
-/
namespace Go.Proofs.Ytcgnehacihjnkaa
open Go.Lift

def L0_spec_l07Join : C :=
 .seq (
 .seq (
 .reg [⟨some 13, none, .mv (.t 10)⟩,
 ⟨some 14, none, .fld 1 (.t 5)⟩,
 ⟨some 15, none, .ld (.t 14)⟩,
 ⟨some 16, none, .call 146 [(.t 15), (.c (.d (.int 4096)))]⟩,
 ⟨some 17, none, .bin .lss (.t 13) (.t 16)⟩]) (
 .cond (.t 17) (
 .skip) (
 .exit 0))) (
 .seq (
 .block 1 (
 .seq (
 .reg [⟨some 20, none, .mv (.t 3)⟩]) (
 .cond (.t 20) (
 .draw [⟨some 21, none, .ldn 3 (.t 4)⟩,
 ⟨some 22, none, .ldn 3 (.t 9)⟩,
 ⟨some 23, none, .mv (.t 10)⟩,
 ⟨some 24, none, .ldn 3 (.t 4)⟩,
 ⟨some 25, none, .ldn 3 (.t 4)⟩,
 ⟨some 26, none, .ldn 3 (.t 5)⟩,
 ⟨some 27, none, .mv (.t 10)⟩,
 ⟨some 28, none, .call 157 [(.t 25), (.t 26), (.t 27)]⟩,
 ⟨some 29, none, .ldn 3 (.t 4)⟩,
 ⟨some 30, none, .ldn 3 (.t 6)⟩,
 ⟨some 31, none, .mv (.t 10)⟩,
 ⟨some 32, none, .call 157 [(.t 29), (.t 30), (.t 31)]⟩,
 ⟨some 33, none, .call 156 [(.t 24), (.t 28), (.t 32)]⟩]
 [⟨some 34, none, .call 155 [(.t 21), (.t 22), (.t 23), (.t 33)]⟩]) (
 .draw [⟨some 35, none, .ldn 3 (.t 4)⟩,
 ⟨some 36, none, .ldn 3 (.t 9)⟩,
 ⟨some 37, none, .mv (.t 10)⟩,
 ⟨some 38, none, .ldn 3 (.t 4)⟩,
 ⟨some 39, none, .ldn 3 (.t 4)⟩,
 ⟨some 40, none, .ldn 3 (.t 5)⟩,
 ⟨some 41, none, .mv (.t 10)⟩,
 ⟨some 42, none, .call 157 [(.t 39), (.t 40), (.t 41)]⟩,
 ⟨some 43, none, .ldn 3 (.t 4)⟩,
 ⟨some 44, none, .ldn 3 (.t 6)⟩,
 ⟨some 45, none, .mv (.t 10)⟩,
 ⟨some 46, none, .call 157 [(.t 43), (.t 44), (.t 45)]⟩,
 ⟨some 47, none, .call 158 [(.t 38), (.t 42), (.t 46)]⟩]
 [⟨some 48, none, .call 155 [(.t 35), (.t 36), (.t 37), (.t 47)]⟩])))) (
 .reg [⟨some 18, none, .mv (.t 10)⟩,
 ⟨some 19, none, .bin .add (.t 18) (.c (.d (.int 1)))⟩,
 ⟨some 10, none, .mv (.t 19)⟩]))

def C_spec_l07Join : Fun := ⟨4, 50,
 .seq (
 .reg [⟨some 4, none, .box (.t 0)⟩,
 ⟨some 5, none, .box (.t 1)⟩,
 ⟨some 6, none, .box (.t 2)⟩,
 ⟨some 8, none, .zer [.nil, .nil, .nil]⟩]) (
 .seq (
 .reg [⟨some 11, none, .ldn 3 (.t 5)⟩,
 ⟨some 12, none, .call 139 [(.t 11)]⟩,
 ⟨some 9, none, .zer [.nil, .nil, .nil]⟩,
 ⟨none, none, .st 3 (.t 9) (.t 12)⟩]) (
 .seq (
 .seq (
 .reg [⟨some 10, none, .mv (.c (.d (.int 0)))⟩]) (
 .block 0 (
 .loop L0_spec_l07Join))) (
 .seq (
 .reg [⟨some 49, none, .ldn 3 (.t 9)⟩,
 ⟨none, none, .st 3 (.t 8) (.t 49)⟩]) (
 .ret)))),
 [.cell 8 3]⟩

theorem k_spec_l07Join : cFun Try.prog Try.f83 = some C_spec_l07Join.erase := by kernel_rfl

def L0_impl_addInto : C :=
 .seq (
 .reg [⟨some 12, none, .bin .lss (.t 11) (.t 10)⟩]) (
 .seq (
 .cond (.t 12) (
 .skip) (
 .exit 1)) (
 .seq (
 .block 2 (
 .seq (
 .reg [⟨some 13, none, .mv (.t 11)⟩,
 ⟨some 6, none, .mv (.t 13)⟩]) (
 .draw [⟨some 14, none, .mv (.t 1)⟩,
 ⟨some 15, none, .mv (.t 6)⟩,
 ⟨some 16, none, .mv (.t 1)⟩,
 ⟨some 17, none, .mv (.t 6)⟩,
 ⟨some 18, none, .idx 1 (.t 16) (.t 17)⟩,
 ⟨some 19, none, .ld (.t 18)⟩,
 ⟨some 20, none, .mv (.t 2)⟩,
 ⟨some 21, none, .mv (.t 6)⟩,
 ⟨some 22, none, .idx 1 (.t 20) (.t 21)⟩,
 ⟨some 23, none, .ld (.t 22)⟩,
 ⟨some 24, none, .bin .add (.t 19) (.t 23)⟩,
 ⟨some 25, none, .fld 1 (.t 3)⟩,
 ⟨some 26, none, .ld (.t 25)⟩,
 ⟨some 27, none, .bin .rem (.t 24) (.t 26)⟩]
 [⟨some 28, none, .idx 1 (.t 14) (.t 15)⟩,
 ⟨none, none, .st 1 (.t 28) (.t 27)⟩]))) (
 .reg [⟨some 29, none, .bin .add (.t 11) (.c (.d (.int 1)))⟩,
 ⟨some 11, none, .mv (.t 29)⟩])))

def C_impl_addInto : Fun := ⟨3, 77,
 .seq (
 .reg [⟨some 3, none, .box (.t 0)⟩]) (
 .seq (
 .reg [⟨some 7, none, .fld 0 (.t 3)⟩,
 ⟨some 8, none, .ld (.t 7)⟩]) (
 .block 0 (
 .seq (
 .seq (
 .reg [⟨some 31, none, .bin .eql (.t 8) (.c (.d (.int 1)))⟩,
 ⟨some 30, none, .mv (.t 31)⟩]) (
 .cond (.t 30) (
 .skip) (
 .reg [⟨some 32, none, .bin .eql (.t 8) (.c (.d (.int 5)))⟩,
 ⟨some 30, none, .mv (.t 32)⟩]))) (
 .cond (.t 30) (
 .draw [⟨some 33, none, .mv (.t 1)⟩,
 ⟨some 34, none, .mv (.t 1)⟩,
 ⟨some 35, none, .idx 1 (.t 34) (.c (.d (.int 0)))⟩,
 ⟨some 36, none, .ld (.t 35)⟩,
 ⟨some 37, none, .mv (.t 2)⟩,
 ⟨some 38, none, .idx 1 (.t 37) (.c (.d (.int 0)))⟩,
 ⟨some 39, none, .ld (.t 38)⟩,
 ⟨some 40, none, .mnx true (.t 36) (.t 39)⟩]
 [⟨some 41, none, .idx 1 (.t 33) (.c (.d (.int 0)))⟩,
 ⟨none, none, .st 1 (.t 41) (.t 40)⟩]) (
 .seq (
 .reg [⟨some 43, none, .bin .eql (.t 8) (.c (.d (.int 3)))⟩,
 ⟨some 42, none, .mv (.t 43)⟩]) (
 .cond (.t 42) (
 .draw [⟨some 44, none, .mv (.t 1)⟩,
 ⟨some 45, none, .mv (.t 1)⟩,
 ⟨some 46, none, .idx 1 (.t 45) (.c (.d (.int 0)))⟩,
 ⟨some 47, none, .ld (.t 46)⟩,
 ⟨some 48, none, .mv (.t 2)⟩,
 ⟨some 49, none, .idx 1 (.t 48) (.c (.d (.int 0)))⟩,
 ⟨some 50, none, .ld (.t 49)⟩,
 ⟨some 51, none, .bin .add (.t 47) (.t 50)⟩,
 ⟨some 52, none, .fld 1 (.t 3)⟩,
 ⟨some 53, none, .ld (.t 52)⟩,
 ⟨some 54, none, .mnx false (.t 51) (.t 53)⟩]
 [⟨some 55, none, .idx 1 (.t 44) (.c (.d (.int 0)))⟩,
 ⟨none, none, .st 1 (.t 55) (.t 54)⟩]) (
 .seq (
 .reg [⟨some 57, none, .bin .eql (.t 8) (.c (.d (.int 4)))⟩,
 ⟨some 56, none, .mv (.t 57)⟩]) (
 .cond (.t 56) (
 .draw [⟨some 58, none, .mv (.t 1)⟩,
 ⟨some 59, none, .mv (.t 1)⟩,
 ⟨some 60, none, .idx 1 (.t 59) (.c (.d (.int 0)))⟩,
 ⟨some 61, none, .ld (.t 60)⟩,
 ⟨some 62, none, .mv (.t 2)⟩,
 ⟨some 63, none, .idx 1 (.t 62) (.c (.d (.int 0)))⟩,
 ⟨some 64, none, .ld (.t 63)⟩,
 ⟨some 65, none, .mnx false (.t 61) (.t 64)⟩]
 [⟨some 66, none, .idx 1 (.t 58) (.c (.d (.int 0)))⟩,
 ⟨none, none, .st 1 (.t 66) (.t 65)⟩]) (
 .seq (
 .reg [⟨some 68, none, .bin .eql (.t 8) (.c (.d (.int 6)))⟩,
 ⟨some 67, none, .mv (.t 68)⟩]) (
 .cond (.t 67) (
 .draw [⟨some 69, none, .mv (.t 1)⟩,
 ⟨some 70, none, .idx 1 (.t 69) (.c (.d (.int 0)))⟩,
 ⟨some 71, none, .ld (.t 70)⟩,
 ⟨some 72, none, .mv (.t 2)⟩,
 ⟨some 73, none, .idx 1 (.t 72) (.c (.d (.int 0)))⟩,
 ⟨some 74, none, .ld (.t 73)⟩]
 [⟨some 75, none, .bin .or (.t 71) (.t 74)⟩,
 ⟨some 76, none, .idx 1 (.t 69) (.c (.d (.int 0)))⟩,
 ⟨none, none, .st 1 (.t 76) (.t 75)⟩]) (
 .seq (
 .reg [⟨some 9, none, .mv (.t 1)⟩,
 ⟨some 10, none, .len (.t 9)⟩,
 ⟨some 11, none, .mv (.c (.d (.int 0)))⟩]) (
 .block 1 (
 .loop L0_impl_addInto))))))))))))),
 []⟩

theorem k_impl_addInto : cFun Try.prog Try.f134 = some C_impl_addInto.erase := by kernel_rfl

def L0_spec_l02Add : C :=
 .seq (
 .reg [⟨some 15, none, .bin .lss (.t 14) (.t 13)⟩]) (
 .seq (
 .cond (.t 15) (
 .skip) (
 .exit 0)) (
 .seq (
 .block 1 (
 .seq (
 .reg [⟨some 16, none, .mv (.t 14)⟩,
 ⟨some 8, none, .mv (.t 16)⟩]) (
 .seq (
 .reg [⟨some 17, none, .fld 0 (.t 3)⟩,
 ⟨some 18, none, .ld (.t 17)⟩]) (
 .block 2 (
 .seq (
 .seq (
 .reg [⟨some 35, none, .bin .eql (.t 18) (.c (.d (.int 1)))⟩,
 ⟨some 34, none, .mv (.t 35)⟩]) (
 .cond (.t 34) (
 .skip) (
 .reg [⟨some 36, none, .bin .eql (.t 18) (.c (.d (.int 6)))⟩,
 ⟨some 34, none, .mv (.t 36)⟩]))) (
 .cond (.t 34) (
 .draw [⟨some 37, none, .mv (.t 7)⟩,
 ⟨some 38, none, .mv (.t 8)⟩,
 ⟨some 39, none, .mv (.t 1)⟩,
 ⟨some 40, none, .mv (.t 8)⟩,
 ⟨some 41, none, .idx 1 (.t 39) (.t 40)⟩,
 ⟨some 42, none, .ld (.t 41)⟩,
 ⟨some 43, none, .mv (.t 2)⟩,
 ⟨some 44, none, .mv (.t 8)⟩,
 ⟨some 45, none, .idx 1 (.t 43) (.t 44)⟩,
 ⟨some 46, none, .ld (.t 45)⟩,
 ⟨some 47, none, .bin .or (.t 42) (.t 46)⟩]
 [⟨some 48, none, .idx 1 (.t 37) (.t 38)⟩,
 ⟨none, none, .st 1 (.t 48) (.t 47)⟩]) (
 .seq (
 .reg [⟨some 50, none, .bin .eql (.t 18) (.c (.d (.int 3)))⟩,
 ⟨some 49, none, .mv (.t 50)⟩]) (
 .cond (.t 49) (
 .draw [⟨some 51, none, .mv (.t 7)⟩,
 ⟨some 52, none, .mv (.t 8)⟩,
 ⟨some 53, none, .mv (.t 1)⟩,
 ⟨some 54, none, .mv (.t 8)⟩,
 ⟨some 55, none, .idx 1 (.t 53) (.t 54)⟩,
 ⟨some 56, none, .ld (.t 55)⟩,
 ⟨some 57, none, .mv (.t 2)⟩,
 ⟨some 58, none, .mv (.t 8)⟩,
 ⟨some 59, none, .idx 1 (.t 57) (.t 58)⟩,
 ⟨some 60, none, .ld (.t 59)⟩,
 ⟨some 61, none, .bin .add (.t 56) (.t 60)⟩,
 ⟨some 62, none, .fld 1 (.t 3)⟩,
 ⟨some 63, none, .ld (.t 62)⟩,
 ⟨some 64, none, .mnx false (.t 61) (.t 63)⟩]
 [⟨some 65, none, .idx 1 (.t 51) (.t 52)⟩,
 ⟨none, none, .st 1 (.t 65) (.t 64)⟩]) (
 .seq (
 .reg [⟨some 67, none, .bin .eql (.t 18) (.c (.d (.int 4)))⟩,
 ⟨some 66, none, .mv (.t 67)⟩]) (
 .cond (.t 66) (
 .draw [⟨some 68, none, .mv (.t 7)⟩,
 ⟨some 69, none, .mv (.t 8)⟩,
 ⟨some 70, none, .mv (.t 1)⟩,
 ⟨some 71, none, .mv (.t 8)⟩,
 ⟨some 72, none, .idx 1 (.t 70) (.t 71)⟩,
 ⟨some 73, none, .ld (.t 72)⟩,
 ⟨some 74, none, .mv (.t 2)⟩,
 ⟨some 75, none, .mv (.t 8)⟩,
 ⟨some 76, none, .idx 1 (.t 74) (.t 75)⟩,
 ⟨some 77, none, .ld (.t 76)⟩,
 ⟨some 78, none, .mnx false (.t 73) (.t 77)⟩]
 [⟨some 79, none, .idx 1 (.t 68) (.t 69)⟩,
 ⟨none, none, .st 1 (.t 79) (.t 78)⟩]) (
 .seq (
 .reg [⟨some 81, none, .bin .eql (.t 18) (.c (.d (.int 5)))⟩,
 ⟨some 80, none, .mv (.t 81)⟩]) (
 .cond (.t 80) (
 .draw [⟨some 82, none, .mv (.t 7)⟩,
 ⟨some 83, none, .mv (.t 8)⟩,
 ⟨some 84, none, .mv (.t 1)⟩,
 ⟨some 85, none, .mv (.t 8)⟩,
 ⟨some 86, none, .idx 1 (.t 84) (.t 85)⟩,
 ⟨some 87, none, .ld (.t 86)⟩,
 ⟨some 88, none, .mv (.t 2)⟩,
 ⟨some 89, none, .mv (.t 8)⟩,
 ⟨some 90, none, .idx 1 (.t 88) (.t 89)⟩,
 ⟨some 91, none, .ld (.t 90)⟩,
 ⟨some 92, none, .mnx true (.t 87) (.t 91)⟩]
 [⟨some 93, none, .idx 1 (.t 82) (.t 83)⟩,
 ⟨none, none, .st 1 (.t 93) (.t 92)⟩]) (
 .draw [⟨some 19, none, .mv (.t 7)⟩,
 ⟨some 20, none, .mv (.t 8)⟩,
 ⟨some 21, none, .mv (.t 1)⟩,
 ⟨some 22, none, .mv (.t 8)⟩,
 ⟨some 23, none, .idx 1 (.t 21) (.t 22)⟩,
 ⟨some 24, none, .ld (.t 23)⟩,
 ⟨some 25, none, .mv (.t 2)⟩,
 ⟨some 26, none, .mv (.t 8)⟩,
 ⟨some 27, none, .idx 1 (.t 25) (.t 26)⟩,
 ⟨some 28, none, .ld (.t 27)⟩,
 ⟨some 29, none, .bin .add (.t 24) (.t 28)⟩,
 ⟨some 30, none, .fld 1 (.t 3)⟩,
 ⟨some 31, none, .ld (.t 30)⟩,
 ⟨some 32, none, .bin .rem (.t 29) (.t 31)⟩]
 [⟨some 33, none, .idx 1 (.t 19) (.t 20)⟩,
 ⟨none, none, .st 1 (.t 33) (.t 32)⟩]))))))))))))) (
 .reg [⟨some 94, none, .bin .add (.t 14) (.c (.d (.int 1)))⟩,
 ⟨some 14, none, .mv (.t 94)⟩])))

def C_spec_l02Add : Fun := ⟨3, 96,
 .seq (
 .reg [⟨some 3, none, .box (.t 0)⟩,
 ⟨some 6, none, .mv (.c (.nil))⟩]) (
 .seq (
 .reg [⟨some 9, none, .mv (.t 1)⟩,
 ⟨some 10, none, .len (.t 9)⟩,
 ⟨some 11, none, .make 1 8 [.d (.int 0)] (.t 10) (.t 10)⟩,
 ⟨some 7, none, .mv (.t 11)⟩]) (
 .seq (
 .seq (
 .reg [⟨some 12, none, .mv (.t 1)⟩,
 ⟨some 13, none, .len (.t 12)⟩,
 ⟨some 14, none, .mv (.c (.d (.int 0)))⟩]) (
 .block 0 (
 .loop L0_spec_l02Add))) (
 .seq (
 .reg [⟨some 95, none, .mv (.t 7)⟩,
 ⟨some 6, none, .mv (.t 95)⟩]) (
 .ret)))),
 [.t 6]⟩

theorem k_spec_l02Add : cFun Try.prog Try.f158 = some C_spec_l02Add.erase := by kernel_rfl

end Go.Proofs.Ytcgnehacihjnkaa

/-
  The compiled code of functions of the seat (written by mkcode.py). No condition.
-/
namespace Go.Proofs.Ytcgnehacihjnkaa
open Go.Lift

end Go.Proofs.Ytcgnehacihjnkaa
