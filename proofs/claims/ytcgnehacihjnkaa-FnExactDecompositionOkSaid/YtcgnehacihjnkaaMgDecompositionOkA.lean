/-
  The compiled code of functions of the seat (written by mkcode.py). No condition.
-/
import Derived.Test.YtcgnehacihjnkaaLiftE
import Derived.Test.YtcgnehacihjnkaaProg
import Derived.KernelRfl
import Derived.Test.YtcgnehacihjnkaaLiftK
namespace Go.Proofs.Ytcgnehacihjnkaa
open Go.Lift

def C_laws_FnExactDecompositionOk : Fun := ⟨2, 45,
 .seq (
 .reg [⟨some 2, none, .box (.t 0)⟩,
 ⟨some 3, none, .box (.t 1)⟩,
 ⟨some 4, none, .mv (.c (.d (.bool false)))⟩]) (
 .seq (
 .reg [⟨some 5, none, .mv (.c (.d (.int 1048576)))⟩]) (
 .seq (
 .reg [⟨some 10, none, .ldn 5 (.t 2)⟩,
 ⟨some 11, none, .mv (.t 5)⟩,
 ⟨some 12, none, .call 14 [(.t 10), (.t 11)]⟩,
 ⟨some 5, none, .mv (.t 12)⟩]) (
 .seq (
 .seq (
 .reg [⟨some 13, none, .mv (.t 5)⟩,
 ⟨some 14, none, .bin .lss (.t 13) (.c (.d (.int 0)))⟩]) (
 .cond (.t 14) (
 .seq (
 .reg [⟨some 4, none, .mv (.c (.d (.bool true)))⟩]) (
 .ret)) (
 .skip))) (
 .seq (
 .reg [⟨some 15, none, .ldn 2 (.t 3)⟩,
 ⟨some 16, none, .mv (.t 5)⟩,
 ⟨some 17, none, .call 38 [(.t 15), (.t 16)]⟩,
 ⟨some 5, none, .mv (.t 17)⟩]) (
 .seq (
 .seq (
 .reg [⟨some 18, none, .mv (.t 5)⟩,
 ⟨some 19, none, .bin .lss (.t 18) (.c (.d (.int 0)))⟩]) (
 .cond (.t 19) (
 .seq (
 .reg [⟨some 4, none, .mv (.c (.d (.bool true)))⟩]) (
 .ret)) (
 .skip))) (
 .seq (
 .draw [⟨some 20, none, .ldn 5 (.t 2)⟩,
 ⟨some 21, none, .call 16 [(.t 20)]⟩,
 ⟨some 22, none, .ldn 2 (.t 3)⟩]
 [⟨some 23, none, .call 40 [(.t 22)]⟩,
 ⟨some 24, none, .call 39 [(.t 21), (.t 23)]⟩,
 ⟨some 6, none, .mv (.t 24)⟩]) (
 .seq (
 .reg [⟨some 25, none, .ldn 5 (.t 2)⟩,
 ⟨some 26, none, .call 16 [(.t 25)]⟩,
 ⟨some 7, none, .zer [.d (.int 0), .d (.int 0), .d (.int 0), .nil, .nil]⟩,
 ⟨none, none, .st 5 (.t 7) (.t 26)⟩]) (
 .seq (
 .reg [⟨some 27, none, .ldn 2 (.t 3)⟩,
 ⟨some 28, none, .call 40 [(.t 27)]⟩,
 ⟨some 8, none, .zer [.nil, .nil]⟩,
 ⟨none, none, .st 2 (.t 8) (.t 28)⟩]) (
 .seq (
 .reg [⟨some 29, none, .ldn 5 (.t 7)⟩,
 ⟨some 30, none, .ldn 2 (.t 8)⟩,
 ⟨some 31, none, .call 41 [(.t 29), (.t 30)]⟩,
 ⟨some 9, none, .mv (.t 31)⟩]) (
 .seq (
 .seq (
 .reg [⟨some 32, none, .mv (.t 9)⟩,
 ⟨some 33, none, .mv (.t 6)⟩,
 ⟨some 34, none, .binb true (.t 32) (.t 33)⟩]) (
 .cond (.t 34) (
 .seq (
 .reg [⟨some 4, none, .mv (.c (.d (.bool false)))⟩]) (
 .ret)) (
 .skip))) (
 .seq (
 .seq (
 .draw [⟨some 35, none, .ldn 5 (.t 7)⟩,
 ⟨some 36, none, .ldn 5 (.t 2)⟩,
 ⟨some 37, none, .call 16 [(.t 36)]⟩]
 [⟨some 38, none, .call 19 [(.t 35), (.t 37)]⟩,
 ⟨some 39, none, .not (.t 38)⟩]) (
 .cond (.t 39) (
 .seq (
 .reg [⟨some 4, none, .mv (.c (.d (.bool false)))⟩]) (
 .ret)) (
 .skip))) (
 .seq (
 .seq (
 .draw [⟨some 40, none, .ldn 2 (.t 8)⟩,
 ⟨some 41, none, .ldn 2 (.t 3)⟩,
 ⟨some 42, none, .call 40 [(.t 41)]⟩]
 [⟨some 43, none, .call 42 [(.t 40), (.t 42)]⟩,
 ⟨some 44, none, .not (.t 43)⟩]) (
 .cond (.t 44) (
 .seq (
 .reg [⟨some 4, none, .mv (.c (.d (.bool false)))⟩]) (
 .ret)) (
 .skip))) (
 .seq (
 .reg [⟨some 4, none, .mv (.c (.d (.bool true)))⟩]) (
 .ret)))))))))))))),
 [.t 4]⟩

theorem k_laws_FnExactDecompositionOk : cFun Try.prog Try.f8 = some C_laws_FnExactDecompositionOk.erase := by kernel_rfl

end Go.Proofs.Ytcgnehacihjnkaa

/-
  The compiled code of functions of the seat (written by mkcode.py). No condition.
-/
namespace Go.Proofs.Ytcgnehacihjnkaa
open Go.Lift

def C_laws_szDecomposition : Fun := ⟨2, 18,
 .seq (
 .reg [⟨some 2, none, .box (.t 0)⟩,
 ⟨some 4, none, .mv (.c (.d (.int 0)))⟩]) (
 .seq (
 .reg [⟨some 5, none, .fld 0 (.t 2)⟩,
 ⟨some 6, none, .ld (.t 5)⟩,
 ⟨some 7, none, .mv (.t 1)⟩,
 ⟨some 8, none, .call 94 [(.t 6), (.t 7)]⟩,
 ⟨some 1, none, .mv (.t 8)⟩]) (
 .seq (
 .seq (
 .reg [⟨some 9, none, .mv (.t 1)⟩,
 ⟨some 10, none, .bin .lss (.t 9) (.c (.d (.int 0)))⟩]) (
 .cond (.t 10) (
 .seq (
 .reg [⟨some 4, none, .mv (.c (.d (.int (-1))))⟩]) (
 .ret)) (
 .skip))) (
 .seq (
 .reg [⟨some 11, none, .fld 1 (.t 2)⟩,
 ⟨some 12, none, .ld (.t 11)⟩,
 ⟨some 13, none, .mv (.t 1)⟩,
 ⟨some 14, none, .call 60 [(.t 12), (.t 13)]⟩,
 ⟨some 1, none, .mv (.t 14)⟩]) (
 .seq (
 .seq (
 .reg [⟨some 15, none, .mv (.t 1)⟩,
 ⟨some 16, none, .bin .lss (.t 15) (.c (.d (.int 0)))⟩]) (
 .cond (.t 16) (
 .seq (
 .reg [⟨some 4, none, .mv (.c (.d (.int (-1))))⟩]) (
 .ret)) (
 .skip))) (
 .seq (
 .reg [⟨some 17, none, .mv (.t 1)⟩,
 ⟨some 4, none, .mv (.t 17)⟩]) (
 .ret)))))),
 [.t 4]⟩

theorem k_laws_szDecomposition : cFun Try.prog Try.f38 = some C_laws_szDecomposition.erase := by kernel_rfl

def L0_spec_DecompositionOk : C :=
 .seq (
 .reg [⟨some 119, none, .bin .lss (.t 118) (.t 117)⟩]) (
 .seq (
 .cond (.t 119) (
 .skip) (
 .exit 8)) (
 .seq (
 .block 9 (
 .seq (
 .reg [⟨some 120, none, .mv (.t 118)⟩,
 ⟨some 121, none, .idx 1 (.t 116) (.t 118)⟩,
 ⟨some 122, none, .ld (.t 121)⟩,
 ⟨some 14, none, .mv (.t 120)⟩,
 ⟨some 15, none, .mv (.t 122)⟩]) (
 .seq (
 .draw [⟨some 123, none, .mv (.t 15)⟩,
 ⟨some 124, none, .mv (.t 12)⟩,
 ⟨some 125, none, .call 63 [(.t 123), (.t 124)]⟩,
 ⟨some 126, none, .bin .geq (.t 125) (.c (.d (.int 0)))⟩,
 ⟨some 127, none, .mv (.t 126)⟩,
 ⟨some 128, some (127, true), .mv (.t 14)⟩,
 ⟨some 129, some (127, true), .bin .eql (.t 128) (.c (.d (.int 0)))⟩,
 ⟨some 130, some (127, true), .mv (.t 129)⟩,
 ⟨some 131, some (130, false), .fld 0 (.t 3)⟩,
 ⟨some 132, some (130, false), .ld (.t 131)⟩,
 ⟨some 133, some (130, false), .fld 1 (.t 3)⟩,
 ⟨some 134, some (130, false), .ld (.t 133)⟩,
 ⟨some 135, some (130, false), .mv (.t 14)⟩,
 ⟨some 136, some (130, false), .idx 1 (.t 134) (.t 135)⟩,
 ⟨some 137, some (130, false), .ld (.t 136)⟩,
 ⟨some 138, some (130, false), .idx 1 (.t 132) (.t 137)⟩,
 ⟨some 139, some (130, false), .ld (.t 138)⟩,
 ⟨some 140, some (130, false), .mv (.t 12)⟩]
 [⟨some 141, some (130, false), .call 63 [(.t 139), (.t 140)]⟩,
 ⟨some 142, some (130, false), .bin .lss (.t 141) (.c (.d (.int 0)))⟩,
 ⟨some 143, some (127, true), .pick (.t 130) (.c (.d (.bool true))) (.t 142)⟩,
 ⟨some 144, none, .pick (.t 127) (.t 143) (.c (.d (.bool false)))⟩]) (
 .cond (.t 144) (
 .reg [⟨some 145, none, .mv (.t 13)⟩,
 ⟨some 146, none, .bin .add (.t 145) (.c (.d (.int 1)))⟩,
 ⟨some 13, none, .mv (.t 146)⟩]) (
 .skip))))) (
 .reg [⟨some 147, none, .bin .add (.t 118) (.c (.d (.int 1)))⟩,
 ⟨some 118, none, .mv (.t 147)⟩])))

def L1_spec_DecompositionOk : C :=
 .seq (
 .reg [⟨some 112, none, .bin .lss (.t 111) (.t 110)⟩]) (
 .seq (
 .cond (.t 112) (
 .skip) (
 .exit 6)) (
 .seq (
 .block 7 (
 .seq (
 .reg [⟨some 113, none, .idx 1 (.t 109) (.t 111)⟩,
 ⟨some 114, none, .ld (.t 113)⟩,
 ⟨some 12, none, .mv (.t 114)⟩]) (
 .seq (
 .reg [⟨some 13, none, .mv (.c (.d (.int 0)))⟩]) (
 .seq (
 .seq (
 .reg [⟨some 115, none, .fld 0 (.t 3)⟩,
 ⟨some 116, none, .ld (.t 115)⟩,
 ⟨some 117, none, .len (.t 116)⟩,
 ⟨some 118, none, .mv (.c (.d (.int 0)))⟩]) (
 .block 8 (
 .loop L0_spec_DecompositionOk))) (
 .seq (
 .reg [⟨some 148, none, .mv (.t 13)⟩,
 ⟨some 149, none, .bin .gtr (.t 148) (.c (.d (.int 1)))⟩]) (
 .cond (.t 149) (
 .seq (
 .reg [⟨some 4, none, .mv (.c (.d (.bool false)))⟩]) (
 .ret)) (
 .skip))))))) (
 .reg [⟨some 150, none, .bin .add (.t 111) (.c (.d (.int 1)))⟩,
 ⟨some 111, none, .mv (.t 150)⟩])))

def L2_spec_DecompositionOk : C :=
 .seq (
 .reg [⟨some 98, none, .bin .lss (.t 97) (.t 96)⟩]) (
 .seq (
 .cond (.t 98) (
 .skip) (
 .exit 4)) (
 .seq (
 .block 5 (
 .seq (
 .reg [⟨some 99, none, .idx 3 (.t 95) (.t 97)⟩,
 ⟨some 100, none, .ldn 3 (.t 99)⟩,
 ⟨some 10, none, .zer [.nil, .nil, .nil]⟩,
 ⟨none, none, .st 3 (.t 10) (.t 100)⟩]) (
 .seq (
 .reg [⟨some 101, none, .ldn 2 (.t 3)⟩,
 ⟨some 102, none, .fld 0 (.t 10)⟩,
 ⟨some 103, none, .ld (.t 102)⟩,
 ⟨some 104, none, .call 96 [(.t 101), (.t 103)]⟩,
 ⟨some 105, none, .bin .lss (.t 104) (.c (.d (.int 0)))⟩]) (
 .cond (.t 105) (
 .seq (
 .reg [⟨some 4, none, .mv (.c (.d (.bool false)))⟩]) (
 .ret)) (
 .skip))))) (
 .reg [⟨some 106, none, .bin .add (.t 97) (.c (.d (.int 1)))⟩,
 ⟨some 97, none, .mv (.t 106)⟩])))

def L3_spec_DecompositionOk : C :=
 .seq (
 .reg [⟨some 70, none, .bin .lss (.t 69) (.t 68)⟩]) (
 .seq (
 .cond (.t 70) (
 .skip) (
 .exit 2)) (
 .seq (
 .block 3 (
 .seq (
 .reg [⟨some 71, none, .mv (.t 69)⟩,
 ⟨some 72, none, .idx 1 (.t 67) (.t 69)⟩,
 ⟨some 73, none, .ld (.t 72)⟩,
 ⟨some 7, none, .mv (.t 71)⟩,
 ⟨some 8, none, .mv (.t 73)⟩]) (
 .seq (
 .reg [⟨some 74, none, .fld 3 (.t 2)⟩,
 ⟨some 75, none, .ld (.t 74)⟩,
 ⟨some 76, none, .mv (.t 8)⟩,
 ⟨some 77, none, .call 95 [(.t 75), (.t 76)]⟩,
 ⟨some 78, none, .bin .eql (.t 77) (.c (.d (.int 0)))⟩,
 ⟨some 79, none, .mv (.t 78)⟩,
 ⟨some 80, some (79, false), .mv (.t 7)⟩,
 ⟨some 81, some (79, false), .bin .gtr (.t 80) (.c (.d (.int 0)))⟩,
 ⟨some 82, some (79, false), .mv (.t 81)⟩,
 ⟨some 83, some (82, true), .mv (.t 6)⟩,
 ⟨some 84, some (82, true), .mv (.t 7)⟩,
 ⟨some 85, some (82, true), .bin .sub (.t 84) (.c (.d (.int 1)))⟩,
 ⟨some 86, some (82, true), .idx 1 (.t 83) (.t 85)⟩,
 ⟨some 87, some (82, true), .ld (.t 86)⟩,
 ⟨some 88, some (82, true), .mv (.t 8)⟩,
 ⟨some 89, some (82, true), .bin .geq (.t 87) (.t 88)⟩,
 ⟨some 90, some (79, false), .pick (.t 82) (.t 89) (.c (.d (.bool false)))⟩,
 ⟨some 91, none, .pick (.t 79) (.c (.d (.bool true))) (.t 90)⟩]) (
 .cond (.t 91) (
 .seq (
 .reg [⟨some 4, none, .mv (.c (.d (.bool false)))⟩]) (
 .ret)) (
 .skip))))) (
 .reg [⟨some 92, none, .bin .add (.t 69) (.c (.d (.int 1)))⟩,
 ⟨some 69, none, .mv (.t 92)⟩])))

def L4_spec_DecompositionOk : C :=
 .seq (
 .reg [⟨some 39, none, .bin .lss (.t 38) (.t 37)⟩]) (
 .seq (
 .cond (.t 39) (
 .skip) (
 .exit 0)) (
 .seq (
 .block 1 (
 .seq (
 .reg [⟨some 40, none, .mv (.t 38)⟩,
 ⟨some 41, none, .idx 1 (.t 36) (.t 38)⟩,
 ⟨some 42, none, .ld (.t 41)⟩,
 ⟨some 5, none, .mv (.t 40)⟩,
 ⟨some 6, none, .mv (.t 42)⟩]) (
 .seq (
 .seq (
 .reg [⟨some 43, none, .mv (.t 5)⟩,
 ⟨some 44, none, .bin .eql (.t 43) (.c (.d (.int 0)))⟩,
 ⟨some 45, none, .mv (.t 44)⟩,
 ⟨some 46, some (45, true), .fld 1 (.t 3)⟩,
 ⟨some 47, some (45, true), .ld (.t 46)⟩,
 ⟨some 48, some (45, true), .idx 1 (.t 47) (.c (.d (.int 0)))⟩,
 ⟨some 49, some (45, true), .ld (.t 48)⟩,
 ⟨some 50, some (45, true), .bin .neq (.t 49) (.c (.d (.int (-1))))⟩,
 ⟨some 51, none, .pick (.t 45) (.t 50) (.c (.d (.bool false)))⟩,
 ⟨some 52, none, .mv (.t 51)⟩,
 ⟨some 53, some (52, false), .mv (.t 5)⟩,
 ⟨some 54, some (52, false), .bin .gtr (.t 53) (.c (.d (.int 0)))⟩,
 ⟨some 55, some (52, false), .mv (.t 54)⟩,
 ⟨some 56, some (55, true), .fld 1 (.t 3)⟩,
 ⟨some 57, some (55, true), .ld (.t 56)⟩,
 ⟨some 58, some (55, true), .mv (.t 5)⟩,
 ⟨some 59, some (55, true), .idx 1 (.t 57) (.t 58)⟩,
 ⟨some 60, some (55, true), .ld (.t 59)⟩,
 ⟨some 61, some (55, true), .mv (.t 5)⟩,
 ⟨some 62, some (55, true), .bin .sub (.t 61) (.c (.d (.int 1)))⟩,
 ⟨some 63, some (55, true), .call 62 [(.t 60), (.c (.d (.int 0))), (.t 62)]⟩,
 ⟨some 64, some (55, true), .not (.t 63)⟩,
 ⟨some 65, some (52, false), .pick (.t 55) (.t 64) (.c (.d (.bool false)))⟩,
 ⟨some 66, none, .pick (.t 52) (.c (.d (.bool true))) (.t 65)⟩]) (
 .cond (.t 66) (
 .seq (
 .reg [⟨some 4, none, .mv (.c (.d (.bool false)))⟩]) (
 .ret)) (
 .skip))) (
 .seq (
 .reg [⟨some 67, none, .mv (.t 6)⟩,
 ⟨some 68, none, .len (.t 67)⟩,
 ⟨some 69, none, .mv (.c (.d (.int 0)))⟩]) (
 .block 2 (
 .loop L3_spec_DecompositionOk)))))) (
 .reg [⟨some 93, none, .bin .add (.t 38) (.c (.d (.int 1)))⟩,
 ⟨some 38, none, .mv (.t 93)⟩])))

def C_spec_DecompositionOk : Fun := ⟨2, 158,
 .seq (
 .reg [⟨some 2, none, .box (.t 0)⟩,
 ⟨some 3, none, .box (.t 1)⟩,
 ⟨some 4, none, .mv (.c (.d (.bool false)))⟩]) (
 .seq (
 .seq (
 .reg [⟨some 16, none, .ldn 5 (.t 2)⟩,
 ⟨some 17, none, .call 61 [(.t 16)]⟩,
 ⟨some 18, none, .not (.t 17)⟩,
 ⟨some 19, none, .mv (.t 18)⟩,
 ⟨some 20, some (19, false), .fld 0 (.t 3)⟩,
 ⟨some 21, some (19, false), .ld (.t 20)⟩,
 ⟨some 22, some (19, false), .len (.t 21)⟩,
 ⟨some 23, some (19, false), .call 62 [(.t 22), (.c (.d (.int 1))), (.c (.d (.int 40)))]⟩,
 ⟨some 24, some (19, false), .not (.t 23)⟩,
 ⟨some 25, none, .pick (.t 19) (.c (.d (.bool true))) (.t 24)⟩,
 ⟨some 26, none, .mv (.t 25)⟩,
 ⟨some 27, some (26, false), .fld 1 (.t 3)⟩,
 ⟨some 28, some (26, false), .ld (.t 27)⟩,
 ⟨some 29, some (26, false), .len (.t 28)⟩,
 ⟨some 30, some (26, false), .fld 0 (.t 3)⟩,
 ⟨some 31, some (26, false), .ld (.t 30)⟩,
 ⟨some 32, some (26, false), .len (.t 31)⟩,
 ⟨some 33, some (26, false), .bin .neq (.t 29) (.t 32)⟩,
 ⟨some 34, none, .pick (.t 26) (.c (.d (.bool true))) (.t 33)⟩]) (
 .cond (.t 34) (
 .seq (
 .reg [⟨some 4, none, .mv (.c (.d (.bool false)))⟩]) (
 .ret)) (
 .skip))) (
 .seq (
 .seq (
 .reg [⟨some 35, none, .fld 0 (.t 3)⟩,
 ⟨some 36, none, .ld (.t 35)⟩,
 ⟨some 37, none, .len (.t 36)⟩,
 ⟨some 38, none, .mv (.c (.d (.int 0)))⟩]) (
 .block 0 (
 .loop L4_spec_DecompositionOk))) (
 .seq (
 .seq (
 .reg [⟨some 94, none, .fld 3 (.t 2)⟩,
 ⟨some 95, none, .ld (.t 94)⟩,
 ⟨some 96, none, .len (.t 95)⟩,
 ⟨some 97, none, .mv (.c (.d (.int 0)))⟩]) (
 .block 4 (
 .loop L2_spec_DecompositionOk))) (
 .seq (
 .seq (
 .reg [⟨some 107, none, .fld 3 (.t 2)⟩,
 ⟨some 108, none, .ld (.t 107)⟩,
 ⟨some 109, none, .call 76 [(.t 108)]⟩,
 ⟨some 110, none, .len (.t 109)⟩,
 ⟨some 111, none, .mv (.c (.d (.int 0)))⟩]) (
 .block 6 (
 .loop L1_spec_DecompositionOk))) (
 .seq (
 .draw [⟨some 151, none, .fld 4 (.t 2)⟩,
 ⟨some 152, none, .ld (.t 151)⟩,
 ⟨some 153, none, .fld 0 (.t 3)⟩,
 ⟨some 154, none, .ld (.t 153)⟩,
 ⟨some 155, none, .idx 1 (.t 154) (.c (.d (.int 0)))⟩,
 ⟨some 156, none, .ld (.t 155)⟩]
 [⟨some 157, none, .call 97 [(.t 152), (.t 156)]⟩,
 ⟨some 4, none, .mv (.t 157)⟩]) (
 .ret)))))),
 [.t 4]⟩

theorem k_spec_DecompositionOk : cFun Try.prog Try.f39 = some C_spec_DecompositionOk.erase := by kernel_rfl

def C_laws_toDecomposition : Fun := ⟨1, 13,
 .seq (
 .reg [⟨some 1, none, .box (.t 0)⟩,
 ⟨some 2, none, .zer [.nil, .nil]⟩]) (
 .seq (
 .reg [⟨some 3, none, .zer [.nil, .nil]⟩]) (
 .seq (
 .reg [⟨some 4, none, .fld 0 (.t 1)⟩,
 ⟨some 5, none, .ld (.t 4)⟩,
 ⟨some 6, none, .call 98 [(.t 5)]⟩,
 ⟨some 7, none, .fld 0 (.t 3)⟩,
 ⟨none, none, .st 1 (.t 7) (.t 6)⟩]) (
 .seq (
 .reg [⟨some 8, none, .fld 1 (.t 1)⟩,
 ⟨some 9, none, .ld (.t 8)⟩,
 ⟨some 10, none, .call 17 [(.t 9)]⟩,
 ⟨some 11, none, .fld 1 (.t 3)⟩,
 ⟨none, none, .st 1 (.t 11) (.t 10)⟩]) (
 .seq (
 .reg [⟨some 12, none, .ldn 2 (.t 3)⟩,
 ⟨none, none, .st 2 (.t 2) (.t 12)⟩]) (
 .ret))))),
 [.cell 2 2]⟩

theorem k_laws_toDecomposition : cFun Try.prog Try.f40 = some C_laws_toDecomposition.erase := by kernel_rfl

def L0_impl_DecompositionOk : C :=
 .seq (
 .reg [⟨some 55, none, .bin .lss (.t 54) (.t 53)⟩]) (
 .seq (
 .cond (.t 55) (
 .skip) (
 .exit 4)) (
 .seq (
 .block 5 (
 .seq (
 .reg [⟨some 56, none, .mv (.t 54)⟩,
 ⟨some 57, none, .idx 1 (.t 52) (.t 54)⟩,
 ⟨some 58, none, .ld (.t 57)⟩,
 ⟨some 10, none, .mv (.t 56)⟩,
 ⟨some 11, none, .mv (.t 58)⟩]) (
 .seq (
 .draw [⟨some 59, none, .mv (.t 11)⟩,
 ⟨some 60, none, .mv (.t 8)⟩,
 ⟨some 61, none, .call 67 [(.t 59), (.t 60)]⟩,
 ⟨some 62, none, .mv (.t 61)⟩,
 ⟨some 63, some (62, true), .mv (.t 10)⟩,
 ⟨some 64, some (62, true), .bin .eql (.t 63) (.c (.d (.int 0)))⟩,
 ⟨some 65, some (62, true), .mv (.t 64)⟩,
 ⟨some 66, some (65, false), .fld 0 (.t 3)⟩,
 ⟨some 67, some (65, false), .ld (.t 66)⟩,
 ⟨some 68, some (65, false), .fld 1 (.t 3)⟩,
 ⟨some 69, some (65, false), .ld (.t 68)⟩,
 ⟨some 70, some (65, false), .mv (.t 10)⟩,
 ⟨some 71, some (65, false), .idx 1 (.t 69) (.t 70)⟩,
 ⟨some 72, some (65, false), .ld (.t 71)⟩,
 ⟨some 73, some (65, false), .idx 1 (.t 67) (.t 72)⟩,
 ⟨some 74, some (65, false), .ld (.t 73)⟩,
 ⟨some 75, some (65, false), .mv (.t 8)⟩]
 [⟨some 76, some (65, false), .call 67 [(.t 74), (.t 75)]⟩,
 ⟨some 77, some (65, false), .not (.t 76)⟩,
 ⟨some 78, some (62, true), .pick (.t 65) (.c (.d (.bool true))) (.t 77)⟩,
 ⟨some 79, none, .pick (.t 62) (.t 78) (.c (.d (.bool false)))⟩]) (
 .cond (.t 79) (
 .reg [⟨some 80, none, .mv (.t 9)⟩,
 ⟨some 81, none, .bin .add (.t 80) (.c (.d (.int 1)))⟩,
 ⟨some 9, none, .mv (.t 81)⟩]) (
 .skip))))) (
 .reg [⟨some 82, none, .bin .add (.t 54) (.c (.d (.int 1)))⟩,
 ⟨some 54, none, .mv (.t 82)⟩])))

def L1_impl_DecompositionOk : C :=
 .seq (
 .reg [⟨some 48, none, .bin .lss (.t 47) (.t 46)⟩]) (
 .seq (
 .cond (.t 48) (
 .skip) (
 .exit 2)) (
 .seq (
 .block 3 (
 .seq (
 .reg [⟨some 49, none, .idx 1 (.t 45) (.t 47)⟩,
 ⟨some 50, none, .ld (.t 49)⟩,
 ⟨some 8, none, .mv (.t 50)⟩]) (
 .seq (
 .reg [⟨some 9, none, .mv (.c (.d (.int 0)))⟩]) (
 .seq (
 .seq (
 .reg [⟨some 51, none, .fld 0 (.t 3)⟩,
 ⟨some 52, none, .ld (.t 51)⟩,
 ⟨some 53, none, .len (.t 52)⟩,
 ⟨some 54, none, .mv (.c (.d (.int 0)))⟩]) (
 .block 4 (
 .loop L0_impl_DecompositionOk))) (
 .seq (
 .reg [⟨some 83, none, .mv (.t 9)⟩,
 ⟨some 84, none, .bin .neq (.t 83) (.c (.d (.int 1)))⟩]) (
 .cond (.t 84) (
 .seq (
 .reg [⟨some 4, none, .mv (.c (.d (.bool false)))⟩]) (
 .ret)) (
 .skip))))))) (
 .reg [⟨some 85, none, .bin .add (.t 47) (.c (.d (.int 1)))⟩,
 ⟨some 47, none, .mv (.t 85)⟩])))

def L2_impl_DecompositionOk : C :=
 .seq (
 .reg [⟨some 35, none, .bin .lss (.t 34) (.t 33)⟩]) (
 .seq (
 .cond (.t 35) (
 .skip) (
 .exit 0)) (
 .seq (
 .block 1 (
 .seq (
 .reg [⟨some 36, none, .idx 3 (.t 32) (.t 34)⟩,
 ⟨some 37, none, .ldn 3 (.t 36)⟩,
 ⟨some 6, none, .zer [.nil, .nil, .nil]⟩,
 ⟨none, none, .st 3 (.t 6) (.t 37)⟩]) (
 .seq (
 .reg [⟨some 38, none, .ldn 2 (.t 3)⟩,
 ⟨some 39, none, .fld 0 (.t 6)⟩,
 ⟨some 40, none, .ld (.t 39)⟩,
 ⟨some 41, none, .call 101 [(.t 38), (.t 40)]⟩,
 ⟨some 42, none, .bin .lss (.t 41) (.c (.d (.int 0)))⟩]) (
 .cond (.t 42) (
 .seq (
 .reg [⟨some 4, none, .mv (.c (.d (.bool false)))⟩]) (
 .ret)) (
 .skip))))) (
 .reg [⟨some 43, none, .bin .add (.t 34) (.c (.d (.int 1)))⟩,
 ⟨some 34, none, .mv (.t 43)⟩])))

def C_impl_DecompositionOk : Fun := ⟨2, 86,
 .seq (
 .reg [⟨some 2, none, .box (.t 0)⟩,
 ⟨some 3, none, .box (.t 1)⟩,
 ⟨some 4, none, .mv (.c (.d (.bool false)))⟩]) (
 .seq (
 .seq (
 .draw [⟨some 12, none, .ldn 5 (.t 2)⟩,
 ⟨some 13, none, .call 66 [(.t 12)]⟩,
 ⟨some 14, none, .not (.t 13)⟩,
 ⟨some 15, none, .mv (.t 14)⟩,
 ⟨some 16, some (15, false), .ldn 5 (.t 2)⟩,
 ⟨some 17, some (15, false), .ldn 2 (.t 3)⟩,
 ⟨some 18, some (15, false), .call 99 [(.t 16), (.t 17)]⟩,
 ⟨some 19, some (15, false), .not (.t 18)⟩,
 ⟨some 20, none, .pick (.t 15) (.c (.d (.bool true))) (.t 19)⟩,
 ⟨some 21, none, .mv (.t 20)⟩,
 ⟨some 22, some (21, false), .fld 4 (.t 2)⟩,
 ⟨some 23, some (21, false), .ld (.t 22)⟩,
 ⟨some 24, some (21, false), .fld 0 (.t 3)⟩,
 ⟨some 25, some (21, false), .ld (.t 24)⟩,
 ⟨some 26, some (21, false), .idx 1 (.t 25) (.c (.d (.int 0)))⟩,
 ⟨some 27, some (21, false), .ld (.t 26)⟩]
 [⟨some 28, some (21, false), .call 100 [(.t 23), (.t 27)]⟩,
 ⟨some 29, some (21, false), .not (.t 28)⟩,
 ⟨some 30, none, .pick (.t 21) (.c (.d (.bool true))) (.t 29)⟩]) (
 .cond (.t 30) (
 .seq (
 .reg [⟨some 4, none, .mv (.c (.d (.bool false)))⟩]) (
 .ret)) (
 .skip))) (
 .seq (
 .seq (
 .reg [⟨some 31, none, .fld 3 (.t 2)⟩,
 ⟨some 32, none, .ld (.t 31)⟩,
 ⟨some 33, none, .len (.t 32)⟩,
 ⟨some 34, none, .mv (.c (.d (.int 0)))⟩]) (
 .block 0 (
 .loop L2_impl_DecompositionOk))) (
 .seq (
 .seq (
 .reg [⟨some 44, none, .ldn 5 (.t 2)⟩,
 ⟨some 45, none, .call 79 [(.t 44)]⟩,
 ⟨some 46, none, .len (.t 45)⟩,
 ⟨some 47, none, .mv (.c (.d (.int 0)))⟩]) (
 .block 2 (
 .loop L1_impl_DecompositionOk))) (
 .seq (
 .reg [⟨some 4, none, .mv (.c (.d (.bool true)))⟩]) (
 .ret))))),
 [.t 4]⟩

theorem k_impl_DecompositionOk : cFun Try.prog Try.f41 = some C_impl_DecompositionOk.erase := by kernel_rfl

def C_laws_eqDecomposition : Fun := ⟨2, 17,
 .seq (
 .reg [⟨some 2, none, .box (.t 0)⟩,
 ⟨some 3, none, .box (.t 1)⟩,
 ⟨some 4, none, .mv (.c (.d (.bool false)))⟩]) (
 .seq (
 .seq (
 .reg [⟨some 5, none, .fld 0 (.t 2)⟩,
 ⟨some 6, none, .ld (.t 5)⟩,
 ⟨some 7, none, .fld 0 (.t 3)⟩,
 ⟨some 8, none, .ld (.t 7)⟩,
 ⟨some 9, none, .call 102 [(.t 6), (.t 8)]⟩,
 ⟨some 10, none, .not (.t 9)⟩]) (
 .cond (.t 10) (
 .seq (
 .reg [⟨some 4, none, .mv (.c (.d (.bool false)))⟩]) (
 .ret)) (
 .skip))) (
 .seq (
 .seq (
 .reg [⟨some 11, none, .fld 1 (.t 2)⟩,
 ⟨some 12, none, .ld (.t 11)⟩,
 ⟨some 13, none, .fld 1 (.t 3)⟩,
 ⟨some 14, none, .ld (.t 13)⟩,
 ⟨some 15, none, .call 20 [(.t 12), (.t 14)]⟩,
 ⟨some 16, none, .not (.t 15)⟩]) (
 .cond (.t 16) (
 .seq (
 .reg [⟨some 4, none, .mv (.c (.d (.bool false)))⟩]) (
 .ret)) (
 .skip))) (
 .seq (
 .reg [⟨some 4, none, .mv (.c (.d (.bool true)))⟩]) (
 .ret)))),
 [.t 4]⟩

theorem k_laws_eqDecomposition : cFun Try.prog Try.f42 = some C_laws_eqDecomposition.erase := by kernel_rfl

def L0_laws_szIntSS : C :=
 .seq (
 .seq (
 .reg [⟨some 12, none, .mv (.t 5)⟩,
 ⟨some 13, none, .mv (.t 0)⟩,
 ⟨some 14, none, .len (.t 13)⟩,
 ⟨some 15, none, .bin .lss (.t 12) (.t 14)⟩]) (
 .cond (.t 15) (
 .skip) (
 .exit 0))) (
 .seq (
 .block 1 (
 .seq (
 .reg [⟨some 18, none, .mv (.t 0)⟩,
 ⟨some 19, none, .mv (.t 5)⟩,
 ⟨some 20, none, .idx 1 (.t 18) (.t 19)⟩,
 ⟨some 21, none, .ld (.t 20)⟩,
 ⟨some 22, none, .mv (.t 1)⟩,
 ⟨some 23, none, .call 60 [(.t 21), (.t 22)]⟩,
 ⟨some 1, none, .mv (.t 23)⟩]) (
 .seq (
 .reg [⟨some 24, none, .mv (.t 1)⟩,
 ⟨some 25, none, .bin .lss (.t 24) (.c (.d (.int 0)))⟩]) (
 .cond (.t 25) (
 .seq (
 .reg [⟨some 4, none, .mv (.c (.d (.int (-1))))⟩]) (
 .ret)) (
 .skip))))) (
 .reg [⟨some 16, none, .mv (.t 5)⟩,
 ⟨some 17, none, .bin .add (.t 16) (.c (.d (.int 1)))⟩,
 ⟨some 5, none, .mv (.t 17)⟩]))

def C_laws_szIntSS : Fun := ⟨2, 27,
 .seq (
 .reg [⟨some 4, none, .mv (.c (.d (.int 0)))⟩]) (
 .seq (
 .reg [⟨some 6, none, .mv (.t 1)⟩,
 ⟨some 7, none, .mv (.t 0)⟩,
 ⟨some 8, none, .len (.t 7)⟩,
 ⟨some 9, none, .bin .sub (.t 6) (.t 8)⟩,
 ⟨some 1, none, .mv (.t 9)⟩]) (
 .seq (
 .seq (
 .reg [⟨some 10, none, .mv (.t 1)⟩,
 ⟨some 11, none, .bin .lss (.t 10) (.c (.d (.int 0)))⟩]) (
 .cond (.t 11) (
 .seq (
 .reg [⟨some 4, none, .mv (.c (.d (.int (-1))))⟩]) (
 .ret)) (
 .skip))) (
 .seq (
 .seq (
 .reg [⟨some 5, none, .mv (.c (.d (.int 0)))⟩]) (
 .block 0 (
 .loop L0_laws_szIntSS))) (
 .seq (
 .reg [⟨some 26, none, .mv (.t 1)⟩,
 ⟨some 4, none, .mv (.t 26)⟩]) (
 .ret))))),
 [.t 4]⟩

theorem k_laws_szIntSS : cFun Try.prog Try.f94 = some C_laws_szIntSS.erase := by kernel_rfl

def L0_spec_l22Bag : C :=
 .seq (
 .reg [⟨some 11, none, .bin .lss (.t 10) (.t 9)⟩]) (
 .seq (
 .cond (.t 11) (
 .skip) (
 .exit 0)) (
 .seq (
 .block 1 (
 .seq (
 .reg [⟨some 12, none, .mv (.t 10)⟩,
 ⟨some 13, none, .idx 1 (.t 8) (.t 10)⟩,
 ⟨some 14, none, .ld (.t 13)⟩,
 ⟨some 5, none, .mv (.t 12)⟩,
 ⟨some 6, none, .mv (.t 14)⟩]) (
 .seq (
 .reg [⟨some 15, none, .mv (.t 1)⟩,
 ⟨some 16, none, .mv (.t 6)⟩,
 ⟨some 17, none, .call 97 [(.t 15), (.t 16)]⟩]) (
 .cond (.t 17) (
 .seq (
 .reg [⟨some 18, none, .mv (.t 5)⟩,
 ⟨some 4, none, .mv (.t 18)⟩]) (
 .ret)) (
 .skip))))) (
 .reg [⟨some 19, none, .bin .add (.t 10) (.c (.d (.int 1)))⟩,
 ⟨some 10, none, .mv (.t 19)⟩])))

def C_spec_l22Bag : Fun := ⟨2, 20,
 .seq (
 .reg [⟨some 2, none, .box (.t 0)⟩,
 ⟨some 4, none, .mv (.c (.d (.int 0)))⟩]) (
 .seq (
 .seq (
 .reg [⟨some 7, none, .fld 0 (.t 2)⟩,
 ⟨some 8, none, .ld (.t 7)⟩,
 ⟨some 9, none, .len (.t 8)⟩,
 ⟨some 10, none, .mv (.c (.d (.int 0)))⟩]) (
 .block 0 (
 .loop L0_spec_l22Bag))) (
 .seq (
 .reg [⟨some 4, none, .mv (.c (.d (.int (-1))))⟩]) (
 .ret))),
 [.t 4]⟩

theorem k_spec_l22Bag : cFun Try.prog Try.f96 = some C_spec_l22Bag.erase := by kernel_rfl

def L0_spec_l22Within : C :=
 .seq (
 .reg [⟨some 10, none, .bin .lss (.t 9) (.t 8)⟩]) (
 .seq (
 .cond (.t 10) (
 .skip) (
 .exit 0)) (
 .seq (
 .block 1 (
 .seq (
 .reg [⟨some 11, none, .idx 1 (.t 7) (.t 9)⟩,
 ⟨some 12, none, .ld (.t 11)⟩,
 ⟨some 6, none, .mv (.t 12)⟩]) (
 .seq (
 .reg [⟨some 13, none, .mv (.t 1)⟩,
 ⟨some 14, none, .mv (.t 6)⟩,
 ⟨some 15, none, .call 63 [(.t 13), (.t 14)]⟩,
 ⟨some 16, none, .bin .lss (.t 15) (.c (.d (.int 0)))⟩]) (
 .cond (.t 16) (
 .seq (
 .reg [⟨some 4, none, .mv (.c (.d (.bool false)))⟩]) (
 .ret)) (
 .skip))))) (
 .reg [⟨some 17, none, .bin .add (.t 9) (.c (.d (.int 1)))⟩,
 ⟨some 9, none, .mv (.t 17)⟩])))

def C_spec_l22Within : Fun := ⟨2, 18,
 .seq (
 .reg [⟨some 4, none, .mv (.c (.d (.bool false)))⟩]) (
 .seq (
 .seq (
 .reg [⟨some 7, none, .mv (.t 0)⟩,
 ⟨some 8, none, .len (.t 7)⟩,
 ⟨some 9, none, .mv (.c (.d (.int 0)))⟩]) (
 .block 0 (
 .loop L0_spec_l22Within))) (
 .seq (
 .reg [⟨some 4, none, .mv (.c (.d (.bool true)))⟩]) (
 .ret))),
 [.t 4]⟩

theorem k_spec_l22Within : cFun Try.prog Try.f97 = some C_spec_l22Within.erase := by kernel_rfl

def L0_laws_toIntSS : C :=
 .seq (
 .seq (
 .reg [⟨some 8, none, .mv (.t 4)⟩,
 ⟨some 9, none, .mv (.t 0)⟩,
 ⟨some 10, none, .len (.t 9)⟩,
 ⟨some 11, none, .bin .lss (.t 8) (.t 10)⟩]) (
 .cond (.t 11) (
 .skip) (
 .exit 0))) (
 .seq (
 .block 1 (
 .reg [⟨some 14, none, .mv (.t 3)⟩,
 ⟨some 15, none, .mv (.t 4)⟩,
 ⟨some 16, none, .mv (.t 0)⟩,
 ⟨some 17, none, .mv (.t 4)⟩,
 ⟨some 18, none, .idx 1 (.t 16) (.t 17)⟩,
 ⟨some 19, none, .ld (.t 18)⟩,
 ⟨some 20, none, .call 17 [(.t 19)]⟩,
 ⟨some 21, none, .idx 1 (.t 14) (.t 15)⟩,
 ⟨none, none, .st 1 (.t 21) (.t 20)⟩])) (
 .reg [⟨some 12, none, .mv (.t 4)⟩,
 ⟨some 13, none, .bin .add (.t 12) (.c (.d (.int 1)))⟩,
 ⟨some 4, none, .mv (.t 13)⟩]))

def C_laws_toIntSS : Fun := ⟨1, 23,
 .seq (
 .reg [⟨some 2, none, .mv (.c (.nil))⟩]) (
 .seq (
 .reg [⟨some 5, none, .mv (.t 0)⟩,
 ⟨some 6, none, .len (.t 5)⟩,
 ⟨some 7, none, .make 1 24 [.nil] (.t 6) (.t 6)⟩,
 ⟨some 3, none, .mv (.t 7)⟩]) (
 .seq (
 .seq (
 .reg [⟨some 4, none, .mv (.c (.d (.int 0)))⟩]) (
 .block 0 (
 .loop L0_laws_toIntSS))) (
 .seq (
 .reg [⟨some 22, none, .mv (.t 3)⟩,
 ⟨some 2, none, .mv (.t 22)⟩]) (
 .ret)))),
 [.t 2]⟩

theorem k_laws_toIntSS : cFun Try.prog Try.f98 = some C_laws_toIntSS.erase := by kernel_rfl

def L0_impl_bagsOk : C :=
 .seq (
 .reg [⟨some 68, none, .bin .lss (.t 67) (.t 66)⟩]) (
 .seq (
 .cond (.t 68) (
 .skip) (
 .exit 2)) (
 .seq (
 .block 3 (
 .seq (
 .reg [⟨some 69, none, .mv (.t 67)⟩,
 ⟨some 70, none, .idx 1 (.t 65) (.t 67)⟩,
 ⟨some 71, none, .ld (.t 70)⟩,
 ⟨some 8, none, .mv (.t 69)⟩,
 ⟨some 9, none, .mv (.t 71)⟩]) (
 .seq (
 .reg [⟨some 72, none, .mv (.t 5)⟩,
 ⟨some 73, none, .mv (.t 9)⟩,
 ⟨some 74, none, .call 67 [(.t 72), (.t 73)]⟩,
 ⟨some 75, none, .not (.t 74)⟩,
 ⟨some 76, none, .mv (.t 75)⟩,
 ⟨some 77, some (76, false), .mv (.t 8)⟩,
 ⟨some 78, some (76, false), .bin .gtr (.t 77) (.c (.d (.int 0)))⟩,
 ⟨some 79, some (76, false), .mv (.t 78)⟩,
 ⟨some 80, some (79, true), .mv (.t 7)⟩,
 ⟨some 81, some (79, true), .mv (.t 8)⟩,
 ⟨some 82, some (79, true), .bin .sub (.t 81) (.c (.d (.int 1)))⟩,
 ⟨some 83, some (79, true), .idx 1 (.t 80) (.t 82)⟩,
 ⟨some 84, some (79, true), .ld (.t 83)⟩,
 ⟨some 85, some (79, true), .mv (.t 9)⟩,
 ⟨some 86, some (79, true), .bin .geq (.t 84) (.t 85)⟩,
 ⟨some 87, some (76, false), .pick (.t 79) (.t 86) (.c (.d (.bool false)))⟩,
 ⟨some 88, none, .pick (.t 76) (.c (.d (.bool true))) (.t 87)⟩]) (
 .cond (.t 88) (
 .seq (
 .reg [⟨some 4, none, .mv (.c (.d (.bool false)))⟩]) (
 .ret)) (
 .skip))))) (
 .reg [⟨some 89, none, .bin .add (.t 67) (.c (.d (.int 1)))⟩,
 ⟨some 67, none, .mv (.t 89)⟩])))

def L1_impl_bagsOk : C :=
 .seq (
 .reg [⟨some 42, none, .bin .lss (.t 41) (.t 40)⟩]) (
 .seq (
 .cond (.t 42) (
 .skip) (
 .exit 0)) (
 .seq (
 .block 1 (
 .seq (
 .reg [⟨some 43, none, .mv (.t 41)⟩,
 ⟨some 44, none, .idx 1 (.t 39) (.t 41)⟩,
 ⟨some 45, none, .ld (.t 44)⟩,
 ⟨some 6, none, .mv (.t 43)⟩,
 ⟨some 7, none, .mv (.t 45)⟩]) (
 .seq (
 .seq (
 .reg [⟨some 46, none, .mv (.t 6)⟩,
 ⟨some 47, none, .bin .gtr (.t 46) (.c (.d (.int 0)))⟩,
 ⟨some 48, none, .mv (.t 47)⟩,
 ⟨some 49, some (48, true), .fld 1 (.t 3)⟩,
 ⟨some 50, some (48, true), .ld (.t 49)⟩,
 ⟨some 51, some (48, true), .mv (.t 6)⟩,
 ⟨some 52, some (48, true), .idx 1 (.t 50) (.t 51)⟩,
 ⟨some 53, some (48, true), .ld (.t 52)⟩,
 ⟨some 54, some (48, true), .bin .lss (.t 53) (.c (.d (.int 0)))⟩,
 ⟨some 55, some (48, true), .mv (.t 54)⟩,
 ⟨some 56, some (55, false), .fld 1 (.t 3)⟩,
 ⟨some 57, some (55, false), .ld (.t 56)⟩,
 ⟨some 58, some (55, false), .mv (.t 6)⟩,
 ⟨some 59, some (55, false), .idx 1 (.t 57) (.t 58)⟩,
 ⟨some 60, some (55, false), .ld (.t 59)⟩,
 ⟨some 61, some (55, false), .mv (.t 6)⟩,
 ⟨some 62, some (55, false), .bin .geq (.t 60) (.t 61)⟩,
 ⟨some 63, some (48, true), .pick (.t 55) (.c (.d (.bool true))) (.t 62)⟩,
 ⟨some 64, none, .pick (.t 48) (.t 63) (.c (.d (.bool false)))⟩]) (
 .cond (.t 64) (
 .seq (
 .reg [⟨some 4, none, .mv (.c (.d (.bool false)))⟩]) (
 .ret)) (
 .skip))) (
 .seq (
 .reg [⟨some 65, none, .mv (.t 7)⟩,
 ⟨some 66, none, .len (.t 65)⟩,
 ⟨some 67, none, .mv (.c (.d (.int 0)))⟩]) (
 .block 2 (
 .loop L0_impl_bagsOk)))))) (
 .reg [⟨some 90, none, .bin .add (.t 41) (.c (.d (.int 1)))⟩,
 ⟨some 41, none, .mv (.t 90)⟩])))

def C_impl_bagsOk : Fun := ⟨2, 91,
 .seq (
 .reg [⟨some 2, none, .box (.t 0)⟩,
 ⟨some 3, none, .box (.t 1)⟩,
 ⟨some 4, none, .mv (.c (.d (.bool false)))⟩]) (
 .seq (
 .seq (
 .reg [⟨some 10, none, .fld 0 (.t 3)⟩,
 ⟨some 11, none, .ld (.t 10)⟩,
 ⟨some 12, none, .len (.t 11)⟩,
 ⟨some 13, none, .bin .lss (.t 12) (.c (.d (.int 1)))⟩,
 ⟨some 14, none, .mv (.t 13)⟩,
 ⟨some 15, some (14, false), .fld 0 (.t 3)⟩,
 ⟨some 16, some (14, false), .ld (.t 15)⟩,
 ⟨some 17, some (14, false), .len (.t 16)⟩,
 ⟨some 18, some (14, false), .bin .gtr (.t 17) (.c (.d (.int 40)))⟩,
 ⟨some 19, none, .pick (.t 14) (.c (.d (.bool true))) (.t 18)⟩,
 ⟨some 20, none, .mv (.t 19)⟩,
 ⟨some 21, some (20, false), .fld 1 (.t 3)⟩,
 ⟨some 22, some (20, false), .ld (.t 21)⟩,
 ⟨some 23, some (20, false), .len (.t 22)⟩,
 ⟨some 24, some (20, false), .fld 0 (.t 3)⟩,
 ⟨some 25, some (20, false), .ld (.t 24)⟩,
 ⟨some 26, some (20, false), .len (.t 25)⟩,
 ⟨some 27, some (20, false), .bin .neq (.t 23) (.t 26)⟩,
 ⟨some 28, none, .pick (.t 20) (.c (.d (.bool true))) (.t 27)⟩,
 ⟨some 29, none, .mv (.t 28)⟩,
 ⟨some 30, some (29, false), .fld 1 (.t 3)⟩,
 ⟨some 31, some (29, false), .ld (.t 30)⟩,
 ⟨some 32, some (29, false), .idx 1 (.t 31) (.c (.d (.int 0)))⟩,
 ⟨some 33, some (29, false), .ld (.t 32)⟩,
 ⟨some 34, some (29, false), .bin .neq (.t 33) (.c (.d (.int (-1))))⟩,
 ⟨some 35, none, .pick (.t 29) (.c (.d (.bool true))) (.t 34)⟩]) (
 .cond (.t 35) (
 .seq (
 .reg [⟨some 4, none, .mv (.c (.d (.bool false)))⟩]) (
 .ret)) (
 .skip))) (
 .seq (
 .reg [⟨some 36, none, .ldn 5 (.t 2)⟩,
 ⟨some 37, none, .call 79 [(.t 36)]⟩,
 ⟨some 5, none, .mv (.t 37)⟩]) (
 .seq (
 .seq (
 .reg [⟨some 38, none, .fld 0 (.t 3)⟩,
 ⟨some 39, none, .ld (.t 38)⟩,
 ⟨some 40, none, .len (.t 39)⟩,
 ⟨some 41, none, .mv (.c (.d (.int 0)))⟩]) (
 .block 0 (
 .loop L1_impl_bagsOk))) (
 .seq (
 .reg [⟨some 4, none, .mv (.c (.d (.bool true)))⟩]) (
 .ret))))),
 [.t 4]⟩

theorem k_impl_bagsOk : cFun Try.prog Try.f99 = some C_impl_bagsOk.erase := by kernel_rfl

def L0_impl_allIn : C :=
 .seq (
 .reg [⟨some 10, none, .bin .lss (.t 9) (.t 8)⟩]) (
 .seq (
 .cond (.t 10) (
 .skip) (
 .exit 0)) (
 .seq (
 .block 1 (
 .seq (
 .reg [⟨some 11, none, .idx 1 (.t 7) (.t 9)⟩,
 ⟨some 12, none, .ld (.t 11)⟩,
 ⟨some 6, none, .mv (.t 12)⟩]) (
 .seq (
 .reg [⟨some 13, none, .mv (.t 1)⟩,
 ⟨some 14, none, .mv (.t 6)⟩,
 ⟨some 15, none, .call 67 [(.t 13), (.t 14)]⟩,
 ⟨some 16, none, .not (.t 15)⟩]) (
 .cond (.t 16) (
 .seq (
 .reg [⟨some 4, none, .mv (.c (.d (.bool false)))⟩]) (
 .ret)) (
 .skip))))) (
 .reg [⟨some 17, none, .bin .add (.t 9) (.c (.d (.int 1)))⟩,
 ⟨some 9, none, .mv (.t 17)⟩])))

def C_impl_allIn : Fun := ⟨2, 18,
 .seq (
 .reg [⟨some 4, none, .mv (.c (.d (.bool false)))⟩]) (
 .seq (
 .seq (
 .reg [⟨some 7, none, .mv (.t 0)⟩,
 ⟨some 8, none, .len (.t 7)⟩,
 ⟨some 9, none, .mv (.c (.d (.int 0)))⟩]) (
 .block 0 (
 .loop L0_impl_allIn))) (
 .seq (
 .reg [⟨some 4, none, .mv (.c (.d (.bool true)))⟩]) (
 .ret))),
 [.t 4]⟩

theorem k_impl_allIn : cFun Try.prog Try.f100 = some C_impl_allIn.erase := by kernel_rfl

def L0_impl_homeBag : C :=
 .seq (
 .reg [⟨some 11, none, .bin .lss (.t 10) (.t 9)⟩]) (
 .seq (
 .cond (.t 11) (
 .skip) (
 .exit 0)) (
 .seq (
 .block 1 (
 .seq (
 .reg [⟨some 12, none, .mv (.t 10)⟩,
 ⟨some 13, none, .idx 1 (.t 8) (.t 10)⟩,
 ⟨some 14, none, .ld (.t 13)⟩,
 ⟨some 5, none, .mv (.t 12)⟩,
 ⟨some 6, none, .mv (.t 14)⟩]) (
 .seq (
 .reg [⟨some 15, none, .mv (.t 1)⟩,
 ⟨some 16, none, .mv (.t 6)⟩,
 ⟨some 17, none, .call 100 [(.t 15), (.t 16)]⟩]) (
 .cond (.t 17) (
 .seq (
 .reg [⟨some 18, none, .mv (.t 5)⟩,
 ⟨some 4, none, .mv (.t 18)⟩]) (
 .ret)) (
 .skip))))) (
 .reg [⟨some 19, none, .bin .add (.t 10) (.c (.d (.int 1)))⟩,
 ⟨some 10, none, .mv (.t 19)⟩])))

def C_impl_homeBag : Fun := ⟨2, 20,
 .seq (
 .reg [⟨some 2, none, .box (.t 0)⟩,
 ⟨some 4, none, .mv (.c (.d (.int 0)))⟩]) (
 .seq (
 .seq (
 .reg [⟨some 7, none, .fld 0 (.t 2)⟩,
 ⟨some 8, none, .ld (.t 7)⟩,
 ⟨some 9, none, .len (.t 8)⟩,
 ⟨some 10, none, .mv (.c (.d (.int 0)))⟩]) (
 .block 0 (
 .loop L0_impl_homeBag))) (
 .seq (
 .reg [⟨some 4, none, .mv (.c (.d (.int (-1))))⟩]) (
 .ret))),
 [.t 4]⟩

theorem k_impl_homeBag : cFun Try.prog Try.f101 = some C_impl_homeBag.erase := by kernel_rfl

end Go.Proofs.Ytcgnehacihjnkaa

/-
  The compiled code of functions of the seat (written by mkcode.py). No condition.
-/
namespace Go.Proofs.Ytcgnehacihjnkaa
open Go.Lift

def L0_laws_eqIntSS : C :=
 .seq (
 .seq (
 .reg [⟨some 11, none, .mv (.t 5)⟩,
 ⟨some 12, none, .mv (.t 0)⟩,
 ⟨some 13, none, .len (.t 12)⟩,
 ⟨some 14, none, .bin .lss (.t 11) (.t 13)⟩]) (
 .cond (.t 14) (
 .skip) (
 .exit 0))) (
 .seq (
 .block 1 (
 .seq (
 .draw [⟨some 17, none, .mv (.t 0)⟩,
 ⟨some 18, none, .mv (.t 5)⟩,
 ⟨some 19, none, .idx 1 (.t 17) (.t 18)⟩,
 ⟨some 20, none, .ld (.t 19)⟩,
 ⟨some 21, none, .mv (.t 1)⟩,
 ⟨some 22, none, .mv (.t 5)⟩,
 ⟨some 23, none, .idx 1 (.t 21) (.t 22)⟩,
 ⟨some 24, none, .ld (.t 23)⟩]
 [⟨some 25, none, .call 20 [(.t 20), (.t 24)]⟩,
 ⟨some 26, none, .not (.t 25)⟩]) (
 .cond (.t 26) (
 .seq (
 .reg [⟨some 4, none, .mv (.c (.d (.bool false)))⟩]) (
 .ret)) (
 .skip)))) (
 .reg [⟨some 15, none, .mv (.t 5)⟩,
 ⟨some 16, none, .bin .add (.t 15) (.c (.d (.int 1)))⟩,
 ⟨some 5, none, .mv (.t 16)⟩]))

def C_laws_eqIntSS : Fun := ⟨2, 27,
 .seq (
 .reg [⟨some 4, none, .mv (.c (.d (.bool false)))⟩]) (
 .seq (
 .seq (
 .reg [⟨some 6, none, .mv (.t 0)⟩,
 ⟨some 7, none, .len (.t 6)⟩,
 ⟨some 8, none, .mv (.t 1)⟩,
 ⟨some 9, none, .len (.t 8)⟩,
 ⟨some 10, none, .bin .neq (.t 7) (.t 9)⟩]) (
 .cond (.t 10) (
 .seq (
 .reg [⟨some 4, none, .mv (.c (.d (.bool false)))⟩]) (
 .ret)) (
 .skip))) (
 .seq (
 .seq (
 .reg [⟨some 5, none, .mv (.c (.d (.int 0)))⟩]) (
 .block 0 (
 .loop L0_laws_eqIntSS))) (
 .seq (
 .reg [⟨some 4, none, .mv (.c (.d (.bool true)))⟩]) (
 .ret)))),
 [.t 4]⟩

theorem k_laws_eqIntSS : cFun Try.prog Try.f102 = some C_laws_eqIntSS.erase := by kernel_rfl

end Go.Proofs.Ytcgnehacihjnkaa

/-
  The compiled code of functions of the seat (written by mkcode.py). No condition.
-/
namespace Go.Proofs.Ytcgnehacihjnkaa
open Go.Lift

end Go.Proofs.Ytcgnehacihjnkaa

/-
  The compiled code of functions of the seat (written by mkcode.py). No condition.
-/
namespace Go.Proofs.Ytcgnehacihjnkaa
open Go.Lift

def L0_laws_toIntS : C :=
      .seq (
      .seq (
      .reg [⟨some 8, none, .mv (.t 4)⟩,
            ⟨some 9, none, .mv (.t 0)⟩,
            ⟨some 10, none, .len (.t 9)⟩,
            ⟨some 11, none, .bin .lss (.t 8) (.t 10)⟩]) (
      .cond (.t 11) (
        .skip) (
        .exit 0))) (
      .seq (
      .block 1 (
        .reg [⟨some 14, none, .mv (.t 3)⟩,
              ⟨some 15, none, .mv (.t 4)⟩,
              ⟨some 16, none, .mv (.t 0)⟩,
              ⟨some 17, none, .mv (.t 4)⟩,
              ⟨some 18, none, .idx 1 (.t 16) (.t 17)⟩,
              ⟨some 19, none, .ld (.t 18)⟩,
              ⟨some 20, none, .idx 1 (.t 14) (.t 15)⟩,
              ⟨none, none, .st 1 (.t 20) (.t 19)⟩])) (
      .reg [⟨some 12, none, .mv (.t 4)⟩,
            ⟨some 13, none, .bin .add (.t 12) (.c (.d (.int 1)))⟩,
            ⟨some 4, none, .mv (.t 13)⟩]))

def C_laws_toIntS : Fun := ⟨1, 22,
  .seq (
  .reg [⟨some 2, none, .mv (.c (.nil))⟩]) (
  .seq (
  .reg [⟨some 5, none, .mv (.t 0)⟩,
        ⟨some 6, none, .len (.t 5)⟩,
        ⟨some 7, none, .make 1 8 [.d (.int 0)] (.t 6) (.t 6)⟩,
        ⟨some 3, none, .mv (.t 7)⟩]) (
  .seq (
  .seq (
  .reg [⟨some 4, none, .mv (.c (.d (.int 0)))⟩]) (
  .block 0 (
    .loop L0_laws_toIntS))) (
  .seq (
  .reg [⟨some 21, none, .mv (.t 3)⟩,
        ⟨some 2, none, .mv (.t 21)⟩]) (
  .ret)))),
  [.t 2]⟩

theorem k_laws_toIntS : cFun Try.prog Try.f17 = some C_laws_toIntS.erase := by kernel_rfl

def C_laws_toRing : Fun := ⟨1, 14,
  .seq (
  .reg [⟨some 1, none, .box (.t 0)⟩,
        ⟨some 2, none, .zer [.d (.int 0), .d (.int 0), .d (.int 0)]⟩]) (
  .seq (
  .reg [⟨some 3, none, .zer [.d (.int 0), .d (.int 0), .d (.int 0)]⟩]) (
  .seq (
  .reg [⟨some 4, none, .fld 0 (.t 1)⟩,
        ⟨some 5, none, .ld (.t 4)⟩,
        ⟨some 6, none, .fld 0 (.t 3)⟩,
        ⟨none, none, .st 1 (.t 6) (.t 5)⟩]) (
  .seq (
  .reg [⟨some 7, none, .fld 1 (.t 1)⟩,
        ⟨some 8, none, .ld (.t 7)⟩,
        ⟨some 9, none, .fld 1 (.t 3)⟩,
        ⟨none, none, .st 1 (.t 9) (.t 8)⟩]) (
  .seq (
  .reg [⟨some 10, none, .fld 2 (.t 1)⟩,
        ⟨some 11, none, .ld (.t 10)⟩,
        ⟨some 12, none, .fld 2 (.t 3)⟩,
        ⟨none, none, .st 1 (.t 12) (.t 11)⟩]) (
  .seq (
  .reg [⟨some 13, none, .ldn 3 (.t 3)⟩,
        ⟨none, none, .st 3 (.t 2) (.t 13)⟩]) (
  .ret)))))),
  [.cell 2 3]⟩

theorem k_laws_toRing : cFun Try.prog Try.f30 = some C_laws_toRing.erase := by kernel_rfl

def C_laws_toTensor : Fun := ⟨1, 17,
  .seq (
  .reg [⟨some 1, none, .box (.t 0)⟩,
        ⟨some 2, none, .zer [.nil, .nil, .nil]⟩]) (
  .seq (
  .reg [⟨some 3, none, .zer [.nil, .nil, .nil]⟩]) (
  .seq (
  .reg [⟨some 4, none, .fld 0 (.t 1)⟩,
        ⟨some 5, none, .ld (.t 4)⟩,
        ⟨some 6, none, .call 17 [(.t 5)]⟩,
        ⟨some 7, none, .fld 0 (.t 3)⟩,
        ⟨none, none, .st 1 (.t 7) (.t 6)⟩]) (
  .seq (
  .reg [⟨some 8, none, .fld 1 (.t 1)⟩,
        ⟨some 9, none, .ld (.t 8)⟩,
        ⟨some 10, none, .call 17 [(.t 9)]⟩,
        ⟨some 11, none, .fld 1 (.t 3)⟩,
        ⟨none, none, .st 1 (.t 11) (.t 10)⟩]) (
  .seq (
  .reg [⟨some 12, none, .fld 2 (.t 1)⟩,
        ⟨some 13, none, .ld (.t 12)⟩,
        ⟨some 14, none, .call 17 [(.t 13)]⟩,
        ⟨some 15, none, .fld 2 (.t 3)⟩,
        ⟨none, none, .st 1 (.t 15) (.t 14)⟩]) (
  .seq (
  .reg [⟨some 16, none, .ldn 3 (.t 3)⟩,
        ⟨none, none, .st 3 (.t 2) (.t 16)⟩]) (
  .ret)))))),
  [.cell 2 3]⟩

theorem k_laws_toTensor : cFun Try.prog Try.f31 = some C_laws_toTensor.erase := by kernel_rfl

def C_laws_szIntS : Fun := ⟨2, 12,
  .seq (
  .reg [⟨some 4, none, .mv (.c (.d (.int 0)))⟩]) (
  .seq (
  .reg [⟨some 5, none, .mv (.t 1)⟩,
        ⟨some 6, none, .mv (.t 0)⟩,
        ⟨some 7, none, .len (.t 6)⟩,
        ⟨some 8, none, .bin .sub (.t 5) (.t 7)⟩,
        ⟨some 1, none, .mv (.t 8)⟩]) (
  .seq (
  .seq (
  .reg [⟨some 9, none, .mv (.t 1)⟩,
        ⟨some 10, none, .bin .lss (.t 9) (.c (.d (.int 0)))⟩]) (
  .cond (.t 10) (
    .seq (
    .reg [⟨some 4, none, .mv (.c (.d (.int (-1))))⟩]) (
    .ret)) (
    .skip))) (
  .seq (
  .reg [⟨some 11, none, .mv (.t 1)⟩,
        ⟨some 4, none, .mv (.t 11)⟩]) (
  .ret)))),
  [.t 4]⟩

theorem k_laws_szIntS : cFun Try.prog Try.f60 = some C_laws_szIntS.erase := by kernel_rfl

def C_laws_szTensor : Fun := ⟨2, 24,
  .seq (
  .reg [⟨some 2, none, .box (.t 0)⟩,
        ⟨some 4, none, .mv (.c (.d (.int 0)))⟩]) (
  .seq (
  .reg [⟨some 5, none, .fld 0 (.t 2)⟩,
        ⟨some 6, none, .ld (.t 5)⟩,
        ⟨some 7, none, .mv (.t 1)⟩,
        ⟨some 8, none, .call 60 [(.t 6), (.t 7)]⟩,
        ⟨some 1, none, .mv (.t 8)⟩]) (
  .seq (
  .seq (
  .reg [⟨some 9, none, .mv (.t 1)⟩,
        ⟨some 10, none, .bin .lss (.t 9) (.c (.d (.int 0)))⟩]) (
  .cond (.t 10) (
    .seq (
    .reg [⟨some 4, none, .mv (.c (.d (.int (-1))))⟩]) (
    .ret)) (
    .skip))) (
  .seq (
  .reg [⟨some 11, none, .fld 1 (.t 2)⟩,
        ⟨some 12, none, .ld (.t 11)⟩,
        ⟨some 13, none, .mv (.t 1)⟩,
        ⟨some 14, none, .call 60 [(.t 12), (.t 13)]⟩,
        ⟨some 1, none, .mv (.t 14)⟩]) (
  .seq (
  .seq (
  .reg [⟨some 15, none, .mv (.t 1)⟩,
        ⟨some 16, none, .bin .lss (.t 15) (.c (.d (.int 0)))⟩]) (
  .cond (.t 16) (
    .seq (
    .reg [⟨some 4, none, .mv (.c (.d (.int (-1))))⟩]) (
    .ret)) (
    .skip))) (
  .seq (
  .reg [⟨some 17, none, .fld 2 (.t 2)⟩,
        ⟨some 18, none, .ld (.t 17)⟩,
        ⟨some 19, none, .mv (.t 1)⟩,
        ⟨some 20, none, .call 60 [(.t 18), (.t 19)]⟩,
        ⟨some 1, none, .mv (.t 20)⟩]) (
  .seq (
  .seq (
  .reg [⟨some 21, none, .mv (.t 1)⟩,
        ⟨some 22, none, .bin .lss (.t 21) (.c (.d (.int 0)))⟩]) (
  .cond (.t 22) (
    .seq (
    .reg [⟨some 4, none, .mv (.c (.d (.int (-1))))⟩]) (
    .ret)) (
    .skip))) (
  .seq (
  .reg [⟨some 23, none, .mv (.t 1)⟩,
        ⟨some 4, none, .mv (.t 23)⟩]) (
  .ret)))))))),
  [.t 4]⟩

theorem k_laws_szTensor : cFun Try.prog Try.f28 = some C_laws_szTensor.erase := by kernel_rfl

def L0_laws_eqIntS : C :=
      .seq (
      .seq (
      .reg [⟨some 11, none, .mv (.t 5)⟩,
            ⟨some 12, none, .mv (.t 0)⟩,
            ⟨some 13, none, .len (.t 12)⟩,
            ⟨some 14, none, .bin .lss (.t 11) (.t 13)⟩]) (
      .cond (.t 14) (
        .skip) (
        .exit 0))) (
      .seq (
      .block 1 (
        .seq (
        .draw [⟨some 17, none, .mv (.t 0)⟩,
               ⟨some 18, none, .mv (.t 5)⟩,
               ⟨some 19, none, .idx 1 (.t 17) (.t 18)⟩,
               ⟨some 20, none, .ld (.t 19)⟩,
               ⟨some 21, none, .mv (.t 1)⟩,
               ⟨some 22, none, .mv (.t 5)⟩,
               ⟨some 23, none, .idx 1 (.t 21) (.t 22)⟩,
               ⟨some 24, none, .ld (.t 23)⟩]
          [⟨some 25, none, .bin .neq (.t 20) (.t 24)⟩]) (
        .cond (.t 25) (
          .seq (
          .reg [⟨some 4, none, .mv (.c (.d (.bool false)))⟩]) (
          .ret)) (
          .skip)))) (
      .reg [⟨some 15, none, .mv (.t 5)⟩,
            ⟨some 16, none, .bin .add (.t 15) (.c (.d (.int 1)))⟩,
            ⟨some 5, none, .mv (.t 16)⟩]))

def C_laws_eqIntS : Fun := ⟨2, 26,
  .seq (
  .reg [⟨some 4, none, .mv (.c (.d (.bool false)))⟩]) (
  .seq (
  .seq (
  .reg [⟨some 6, none, .mv (.t 0)⟩,
        ⟨some 7, none, .len (.t 6)⟩,
        ⟨some 8, none, .mv (.t 1)⟩,
        ⟨some 9, none, .len (.t 8)⟩,
        ⟨some 10, none, .bin .neq (.t 7) (.t 9)⟩]) (
  .cond (.t 10) (
    .seq (
    .reg [⟨some 4, none, .mv (.c (.d (.bool false)))⟩]) (
    .ret)) (
    .skip))) (
  .seq (
  .seq (
  .reg [⟨some 5, none, .mv (.c (.d (.int 0)))⟩]) (
  .block 0 (
    .loop L0_laws_eqIntS))) (
  .seq (
  .reg [⟨some 4, none, .mv (.c (.d (.bool true)))⟩]) (
  .ret)))),
  [.t 4]⟩

theorem k_laws_eqIntS : cFun Try.prog Try.f20 = some C_laws_eqIntS.erase := by kernel_rfl

def C_laws_eqTensor : Fun := ⟨2, 23,
  .seq (
  .reg [⟨some 2, none, .box (.t 0)⟩,
        ⟨some 3, none, .box (.t 1)⟩,
        ⟨some 4, none, .mv (.c (.d (.bool false)))⟩]) (
  .seq (
  .seq (
  .reg [⟨some 5, none, .fld 0 (.t 2)⟩,
        ⟨some 6, none, .ld (.t 5)⟩,
        ⟨some 7, none, .fld 0 (.t 3)⟩,
        ⟨some 8, none, .ld (.t 7)⟩,
        ⟨some 9, none, .call 20 [(.t 6), (.t 8)]⟩,
        ⟨some 10, none, .not (.t 9)⟩]) (
  .cond (.t 10) (
    .seq (
    .reg [⟨some 4, none, .mv (.c (.d (.bool false)))⟩]) (
    .ret)) (
    .skip))) (
  .seq (
  .seq (
  .reg [⟨some 11, none, .fld 1 (.t 2)⟩,
        ⟨some 12, none, .ld (.t 11)⟩,
        ⟨some 13, none, .fld 1 (.t 3)⟩,
        ⟨some 14, none, .ld (.t 13)⟩,
        ⟨some 15, none, .call 20 [(.t 12), (.t 14)]⟩,
        ⟨some 16, none, .not (.t 15)⟩]) (
  .cond (.t 16) (
    .seq (
    .reg [⟨some 4, none, .mv (.c (.d (.bool false)))⟩]) (
    .ret)) (
    .skip))) (
  .seq (
  .seq (
  .reg [⟨some 17, none, .fld 2 (.t 2)⟩,
        ⟨some 18, none, .ld (.t 17)⟩,
        ⟨some 19, none, .fld 2 (.t 3)⟩,
        ⟨some 20, none, .ld (.t 19)⟩,
        ⟨some 21, none, .call 20 [(.t 18), (.t 20)]⟩,
        ⟨some 22, none, .not (.t 21)⟩]) (
  .cond (.t 22) (
    .seq (
    .reg [⟨some 4, none, .mv (.c (.d (.bool false)))⟩]) (
    .ret)) (
    .skip))) (
  .seq (
  .reg [⟨some 4, none, .mv (.c (.d (.bool true)))⟩]) (
  .ret))))),
  [.t 4]⟩

theorem k_laws_eqTensor : cFun Try.prog Try.f33 = some C_laws_eqTensor.erase := by kernel_rfl

def C_impl_copyInts : Fun := ⟨1, 5,
  .seq (
  .reg [⟨some 2, none, .mv (.c (.nil))⟩]) (
  .seq (
  .reg [⟨some 3, none, .mv (.t 0)⟩,
        ⟨some 4, none, .app 1 8 [.d (.int 0)] (.c (.nil)) (.t 3)⟩,
        ⟨some 2, none, .mv (.t 4)⟩]) (
  .ret)),
  [.t 2]⟩

theorem k_impl_copyInts : cFun Try.prog Try.f143 = some C_impl_copyInts.erase := by kernel_rfl

end Go.Proofs.Ytcgnehacihjnkaa

/-
  The compiled code of functions of the seat (written by mkcode.py). No condition.
-/
namespace Go.Proofs.Ytcgnehacihjnkaa
open Go.Lift

def L0_impl_hasInt : C :=
 .seq (
 .reg [⟨some 10, none, .bin .lss (.t 9) (.t 8)⟩]) (
 .seq (
 .cond (.t 10) (
 .skip) (
 .exit 0)) (
 .seq (
 .block 1 (
 .seq (
 .reg [⟨some 11, none, .idx 1 (.t 7) (.t 9)⟩,
 ⟨some 12, none, .ld (.t 11)⟩,
 ⟨some 6, none, .mv (.t 12)⟩]) (
 .seq (
 .reg [⟨some 13, none, .mv (.t 1)⟩,
 ⟨some 14, none, .mv (.t 6)⟩,
 ⟨some 15, none, .bin .eql (.t 13) (.t 14)⟩]) (
 .cond (.t 15) (
 .seq (
 .reg [⟨some 4, none, .mv (.c (.d (.bool true)))⟩]) (
 .ret)) (
 .skip))))) (
 .reg [⟨some 16, none, .bin .add (.t 9) (.c (.d (.int 1)))⟩,
 ⟨some 9, none, .mv (.t 16)⟩])))

def C_impl_hasInt : Fun := ⟨2, 17,
 .seq (
 .reg [⟨some 4, none, .mv (.c (.d (.bool false)))⟩]) (
 .seq (
 .seq (
 .reg [⟨some 7, none, .mv (.t 0)⟩,
 ⟨some 8, none, .len (.t 7)⟩,
 ⟨some 9, none, .mv (.c (.d (.int 0)))⟩]) (
 .block 0 (
 .loop L0_impl_hasInt))) (
 .seq (
 .reg [⟨some 4, none, .mv (.c (.d (.bool false)))⟩]) (
 .ret))),
 [.t 4]⟩

theorem k_impl_hasInt : cFun Try.prog Try.f67 = some C_impl_hasInt.erase := by kernel_rfl

def C_spec_l01In : Fun := ⟨3, 15,
 .seq (
 .reg [⟨some 6, none, .mv (.c (.d (.bool false)))⟩]) (
 .seq (
 .reg [⟨some 7, none, .mv (.t 0)⟩,
 ⟨some 8, none, .mv (.t 1)⟩,
 ⟨some 9, none, .bin .geq (.t 7) (.t 8)⟩,
 ⟨some 10, none, .mv (.t 9)⟩,
 ⟨some 11, some (10, true), .mv (.t 0)⟩,
 ⟨some 12, some (10, true), .mv (.t 2)⟩,
 ⟨some 13, some (10, true), .bin .leq (.t 11) (.t 12)⟩,
 ⟨some 14, none, .pick (.t 10) (.t 13) (.c (.d (.bool false)))⟩,
 ⟨some 6, none, .mv (.t 14)⟩]) (
 .ret)),
 [.t 6]⟩

theorem k_spec_l01In : cFun Try.prog Try.f62 = some C_spec_l01In.erase := by kernel_rfl

def L0_spec_l05Find : C :=
 .seq (
 .reg [⟨some 10, none, .bin .lss (.t 9) (.t 8)⟩]) (
 .seq (
 .cond (.t 10) (
 .skip) (
 .exit 0)) (
 .seq (
 .block 1 (
 .seq (
 .reg [⟨some 11, none, .mv (.t 9)⟩,
 ⟨some 12, none, .idx 1 (.t 7) (.t 9)⟩,
 ⟨some 13, none, .ld (.t 12)⟩,
 ⟨some 5, none, .mv (.t 11)⟩,
 ⟨some 6, none, .mv (.t 13)⟩]) (
 .seq (
 .reg [⟨some 14, none, .mv (.t 6)⟩,
 ⟨some 15, none, .mv (.t 1)⟩,
 ⟨some 16, none, .bin .eql (.t 14) (.t 15)⟩]) (
 .cond (.t 16) (
 .seq (
 .reg [⟨some 17, none, .mv (.t 5)⟩,
 ⟨some 4, none, .mv (.t 17)⟩]) (
 .ret)) (
 .skip))))) (
 .reg [⟨some 18, none, .bin .add (.t 9) (.c (.d (.int 1)))⟩,
 ⟨some 9, none, .mv (.t 18)⟩])))

def C_spec_l05Find : Fun := ⟨2, 19,
 .seq (
 .reg [⟨some 4, none, .mv (.c (.d (.int 0)))⟩]) (
 .seq (
 .seq (
 .reg [⟨some 7, none, .mv (.t 0)⟩,
 ⟨some 8, none, .len (.t 7)⟩,
 ⟨some 9, none, .mv (.c (.d (.int 0)))⟩]) (
 .block 0 (
 .loop L0_spec_l05Find))) (
 .seq (
 .reg [⟨some 4, none, .mv (.c (.d (.int (-1))))⟩]) (
 .ret))),
 [.t 4]⟩

theorem k_spec_l05Find : cFun Try.prog Try.f63 = some C_spec_l05Find.erase := by kernel_rfl

end Go.Proofs.Ytcgnehacihjnkaa

/-
  The compiled code of functions of the seat (written by mkcode.py). No condition.
-/
namespace Go.Proofs.Ytcgnehacihjnkaa
open Go.Lift

def C_impl_LabelsOf : Fun := ⟨1, 16,
 .seq (
 .reg [⟨some 1, none, .box (.t 0)⟩,
 ⟨some 2, none, .mv (.c (.nil))⟩]) (
 .seq (
 .seq (
 .reg [⟨some 5, none, .ldn 5 (.t 1)⟩,
 ⟨some 6, none, .call 66 [(.t 5)]⟩,
 ⟨some 7, none, .not (.t 6)⟩]) (
 .cond (.t 7) (
 .seq (
 .reg [⟨some 2, none, .mv (.c (.nil))⟩]) (
 .ret)) (
 .skip))) (
 .seq (
 .reg [⟨some 9, none, .fld 3 (.t 1)⟩,
 ⟨some 10, none, .ld (.t 9)⟩,
 ⟨some 11, none, .call 141 [(.t 10)]⟩,
 ⟨some 8, none, .mv (.t 11)⟩,
 ⟨some 12, none, .ext 0 (.t 8)⟩,
 ⟨some 13, none, .ext 1 (.t 8)⟩,
 ⟨some 3, none, .zer (reps 100 (.d (.int 0)))⟩,
 ⟨none, none, .st 100 (.t 3) (.t 12)⟩,
 ⟨some 4, none, .mv (.t 13)⟩]) (
 .seq (
 .reg [⟨some 14, none, .ldn 100 (.t 3)⟩,
 ⟨some 15, none, .call 151 [(.t 14)]⟩,
 ⟨some 2, none, .mv (.t 15)⟩]) (
 .ret)))),
 [.t 2]⟩

theorem k_impl_LabelsOf : cFun Try.prog Try.f79 = some C_impl_LabelsOf.erase := by kernel_rfl

def L0_spec_l12Labels : C :=
 .seq (
 .seq (
 .reg [⟨some 6, none, .mv (.t 4)⟩,
 ⟨some 7, none, .bin .leq (.t 6) (.c (.d (.int 99)))⟩]) (
 .cond (.t 7) (
 .skip) (
 .exit 0))) (
 .seq (
 .block 1 (
 .seq (
 .reg [⟨some 10, none, .mv (.t 0)⟩,
 ⟨some 11, none, .mv (.t 4)⟩,
 ⟨some 12, none, .call 95 [(.t 10), (.t 11)]⟩,
 ⟨some 13, none, .bin .gtr (.t 12) (.c (.d (.int 0)))⟩]) (
 .cond (.t 13) (
 .reg [⟨some 14, none, .mv (.t 3)⟩,
 ⟨some 15, none, .mv (.t 4)⟩,
 ⟨some 16, none, .mksl 1 1 [.d (.int 0)] [(0, 1, (.t 15))]⟩,
 ⟨some 17, none, .app 1 8 [.d (.int 0)] (.t 14) (.t 16)⟩,
 ⟨some 3, none, .mv (.t 17)⟩]) (
 .skip)))) (
 .reg [⟨some 8, none, .mv (.t 4)⟩,
 ⟨some 9, none, .bin .add (.t 8) (.c (.d (.int 1)))⟩,
 ⟨some 4, none, .mv (.t 9)⟩]))

def C_spec_l12Labels : Fun := ⟨1, 19,
 .seq (
 .reg [⟨some 2, none, .mv (.c (.nil))⟩]) (
 .seq (
 .reg [⟨some 5, none, .mksl 1 0 [.d (.int 0)] []⟩,
 ⟨some 3, none, .mv (.t 5)⟩]) (
 .seq (
 .seq (
 .reg [⟨some 4, none, .mv (.c (.d (.int 0)))⟩]) (
 .block 0 (
 .loop L0_spec_l12Labels))) (
 .seq (
 .reg [⟨some 18, none, .mv (.t 3)⟩,
 ⟨some 2, none, .mv (.t 18)⟩]) (
 .ret)))),
 [.t 2]⟩

theorem k_spec_l12Labels : cFun Try.prog Try.f76 = some C_spec_l12Labels.erase := by kernel_rfl

def L0_impl_occurring : C :=
 .seq (
 .reg [⟨some 8, none, .bin .lss (.t 7) (.c (.d (.int 100)))⟩]) (
 .seq (
 .cond (.t 8) (
 .skip) (
 .exit 0)) (
 .seq (
 .block 1 (
 .seq (
 .reg [⟨some 9, none, .mv (.t 7)⟩,
 ⟨some 10, none, .ixa 100 (.t 6) (.t 7)⟩,
 ⟨some 4, none, .mv (.t 9)⟩,
 ⟨some 5, none, .mv (.t 10)⟩]) (
 .seq (
 .reg [⟨some 11, none, .mv (.t 5)⟩,
 ⟨some 12, none, .bin .neq (.t 11) (.c (.d (.int 0)))⟩]) (
 .cond (.t 12) (
 .reg [⟨some 13, none, .mv (.t 3)⟩,
 ⟨some 14, none, .mv (.t 4)⟩,
 ⟨some 15, none, .mksl 1 1 [.d (.int 0)] [(0, 1, (.t 14))]⟩,
 ⟨some 16, none, .app 1 8 [.d (.int 0)] (.t 13) (.t 15)⟩,
 ⟨some 3, none, .mv (.t 16)⟩]) (
 .skip))))) (
 .reg [⟨some 17, none, .bin .add (.t 7) (.c (.d (.int 1)))⟩,
 ⟨some 7, none, .mv (.t 17)⟩])))

def C_impl_occurring : Fun := ⟨1, 19,
 .seq (
 .reg [⟨some 1, none, .box (.t 0)⟩,
 ⟨some 2, none, .mv (.c (.nil))⟩]) (
 .seq (
 .reg [⟨some 3, none, .mv (.c (.nil))⟩]) (
 .seq (
 .seq (
 .reg [⟨some 6, none, .ldn 100 (.t 1)⟩,
 ⟨some 7, none, .mv (.c (.d (.int 0)))⟩]) (
 .block 0 (
 .loop L0_impl_occurring))) (
 .seq (
 .reg [⟨some 18, none, .mv (.t 3)⟩,
 ⟨some 2, none, .mv (.t 18)⟩]) (
 .ret)))),
 [.t 2]⟩

theorem k_impl_occurring : cFun Try.prog Try.f151 = some C_impl_occurring.erase := by kernel_rfl

end Go.Proofs.Ytcgnehacihjnkaa

/-
  The compiled code of functions of the seat (written by mkcode.py). No condition.
-/
namespace Go.Proofs.Ytcgnehacihjnkaa
open Go.Lift

def C_laws_szNetwork : Fun := ⟨2, 18,
 .seq (
 .reg [⟨some 2, none, .box (.t 0)⟩,
 ⟨some 4, none, .mv (.c (.d (.int 0)))⟩]) (
 .seq (
 .reg [⟨some 5, none, .fld 3 (.t 2)⟩,
 ⟨some 6, none, .ld (.t 5)⟩,
 ⟨some 7, none, .mv (.t 1)⟩,
 ⟨some 8, none, .call 59 [(.t 6), (.t 7)]⟩,
 ⟨some 1, none, .mv (.t 8)⟩]) (
 .seq (
 .seq (
 .reg [⟨some 9, none, .mv (.t 1)⟩,
 ⟨some 10, none, .bin .lss (.t 9) (.c (.d (.int 0)))⟩]) (
 .cond (.t 10) (
 .seq (
 .reg [⟨some 4, none, .mv (.c (.d (.int (-1))))⟩]) (
 .ret)) (
 .skip))) (
 .seq (
 .reg [⟨some 11, none, .fld 4 (.t 2)⟩,
 ⟨some 12, none, .ld (.t 11)⟩,
 ⟨some 13, none, .mv (.t 1)⟩,
 ⟨some 14, none, .call 60 [(.t 12), (.t 13)]⟩,
 ⟨some 1, none, .mv (.t 14)⟩]) (
 .seq (
 .seq (
 .reg [⟨some 15, none, .mv (.t 1)⟩,
 ⟨some 16, none, .bin .lss (.t 15) (.c (.d (.int 0)))⟩]) (
 .cond (.t 16) (
 .seq (
 .reg [⟨some 4, none, .mv (.c (.d (.int (-1))))⟩]) (
 .ret)) (
 .skip))) (
 .seq (
 .reg [⟨some 17, none, .mv (.t 1)⟩,
 ⟨some 4, none, .mv (.t 17)⟩]) (
 .ret)))))),
 [.t 4]⟩

theorem k_laws_szNetwork : cFun Try.prog Try.f14 = some C_laws_szNetwork.erase := by kernel_rfl

def L0_spec_NetworkOk : C :=
 .seq (
 .reg [⟨some 35, none, .bin .lss (.t 34) (.t 33)⟩]) (
 .seq (
 .cond (.t 35) (
 .skip) (
 .exit 2)) (
 .seq (
 .block 3 (
 .seq (
 .reg [⟨some 36, none, .mv (.t 34)⟩,
 ⟨some 37, none, .idx 1 (.t 32) (.t 34)⟩,
 ⟨some 38, none, .ld (.t 37)⟩,
 ⟨some 5, none, .mv (.t 36)⟩,
 ⟨some 6, none, .mv (.t 38)⟩]) (
 .seq (
 .reg [⟨some 39, none, .fld 3 (.t 1)⟩,
 ⟨some 40, none, .ld (.t 39)⟩,
 ⟨some 41, none, .mv (.t 3)⟩,
 ⟨some 42, none, .slc 3 (.t 40) none (some (.t 41))⟩,
 ⟨some 43, none, .mv (.t 6)⟩,
 ⟨some 44, none, .call 95 [(.t 42), (.t 43)]⟩,
 ⟨some 7, none, .mv (.t 44)⟩]) (
 .seq (
 .reg [⟨some 45, none, .mv (.t 7)⟩,
 ⟨some 46, none, .bin .gtr (.t 45) (.c (.d (.int 0)))⟩,
 ⟨some 47, none, .mv (.t 46)⟩,
 ⟨some 48, some (47, true), .mv (.t 7)⟩,
 ⟨some 49, some (47, true), .fld 1 (.t 4)⟩,
 ⟨some 50, some (47, true), .ld (.t 49)⟩,
 ⟨some 51, some (47, true), .mv (.t 5)⟩,
 ⟨some 52, some (47, true), .idx 1 (.t 50) (.t 51)⟩,
 ⟨some 53, some (47, true), .ld (.t 52)⟩,
 ⟨some 54, some (47, true), .bin .neq (.t 48) (.t 53)⟩,
 ⟨some 55, none, .pick (.t 47) (.t 54) (.c (.d (.bool false)))⟩]) (
 .cond (.t 55) (
 .seq (
 .reg [⟨some 2, none, .mv (.c (.d (.bool false)))⟩]) (
 .ret)) (
 .skip)))))) (
 .reg [⟨some 56, none, .bin .add (.t 34) (.c (.d (.int 1)))⟩,
 ⟨some 34, none, .mv (.t 56)⟩])))

def L1_spec_NetworkOk : C :=
 .seq (
 .reg [⟨some 22, none, .bin .lss (.t 21) (.t 20)⟩]) (
 .seq (
 .cond (.t 22) (
 .skip) (
 .exit 0)) (
 .seq (
 .block 1 (
 .seq (
 .reg [⟨some 23, none, .mv (.t 21)⟩,
 ⟨some 24, none, .idx 3 (.t 19) (.t 21)⟩,
 ⟨some 25, none, .ldn 3 (.t 24)⟩,
 ⟨some 4, none, .zer [.nil, .nil, .nil]⟩,
 ⟨some 3, none, .mv (.t 23)⟩,
 ⟨none, none, .st 3 (.t 4) (.t 25)⟩]) (
 .seq (
 .seq (
 .reg [⟨some 26, none, .fld 0 (.t 1)⟩,
 ⟨some 27, none, .ldn 3 (.t 26)⟩,
 ⟨some 28, none, .ldn 3 (.t 4)⟩,
 ⟨some 29, none, .call 122 [(.t 27), (.t 28)]⟩,
 ⟨some 30, none, .not (.t 29)⟩]) (
 .cond (.t 30) (
 .seq (
 .reg [⟨some 2, none, .mv (.c (.d (.bool false)))⟩]) (
 .ret)) (
 .skip))) (
 .seq (
 .reg [⟨some 31, none, .fld 0 (.t 4)⟩,
 ⟨some 32, none, .ld (.t 31)⟩,
 ⟨some 33, none, .len (.t 32)⟩,
 ⟨some 34, none, .mv (.c (.d (.int 0)))⟩]) (
 .block 2 (
 .loop L0_spec_NetworkOk)))))) (
 .reg [⟨some 57, none, .bin .add (.t 21) (.c (.d (.int 1)))⟩,
 ⟨some 21, none, .mv (.t 57)⟩])))

def C_spec_NetworkOk : Fun := ⟨1, 68,
 .seq (
 .reg [⟨some 1, none, .box (.t 0)⟩,
 ⟨some 2, none, .mv (.c (.d (.bool false)))⟩]) (
 .seq (
 .seq (
 .reg [⟨some 8, none, .fld 0 (.t 1)⟩,
 ⟨some 9, none, .ldn 3 (.t 8)⟩,
 ⟨some 10, none, .call 136 [(.t 9)]⟩,
 ⟨some 11, none, .not (.t 10)⟩,
 ⟨some 12, none, .mv (.t 11)⟩,
 ⟨some 13, some (12, false), .fld 3 (.t 1)⟩,
 ⟨some 14, some (12, false), .ld (.t 13)⟩,
 ⟨some 15, some (12, false), .len (.t 14)⟩,
 ⟨some 16, some (12, false), .bin .gtr (.t 15) (.c (.d (.int 12)))⟩,
 ⟨some 17, none, .pick (.t 12) (.c (.d (.bool true))) (.t 16)⟩]) (
 .cond (.t 17) (
 .seq (
 .reg [⟨some 2, none, .mv (.c (.d (.bool false)))⟩]) (
 .ret)) (
 .skip))) (
 .seq (
 .seq (
 .reg [⟨some 18, none, .fld 3 (.t 1)⟩,
 ⟨some 19, none, .ld (.t 18)⟩,
 ⟨some 20, none, .len (.t 19)⟩,
 ⟨some 21, none, .mv (.c (.d (.int 0)))⟩]) (
 .block 0 (
 .loop L1_spec_NetworkOk))) (
 .seq (
 .draw [⟨some 58, none, .fld 4 (.t 1)⟩,
 ⟨some 59, none, .ld (.t 58)⟩,
 ⟨some 60, none, .fld 3 (.t 1)⟩,
 ⟨some 61, none, .ld (.t 60)⟩,
 ⟨some 62, none, .fld 4 (.t 1)⟩,
 ⟨some 63, none, .ld (.t 62)⟩,
 ⟨some 64, none, .call 138 [(.t 61), (.t 63)]⟩]
 [⟨some 65, none, .agg [.nil, .nil, .nil] [(0, 1, (.t 59)), (1, 1, (.t 64))]⟩,
 ⟨some 66, none, .call 137 [(.t 65)]⟩,
 ⟨some 67, none, .bin .geq (.t 66) (.c (.d (.int 0)))⟩,
 ⟨some 2, none, .mv (.t 67)⟩]) (
 .ret)))),
 [.t 2]⟩

theorem k_spec_NetworkOk : cFun Try.prog Try.f61 = some C_spec_NetworkOk.erase := by kernel_rfl

def C_laws_toNetwork : Fun := ⟨1, 17,
 .seq (
 .reg [⟨some 1, none, .box (.t 0)⟩,
 ⟨some 2, none, .zer [.d (.int 0), .d (.int 0), .d (.int 0), .nil, .nil]⟩]) (
 .seq (
 .reg [⟨some 3, none, .zer [.d (.int 0), .d (.int 0), .d (.int 0), .nil, .nil]⟩]) (
 .seq (
 .reg [⟨some 4, none, .fld 0 (.t 1)⟩,
 ⟨some 5, none, .ldn 3 (.t 4)⟩,
 ⟨some 6, none, .call 30 [(.t 5)]⟩,
 ⟨some 7, none, .fld 0 (.t 3)⟩,
 ⟨none, none, .st 3 (.t 7) (.t 6)⟩]) (
 .seq (
 .reg [⟨some 8, none, .fld 3 (.t 1)⟩,
 ⟨some 9, none, .ld (.t 8)⟩,
 ⟨some 10, none, .call 65 [(.t 9)]⟩,
 ⟨some 11, none, .fld 3 (.t 3)⟩,
 ⟨none, none, .st 1 (.t 11) (.t 10)⟩]) (
 .seq (
 .reg [⟨some 12, none, .fld 4 (.t 1)⟩,
 ⟨some 13, none, .ld (.t 12)⟩,
 ⟨some 14, none, .call 17 [(.t 13)]⟩,
 ⟨some 15, none, .fld 4 (.t 3)⟩,
 ⟨none, none, .st 1 (.t 15) (.t 14)⟩]) (
 .seq (
 .reg [⟨some 16, none, .ldn 5 (.t 3)⟩,
 ⟨none, none, .st 5 (.t 2) (.t 16)⟩]) (
 .ret)))))),
 [.cell 2 5]⟩

theorem k_laws_toNetwork : cFun Try.prog Try.f16 = some C_laws_toNetwork.erase := by kernel_rfl

def L0_impl_NetworkOk : C :=
 .seq (
 .reg [⟨some 50, none, .bin .lss (.t 49) (.t 48)⟩]) (
 .seq (
 .cond (.t 50) (
 .skip) (
 .exit 2)) (
 .seq (
 .block 3 (
 .seq (
 .reg [⟨some 51, none, .idx 1 (.t 47) (.t 49)⟩,
 ⟨some 52, none, .ld (.t 51)⟩,
 ⟨some 8, none, .mv (.t 52)⟩]) (
 .seq (
 .reg [⟨some 53, none, .mv (.t 8)⟩,
 ⟨some 54, none, .bin .lss (.t 53) (.c (.d (.int 0)))⟩,
 ⟨some 55, none, .mv (.t 54)⟩,
 ⟨some 56, some (55, false), .mv (.t 8)⟩,
 ⟨some 57, some (55, false), .bin .gtr (.t 56) (.c (.d (.int 99)))⟩,
 ⟨some 58, none, .pick (.t 55) (.c (.d (.bool true))) (.t 57)⟩,
 ⟨some 59, none, .mv (.t 58)⟩,
 ⟨some 60, some (59, false), .mv (.t 8)⟩,
 ⟨some 61, some (59, false), .aix 1 100 (.t 5) (.t 60)⟩,
 ⟨some 62, some (59, false), .ld (.t 61)⟩,
 ⟨some 63, some (59, false), .bin .eql (.t 62) (.c (.d (.int 0)))⟩,
 ⟨some 64, none, .pick (.t 59) (.c (.d (.bool true))) (.t 63)⟩]) (
 .cond (.t 64) (
 .seq (
 .reg [⟨some 2, none, .mv (.c (.d (.bool false)))⟩]) (
 .ret)) (
 .skip))))) (
 .reg [⟨some 65, none, .bin .add (.t 49) (.c (.d (.int 1)))⟩,
 ⟨some 49, none, .mv (.t 65)⟩])))

def L1_impl_NetworkOk : C :=
 .seq (
 .reg [⟨some 29, none, .bin .lss (.t 28) (.t 27)⟩]) (
 .seq (
 .cond (.t 29) (
 .skip) (
 .exit 0)) (
 .seq (
 .block 1 (
 .seq (
 .reg [⟨some 30, none, .idx 3 (.t 26) (.t 28)⟩,
 ⟨some 31, none, .ldn 3 (.t 30)⟩,
 ⟨some 4, none, .zer [.nil, .nil, .nil]⟩,
 ⟨none, none, .st 3 (.t 4) (.t 31)⟩]) (
 .seq (
 .reg [⟨some 32, none, .fld 0 (.t 1)⟩,
 ⟨some 33, none, .ldn 3 (.t 32)⟩,
 ⟨some 34, none, .ldn 3 (.t 4)⟩,
 ⟨some 35, none, .call 125 [(.t 33), (.t 34)]⟩,
 ⟨some 36, none, .not (.t 35)⟩]) (
 .cond (.t 36) (
 .seq (
 .reg [⟨some 2, none, .mv (.c (.d (.bool false)))⟩]) (
 .ret)) (
 .skip))))) (
 .reg [⟨some 37, none, .bin .add (.t 28) (.c (.d (.int 1)))⟩,
 ⟨some 28, none, .mv (.t 37)⟩])))

def C_impl_NetworkOk : Fun := ⟨1, 72,
 .seq (
 .reg [⟨some 1, none, .box (.t 0)⟩,
 ⟨some 2, none, .mv (.c (.d (.bool false)))⟩]) (
 .seq (
 .seq (
 .reg [⟨some 9, none, .fld 0 (.t 1)⟩,
 ⟨some 10, none, .ldn 3 (.t 9)⟩,
 ⟨some 11, none, .call 140 [(.t 10)]⟩,
 ⟨some 12, none, .not (.t 11)⟩,
 ⟨some 13, none, .mv (.t 12)⟩,
 ⟨some 14, some (13, false), .fld 3 (.t 1)⟩,
 ⟨some 15, some (13, false), .ld (.t 14)⟩,
 ⟨some 16, some (13, false), .len (.t 15)⟩,
 ⟨some 17, some (13, false), .bin .gtr (.t 16) (.c (.d (.int 12)))⟩,
 ⟨some 18, none, .pick (.t 13) (.c (.d (.bool true))) (.t 17)⟩,
 ⟨some 19, none, .mv (.t 18)⟩,
 ⟨some 20, some (19, false), .fld 4 (.t 1)⟩,
 ⟨some 21, some (19, false), .ld (.t 20)⟩,
 ⟨some 22, some (19, false), .len (.t 21)⟩,
 ⟨some 23, some (19, false), .bin .gtr (.t 22) (.c (.d (.int 12)))⟩,
 ⟨some 24, none, .pick (.t 19) (.c (.d (.bool true))) (.t 23)⟩]) (
 .cond (.t 24) (
 .seq (
 .reg [⟨some 2, none, .mv (.c (.d (.bool false)))⟩]) (
 .ret)) (
 .skip))) (
 .seq (
 .seq (
 .reg [⟨some 25, none, .fld 3 (.t 1)⟩,
 ⟨some 26, none, .ld (.t 25)⟩,
 ⟨some 27, none, .len (.t 26)⟩,
 ⟨some 28, none, .mv (.c (.d (.int 0)))⟩]) (
 .block 0 (
 .loop L1_impl_NetworkOk))) (
 .seq (
 .reg [⟨some 39, none, .fld 3 (.t 1)⟩,
 ⟨some 40, none, .ld (.t 39)⟩,
 ⟨some 41, none, .call 141 [(.t 40)]⟩,
 ⟨some 38, none, .mv (.t 41)⟩,
 ⟨some 42, none, .ext 0 (.t 38)⟩,
 ⟨some 43, none, .ext 1 (.t 38)⟩,
 ⟨some 5, none, .zer (reps 100 (.d (.int 0)))⟩,
 ⟨none, none, .st 100 (.t 5) (.t 42)⟩,
 ⟨some 6, none, .mv (.t 43)⟩]) (
 .seq (
 .seq (
 .reg [⟨some 44, none, .mv (.t 6)⟩,
 ⟨some 45, none, .not (.t 44)⟩]) (
 .cond (.t 45) (
 .seq (
 .reg [⟨some 2, none, .mv (.c (.d (.bool false)))⟩]) (
 .ret)) (
 .skip))) (
 .seq (
 .seq (
 .reg [⟨some 46, none, .fld 4 (.t 1)⟩,
 ⟨some 47, none, .ld (.t 46)⟩,
 ⟨some 48, none, .len (.t 47)⟩,
 ⟨some 49, none, .mv (.c (.d (.int 0)))⟩]) (
 .block 2 (
 .loop L0_impl_NetworkOk))) (
 .seq (
 .reg [⟨some 66, none, .ldn 100 (.t 5)⟩,
 ⟨some 67, none, .fld 4 (.t 1)⟩,
 ⟨some 68, none, .ld (.t 67)⟩,
 ⟨some 69, none, .call 142 [(.t 66), (.t 68)]⟩,
 ⟨some 70, none, .call 128 [(.t 69)]⟩,
 ⟨some 71, none, .bin .neq (.t 70) (.c (.d (.int (-1))))⟩,
 ⟨some 2, none, .mv (.t 71)⟩]) (
 .ret))))))),
 [.t 2]⟩

theorem k_impl_NetworkOk : cFun Try.prog Try.f66 = some C_impl_NetworkOk.erase := by kernel_rfl

def C_laws_eqNetwork : Fun := ⟨2, 23,
 .seq (
 .reg [⟨some 2, none, .box (.t 0)⟩,
 ⟨some 3, none, .box (.t 1)⟩,
 ⟨some 4, none, .mv (.c (.d (.bool false)))⟩]) (
 .seq (
 .seq (
 .reg [⟨some 5, none, .fld 0 (.t 2)⟩,
 ⟨some 6, none, .ldn 3 (.t 5)⟩,
 ⟨some 7, none, .fld 0 (.t 3)⟩,
 ⟨some 8, none, .ldn 3 (.t 7)⟩,
 ⟨some 9, none, .call 70 [(.t 6), (.t 8)]⟩,
 ⟨some 10, none, .not (.t 9)⟩]) (
 .cond (.t 10) (
 .seq (
 .reg [⟨some 4, none, .mv (.c (.d (.bool false)))⟩]) (
 .ret)) (
 .skip))) (
 .seq (
 .seq (
 .reg [⟨some 11, none, .fld 3 (.t 2)⟩,
 ⟨some 12, none, .ld (.t 11)⟩,
 ⟨some 13, none, .fld 3 (.t 3)⟩,
 ⟨some 14, none, .ld (.t 13)⟩,
 ⟨some 15, none, .call 71 [(.t 12), (.t 14)]⟩,
 ⟨some 16, none, .not (.t 15)⟩]) (
 .cond (.t 16) (
 .seq (
 .reg [⟨some 4, none, .mv (.c (.d (.bool false)))⟩]) (
 .ret)) (
 .skip))) (
 .seq (
 .seq (
 .reg [⟨some 17, none, .fld 4 (.t 2)⟩,
 ⟨some 18, none, .ld (.t 17)⟩,
 ⟨some 19, none, .fld 4 (.t 3)⟩,
 ⟨some 20, none, .ld (.t 19)⟩,
 ⟨some 21, none, .call 20 [(.t 18), (.t 20)]⟩,
 ⟨some 22, none, .not (.t 21)⟩]) (
 .cond (.t 22) (
 .seq (
 .reg [⟨some 4, none, .mv (.c (.d (.bool false)))⟩]) (
 .ret)) (
 .skip))) (
 .seq (
 .reg [⟨some 4, none, .mv (.c (.d (.bool true)))⟩]) (
 .ret))))),
 [.t 4]⟩

theorem k_laws_eqNetwork : cFun Try.prog Try.f19 = some C_laws_eqNetwork.erase := by kernel_rfl

def L0_laws_szTensorS : C :=
 .seq (
 .seq (
 .reg [⟨some 12, none, .mv (.t 5)⟩,
 ⟨some 13, none, .mv (.t 0)⟩,
 ⟨some 14, none, .len (.t 13)⟩,
 ⟨some 15, none, .bin .lss (.t 12) (.t 14)⟩]) (
 .cond (.t 15) (
 .skip) (
 .exit 0))) (
 .seq (
 .block 1 (
 .seq (
 .reg [⟨some 18, none, .mv (.t 0)⟩,
 ⟨some 19, none, .mv (.t 5)⟩,
 ⟨some 20, none, .idx 3 (.t 18) (.t 19)⟩,
 ⟨some 21, none, .ldn 3 (.t 20)⟩,
 ⟨some 22, none, .mv (.t 1)⟩,
 ⟨some 23, none, .call 28 [(.t 21), (.t 22)]⟩,
 ⟨some 1, none, .mv (.t 23)⟩]) (
 .seq (
 .reg [⟨some 24, none, .mv (.t 1)⟩,
 ⟨some 25, none, .bin .lss (.t 24) (.c (.d (.int 0)))⟩]) (
 .cond (.t 25) (
 .seq (
 .reg [⟨some 4, none, .mv (.c (.d (.int (-1))))⟩]) (
 .ret)) (
 .skip))))) (
 .reg [⟨some 16, none, .mv (.t 5)⟩,
 ⟨some 17, none, .bin .add (.t 16) (.c (.d (.int 1)))⟩,
 ⟨some 5, none, .mv (.t 17)⟩]))

def C_laws_szTensorS : Fun := ⟨2, 27,
 .seq (
 .reg [⟨some 4, none, .mv (.c (.d (.int 0)))⟩]) (
 .seq (
 .reg [⟨some 6, none, .mv (.t 1)⟩,
 ⟨some 7, none, .mv (.t 0)⟩,
 ⟨some 8, none, .len (.t 7)⟩,
 ⟨some 9, none, .bin .sub (.t 6) (.t 8)⟩,
 ⟨some 1, none, .mv (.t 9)⟩]) (
 .seq (
 .seq (
 .reg [⟨some 10, none, .mv (.t 1)⟩,
 ⟨some 11, none, .bin .lss (.t 10) (.c (.d (.int 0)))⟩]) (
 .cond (.t 11) (
 .seq (
 .reg [⟨some 4, none, .mv (.c (.d (.int (-1))))⟩]) (
 .ret)) (
 .skip))) (
 .seq (
 .seq (
 .reg [⟨some 5, none, .mv (.c (.d (.int 0)))⟩]) (
 .block 0 (
 .loop L0_laws_szTensorS))) (
 .seq (
 .reg [⟨some 26, none, .mv (.t 1)⟩,
 ⟨some 4, none, .mv (.t 26)⟩]) (
 .ret))))),
 [.t 4]⟩

theorem k_laws_szTensorS : cFun Try.prog Try.f59 = some C_laws_szTensorS.erase := by kernel_rfl

def L0_spec_l12Dim : C :=
 .seq (
 .reg [⟨some 11, none, .bin .lss (.t 10) (.t 9)⟩]) (
 .seq (
 .cond (.t 11) (
 .skip) (
 .exit 0)) (
 .seq (
 .block 1 (
 .seq (
 .reg [⟨some 12, none, .idx 3 (.t 8) (.t 10)⟩,
 ⟨some 13, none, .ldn 3 (.t 12)⟩,
 ⟨some 6, none, .zer [.nil, .nil, .nil]⟩,
 ⟨none, none, .st 3 (.t 6) (.t 13)⟩]) (
 .seq (
 .reg [⟨some 14, none, .fld 0 (.t 6)⟩,
 ⟨some 15, none, .ld (.t 14)⟩,
 ⟨some 16, none, .mv (.t 1)⟩,
 ⟨some 17, none, .call 63 [(.t 15), (.t 16)]⟩,
 ⟨some 7, none, .mv (.t 17)⟩]) (
 .seq (
 .reg [⟨some 18, none, .mv (.t 7)⟩,
 ⟨some 19, none, .bin .geq (.t 18) (.c (.d (.int 0)))⟩]) (
 .cond (.t 19) (
 .seq (
 .reg [⟨some 20, none, .fld 1 (.t 6)⟩,
 ⟨some 21, none, .ld (.t 20)⟩,
 ⟨some 22, none, .mv (.t 7)⟩,
 ⟨some 23, none, .idx 1 (.t 21) (.t 22)⟩,
 ⟨some 24, none, .ld (.t 23)⟩,
 ⟨some 4, none, .mv (.t 24)⟩]) (
 .ret)) (
 .skip)))))) (
 .reg [⟨some 25, none, .bin .add (.t 10) (.c (.d (.int 1)))⟩,
 ⟨some 10, none, .mv (.t 25)⟩])))

def C_spec_l12Dim : Fun := ⟨2, 26,
 .seq (
 .reg [⟨some 4, none, .mv (.c (.d (.int 0)))⟩]) (
 .seq (
 .seq (
 .reg [⟨some 8, none, .mv (.t 0)⟩,
 ⟨some 9, none, .len (.t 8)⟩,
 ⟨some 10, none, .mv (.c (.d (.int 0)))⟩]) (
 .block 0 (
 .loop L0_spec_l12Dim))) (
 .seq (
 .reg [⟨some 4, none, .mv (.c (.d (.int 0)))⟩]) (
 .ret))),
 [.t 4]⟩

theorem k_spec_l12Dim : cFun Try.prog Try.f95 = some C_spec_l12Dim.erase := by kernel_rfl

def L0_spec_l12Dims : C :=
 .seq (
 .reg [⟨some 12, none, .bin .lss (.t 11) (.t 10)⟩]) (
 .seq (
 .cond (.t 12) (
 .skip) (
 .exit 0)) (
 .seq (
 .block 1 (
 .seq (
 .reg [⟨some 13, none, .idx 1 (.t 9) (.t 11)⟩,
 ⟨some 14, none, .ld (.t 13)⟩,
 ⟨some 7, none, .mv (.t 14)⟩]) (
 .reg [⟨some 15, none, .mv (.t 5)⟩,
 ⟨some 16, none, .mv (.t 0)⟩,
 ⟨some 17, none, .mv (.t 7)⟩,
 ⟨some 18, none, .call 95 [(.t 16), (.t 17)]⟩,
 ⟨some 19, none, .mksl 1 1 [.d (.int 0)] [(0, 1, (.t 18))]⟩,
 ⟨some 20, none, .app 1 8 [.d (.int 0)] (.t 15) (.t 19)⟩,
 ⟨some 5, none, .mv (.t 20)⟩]))) (
 .reg [⟨some 21, none, .bin .add (.t 11) (.c (.d (.int 1)))⟩,
 ⟨some 11, none, .mv (.t 21)⟩])))

def C_spec_l12Dims : Fun := ⟨2, 23,
 .seq (
 .reg [⟨some 4, none, .mv (.c (.nil))⟩]) (
 .seq (
 .reg [⟨some 8, none, .mksl 1 0 [.d (.int 0)] []⟩,
 ⟨some 5, none, .mv (.t 8)⟩]) (
 .seq (
 .seq (
 .reg [⟨some 9, none, .mv (.t 1)⟩,
 ⟨some 10, none, .len (.t 9)⟩,
 ⟨some 11, none, .mv (.c (.d (.int 0)))⟩]) (
 .block 0 (
 .loop L0_spec_l12Dims))) (
 .seq (
 .reg [⟨some 22, none, .mv (.t 5)⟩,
 ⟨some 4, none, .mv (.t 22)⟩]) (
 .ret)))),
 [.t 4]⟩

theorem k_spec_l12Dims : cFun Try.prog Try.f138 = some C_spec_l12Dims.erase := by kernel_rfl

def L0_laws_toTensorS : C :=
 .seq (
 .seq (
 .reg [⟨some 8, none, .mv (.t 4)⟩,
 ⟨some 9, none, .mv (.t 0)⟩,
 ⟨some 10, none, .len (.t 9)⟩,
 ⟨some 11, none, .bin .lss (.t 8) (.t 10)⟩]) (
 .cond (.t 11) (
 .skip) (
 .exit 0))) (
 .seq (
 .block 1 (
 .reg [⟨some 14, none, .mv (.t 3)⟩,
 ⟨some 15, none, .mv (.t 4)⟩,
 ⟨some 16, none, .mv (.t 0)⟩,
 ⟨some 17, none, .mv (.t 4)⟩,
 ⟨some 18, none, .idx 3 (.t 16) (.t 17)⟩,
 ⟨some 19, none, .ldn 3 (.t 18)⟩,
 ⟨some 20, none, .call 31 [(.t 19)]⟩,
 ⟨some 21, none, .idx 3 (.t 14) (.t 15)⟩,
 ⟨none, none, .st 3 (.t 21) (.t 20)⟩])) (
 .reg [⟨some 12, none, .mv (.t 4)⟩,
 ⟨some 13, none, .bin .add (.t 12) (.c (.d (.int 1)))⟩,
 ⟨some 4, none, .mv (.t 13)⟩]))

def C_laws_toTensorS : Fun := ⟨1, 23,
 .seq (
 .reg [⟨some 2, none, .mv (.c (.nil))⟩]) (
 .seq (
 .reg [⟨some 5, none, .mv (.t 0)⟩,
 ⟨some 6, none, .len (.t 5)⟩,
 ⟨some 7, none, .make 3 72 [.nil, .nil, .nil] (.t 6) (.t 6)⟩,
 ⟨some 3, none, .mv (.t 7)⟩]) (
 .seq (
 .seq (
 .reg [⟨some 4, none, .mv (.c (.d (.int 0)))⟩]) (
 .block 0 (
 .loop L0_laws_toTensorS))) (
 .seq (
 .reg [⟨some 22, none, .mv (.t 3)⟩,
 ⟨some 2, none, .mv (.t 22)⟩]) (
 .ret)))),
 [.t 2]⟩

theorem k_laws_toTensorS : cFun Try.prog Try.f65 = some C_laws_toTensorS.erase := by kernel_rfl

def L0_impl_dimsOf : C :=
 .seq (
 .reg [⟨some 19, none, .bin .lss (.t 18) (.t 17)⟩]) (
 .seq (
 .cond (.t 19) (
 .skip) (
 .exit 2)) (
 .seq (
 .block 3 (
 .seq (
 .reg [⟨some 20, none, .mv (.t 18)⟩,
 ⟨some 21, none, .idx 1 (.t 16) (.t 18)⟩,
 ⟨some 22, none, .ld (.t 21)⟩,
 ⟨some 7, none, .mv (.t 20)⟩,
 ⟨some 8, none, .mv (.t 22)⟩]) (
 .seq (
 .seq (
 .draw [⟨some 23, none, .mv (.t 8)⟩,
 ⟨some 24, none, .aix 1 100 (.t 4) (.t 23)⟩,
 ⟨some 25, none, .ld (.t 24)⟩,
 ⟨some 26, none, .bin .neq (.t 25) (.c (.d (.int 0)))⟩,
 ⟨some 27, none, .mv (.t 26)⟩,
 ⟨some 28, some (27, true), .mv (.t 8)⟩,
 ⟨some 29, some (27, true), .aix 1 100 (.t 4) (.t 28)⟩,
 ⟨some 30, some (27, true), .ld (.t 29)⟩,
 ⟨some 31, some (27, true), .fld 1 (.t 6)⟩,
 ⟨some 32, some (27, true), .ld (.t 31)⟩,
 ⟨some 33, some (27, true), .mv (.t 7)⟩,
 ⟨some 34, some (27, true), .idx 1 (.t 32) (.t 33)⟩,
 ⟨some 35, some (27, true), .ld (.t 34)⟩]
 [⟨some 36, some (27, true), .bin .neq (.t 30) (.t 35)⟩,
 ⟨some 37, none, .pick (.t 27) (.t 36) (.c (.d (.bool false)))⟩]) (
 .cond (.t 37) (
 .seq (
 .reg [⟨some 38, none, .ldn 100 (.t 4)⟩,
 ⟨none, none, .st 100 (.t 2) (.t 38)⟩,
 ⟨some 3, none, .mv (.c (.d (.bool false)))⟩]) (
 .ret)) (
 .skip))) (
 .reg [⟨some 39, none, .mv (.t 8)⟩,
 ⟨some 40, none, .fld 1 (.t 6)⟩,
 ⟨some 41, none, .ld (.t 40)⟩,
 ⟨some 42, none, .mv (.t 7)⟩,
 ⟨some 43, none, .idx 1 (.t 41) (.t 42)⟩,
 ⟨some 44, none, .ld (.t 43)⟩,
 ⟨some 45, none, .aix 1 100 (.t 4) (.t 39)⟩,
 ⟨none, none, .st 1 (.t 45) (.t 44)⟩])))) (
 .reg [⟨some 46, none, .bin .add (.t 18) (.c (.d (.int 1)))⟩,
 ⟨some 18, none, .mv (.t 46)⟩])))

def L1_impl_dimsOf : C :=
 .seq (
 .reg [⟨some 12, none, .bin .lss (.t 11) (.t 10)⟩]) (
 .seq (
 .cond (.t 12) (
 .skip) (
 .exit 0)) (
 .seq (
 .block 1 (
 .seq (
 .reg [⟨some 13, none, .idx 3 (.t 9) (.t 11)⟩,
 ⟨some 14, none, .ldn 3 (.t 13)⟩,
 ⟨some 6, none, .zer [.nil, .nil, .nil]⟩,
 ⟨none, none, .st 3 (.t 6) (.t 14)⟩]) (
 .seq (
 .reg [⟨some 15, none, .fld 0 (.t 6)⟩,
 ⟨some 16, none, .ld (.t 15)⟩,
 ⟨some 17, none, .len (.t 16)⟩,
 ⟨some 18, none, .mv (.c (.d (.int 0)))⟩]) (
 .block 2 (
 .loop L0_impl_dimsOf))))) (
 .reg [⟨some 47, none, .bin .add (.t 11) (.c (.d (.int 1)))⟩,
 ⟨some 11, none, .mv (.t 47)⟩])))

def C_impl_dimsOf : Fun := ⟨1, 49,
 .seq (
 .reg [⟨some 2, none, .zer (reps 100 (.d (.int 0)))⟩,
 ⟨some 3, none, .mv (.c (.d (.bool false)))⟩]) (
 .seq (
 .reg [⟨some 4, none, .zer (reps 100 (.d (.int 0)))⟩]) (
 .seq (
 .seq (
 .reg [⟨some 9, none, .mv (.t 0)⟩,
 ⟨some 10, none, .len (.t 9)⟩,
 ⟨some 11, none, .mv (.c (.d (.int 0)))⟩]) (
 .block 0 (
 .loop L1_impl_dimsOf))) (
 .seq (
 .reg [⟨some 48, none, .ldn 100 (.t 4)⟩,
 ⟨none, none, .st 100 (.t 2) (.t 48)⟩,
 ⟨some 3, none, .mv (.c (.d (.bool true)))⟩]) (
 .ret)))),
 [.cell 2 100, .t 3]⟩

theorem k_impl_dimsOf : cFun Try.prog Try.f141 = some C_impl_dimsOf.erase := by kernel_rfl

def L0_impl_axesOf : C :=
 .seq (
 .reg [⟨some 17, none, .bin .lss (.t 16) (.t 15)⟩]) (
 .seq (
 .cond (.t 17) (
 .skip) (
 .exit 0)) (
 .seq (
 .block 1 (
 .seq (
 .reg [⟨some 18, none, .mv (.t 16)⟩,
 ⟨some 19, none, .idx 1 (.t 14) (.t 16)⟩,
 ⟨some 20, none, .ld (.t 19)⟩,
 ⟨some 6, none, .mv (.t 18)⟩,
 ⟨some 7, none, .mv (.t 20)⟩]) (
 .draw [⟨some 21, none, .fld 1 (.t 5)⟩,
 ⟨some 22, none, .ld (.t 21)⟩,
 ⟨some 23, none, .mv (.t 6)⟩,
 ⟨some 24, none, .mv (.t 7)⟩,
 ⟨some 25, none, .aix 1 100 (.t 2) (.t 24)⟩,
 ⟨some 26, none, .ld (.t 25)⟩]
 [⟨some 27, none, .idx 1 (.t 22) (.t 23)⟩,
 ⟨none, none, .st 1 (.t 27) (.t 26)⟩]))) (
 .reg [⟨some 28, none, .bin .add (.t 16) (.c (.d (.int 1)))⟩,
 ⟨some 16, none, .mv (.t 28)⟩])))

def C_impl_axesOf : Fun := ⟨2, 30,
 .seq (
 .reg [⟨some 2, none, .box (.t 0)⟩,
 ⟨some 4, none, .zer [.nil, .nil, .nil]⟩]) (
 .seq (
 .draw [⟨some 8, none, .mv (.t 1)⟩,
 ⟨some 9, none, .call 143 [(.t 8)]⟩,
 ⟨some 10, none, .mv (.t 1)⟩,
 ⟨some 11, none, .len (.t 10)⟩,
 ⟨some 12, none, .make 1 8 [.d (.int 0)] (.t 11) (.t 11)⟩,
 ⟨some 13, none, .agg [.nil, .nil, .nil] [(0, 1, (.t 9)), (1, 1, (.t 12))]⟩,
 ⟨some 5, none, .zer [.nil, .nil, .nil]⟩]
 [⟨none, none, .st 3 (.t 5) (.t 13)⟩]) (
 .seq (
 .seq (
 .reg [⟨some 14, none, .mv (.t 1)⟩,
 ⟨some 15, none, .len (.t 14)⟩,
 ⟨some 16, none, .mv (.c (.d (.int 0)))⟩]) (
 .block 0 (
 .loop L0_impl_axesOf))) (
 .seq (
 .reg [⟨some 29, none, .ldn 3 (.t 5)⟩,
 ⟨none, none, .st 3 (.t 4) (.t 29)⟩]) (
 .ret)))),
 [.cell 4 3]⟩

theorem k_impl_axesOf : cFun Try.prog Try.f142 = some C_impl_axesOf.erase := by kernel_rfl

def C_laws_eqRing : Fun := ⟨2, 20,
 .seq (
 .reg [⟨some 2, none, .box (.t 0)⟩,
 ⟨some 3, none, .box (.t 1)⟩,
 ⟨some 4, none, .mv (.c (.d (.bool false)))⟩]) (
 .seq (
 .seq (
 .reg [⟨some 5, none, .fld 0 (.t 2)⟩,
 ⟨some 6, none, .ld (.t 5)⟩,
 ⟨some 7, none, .fld 0 (.t 3)⟩,
 ⟨some 8, none, .ld (.t 7)⟩,
 ⟨some 9, none, .bin .neq (.t 6) (.t 8)⟩]) (
 .cond (.t 9) (
 .seq (
 .reg [⟨some 4, none, .mv (.c (.d (.bool false)))⟩]) (
 .ret)) (
 .skip))) (
 .seq (
 .seq (
 .reg [⟨some 10, none, .fld 1 (.t 2)⟩,
 ⟨some 11, none, .ld (.t 10)⟩,
 ⟨some 12, none, .fld 1 (.t 3)⟩,
 ⟨some 13, none, .ld (.t 12)⟩,
 ⟨some 14, none, .bin .neq (.t 11) (.t 13)⟩]) (
 .cond (.t 14) (
 .seq (
 .reg [⟨some 4, none, .mv (.c (.d (.bool false)))⟩]) (
 .ret)) (
 .skip))) (
 .seq (
 .seq (
 .reg [⟨some 15, none, .fld 2 (.t 2)⟩,
 ⟨some 16, none, .ld (.t 15)⟩,
 ⟨some 17, none, .fld 2 (.t 3)⟩,
 ⟨some 18, none, .ld (.t 17)⟩,
 ⟨some 19, none, .bin .neq (.t 16) (.t 18)⟩]) (
 .cond (.t 19) (
 .seq (
 .reg [⟨some 4, none, .mv (.c (.d (.bool false)))⟩]) (
 .ret)) (
 .skip))) (
 .seq (
 .reg [⟨some 4, none, .mv (.c (.d (.bool true)))⟩]) (
 .ret))))),
 [.t 4]⟩

theorem k_laws_eqRing : cFun Try.prog Try.f70 = some C_laws_eqRing.erase := by kernel_rfl

def L0_laws_eqTensorS : C :=
 .seq (
 .seq (
 .reg [⟨some 11, none, .mv (.t 5)⟩,
 ⟨some 12, none, .mv (.t 0)⟩,
 ⟨some 13, none, .len (.t 12)⟩,
 ⟨some 14, none, .bin .lss (.t 11) (.t 13)⟩]) (
 .cond (.t 14) (
 .skip) (
 .exit 0))) (
 .seq (
 .block 1 (
 .seq (
 .draw [⟨some 17, none, .mv (.t 0)⟩,
 ⟨some 18, none, .mv (.t 5)⟩,
 ⟨some 19, none, .idx 3 (.t 17) (.t 18)⟩,
 ⟨some 20, none, .ldn 3 (.t 19)⟩,
 ⟨some 21, none, .mv (.t 1)⟩,
 ⟨some 22, none, .mv (.t 5)⟩,
 ⟨some 23, none, .idx 3 (.t 21) (.t 22)⟩,
 ⟨some 24, none, .ldn 3 (.t 23)⟩]
 [⟨some 25, none, .call 33 [(.t 20), (.t 24)]⟩,
 ⟨some 26, none, .not (.t 25)⟩]) (
 .cond (.t 26) (
 .seq (
 .reg [⟨some 4, none, .mv (.c (.d (.bool false)))⟩]) (
 .ret)) (
 .skip)))) (
 .reg [⟨some 15, none, .mv (.t 5)⟩,
 ⟨some 16, none, .bin .add (.t 15) (.c (.d (.int 1)))⟩,
 ⟨some 5, none, .mv (.t 16)⟩]))

def C_laws_eqTensorS : Fun := ⟨2, 27,
 .seq (
 .reg [⟨some 4, none, .mv (.c (.d (.bool false)))⟩]) (
 .seq (
 .seq (
 .reg [⟨some 6, none, .mv (.t 0)⟩,
 ⟨some 7, none, .len (.t 6)⟩,
 ⟨some 8, none, .mv (.t 1)⟩,
 ⟨some 9, none, .len (.t 8)⟩,
 ⟨some 10, none, .bin .neq (.t 7) (.t 9)⟩]) (
 .cond (.t 10) (
 .seq (
 .reg [⟨some 4, none, .mv (.c (.d (.bool false)))⟩]) (
 .ret)) (
 .skip))) (
 .seq (
 .seq (
 .reg [⟨some 5, none, .mv (.c (.d (.int 0)))⟩]) (
 .block 0 (
 .loop L0_laws_eqTensorS))) (
 .seq (
 .reg [⟨some 4, none, .mv (.c (.d (.bool true)))⟩]) (
 .ret)))),
 [.t 4]⟩

theorem k_laws_eqTensorS : cFun Try.prog Try.f71 = some C_laws_eqTensorS.erase := by kernel_rfl

end Go.Proofs.Ytcgnehacihjnkaa

/-
  The compiled code of functions of the seat (written by mkcode.py). No condition.
-/
namespace Go.Proofs.Ytcgnehacihjnkaa
open Go.Lift

end Go.Proofs.Ytcgnehacihjnkaa
