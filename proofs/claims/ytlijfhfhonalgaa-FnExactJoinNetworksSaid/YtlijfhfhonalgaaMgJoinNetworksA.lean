/-
  The compiled code of functions of the seat (written by mkcode.py). No condition.
-/
import Derived.Test.YtlijfhfhonalgaaLiftE
import Derived.Test.YtlijfhfhonalgaaProg
import Derived.KernelRfl
namespace Go.Proofs.Ytlijfhfhonalgaa
open Go.Lift

def C_laws_FnExactJoinNetworks : Fun := ⟨3, 140,
 .seq (
 .reg [⟨some 3, none, .box (.t 0)⟩,
 ⟨some 4, none, .box (.t 1)⟩,
 ⟨some 6, none, .mv (.c (.d (.bool false)))⟩]) (
 .seq (
 .seq (
 .reg [⟨some 20, none, .mv (.t 2)⟩,
 ⟨some 21, none, .len (.t 20)⟩,
 ⟨some 22, none, .bin .gtr (.t 21) (.c (.d (.int 1048576)))⟩]) (
 .cond (.t 22) (
 .seq (
 .reg [⟨some 6, none, .mv (.c (.d (.bool true)))⟩]) (
 .ret)) (
 .skip))) (
 .seq (
 .reg [⟨some 7, none, .mv (.c (.d (.int 1048576)))⟩]) (
 .seq (
 .reg [⟨some 23, none, .ldn 5 (.t 3)⟩,
 ⟨some 24, none, .mv (.t 7)⟩,
 ⟨some 25, none, .call 26 [(.t 23), (.t 24)]⟩,
 ⟨some 7, none, .mv (.t 25)⟩]) (
 .seq (
 .seq (
 .reg [⟨some 26, none, .mv (.t 7)⟩,
 ⟨some 27, none, .bin .lss (.t 26) (.c (.d (.int 0)))⟩]) (
 .cond (.t 27) (
 .seq (
 .reg [⟨some 6, none, .mv (.c (.d (.bool true)))⟩]) (
 .ret)) (
 .skip))) (
 .seq (
 .reg [⟨some 28, none, .ldn 5 (.t 4)⟩,
 ⟨some 29, none, .mv (.t 7)⟩,
 ⟨some 30, none, .call 26 [(.t 28), (.t 29)]⟩,
 ⟨some 7, none, .mv (.t 30)⟩]) (
 .seq (
 .seq (
 .reg [⟨some 31, none, .mv (.t 7)⟩,
 ⟨some 32, none, .bin .lss (.t 31) (.c (.d (.int 0)))⟩]) (
 .cond (.t 32) (
 .seq (
 .reg [⟨some 6, none, .mv (.c (.d (.bool true)))⟩]) (
 .ret)) (
 .skip))) (
 .seq (
 .draw [⟨some 34, none, .ldn 5 (.t 3)⟩,
 ⟨some 35, none, .call 28 [(.t 34)]⟩,
 ⟨some 36, none, .ldn 5 (.t 4)⟩,
 ⟨some 37, none, .call 28 [(.t 36)]⟩,
 ⟨some 38, none, .mv (.t 2)⟩,
 ⟨some 39, none, .call 11 [(.t 38)]⟩,
 ⟨some 40, none, .call 27 [(.t 35), (.t 37), (.t 39)]⟩,
 ⟨some 33, none, .mv (.t 40)⟩,
 ⟨some 41, none, .ext 0 (.t 33)⟩,
 ⟨some 42, none, .ext 1 (.t 33)⟩,
 ⟨some 8, none, .zer [.d (.int 0), .d (.int 0), .d (.int 0), .nil, .nil]⟩]
 [⟨none, none, .st 5 (.t 8) (.t 41)⟩,
 ⟨some 9, none, .mv (.t 42)⟩]) (
 .seq (
 .reg [⟨some 43, none, .ldn 5 (.t 3)⟩,
 ⟨some 44, none, .call 28 [(.t 43)]⟩,
 ⟨some 10, none, .zer [.d (.int 0), .d (.int 0), .d (.int 0), .nil, .nil]⟩,
 ⟨none, none, .st 5 (.t 10) (.t 44)⟩]) (
 .seq (
 .reg [⟨some 45, none, .ldn 5 (.t 4)⟩,
 ⟨some 46, none, .call 28 [(.t 45)]⟩,
 ⟨some 11, none, .zer [.d (.int 0), .d (.int 0), .d (.int 0), .nil, .nil]⟩,
 ⟨none, none, .st 5 (.t 11) (.t 46)⟩]) (
 .seq (
 .reg [⟨some 47, none, .mv (.t 2)⟩,
 ⟨some 48, none, .call 11 [(.t 47)]⟩,
 ⟨some 12, none, .mv (.t 48)⟩]) (
 .seq (
 .reg [⟨some 50, none, .ldn 5 (.t 10)⟩,
 ⟨some 51, none, .ldn 5 (.t 11)⟩,
 ⟨some 52, none, .mv (.t 12)⟩,
 ⟨some 53, none, .call 29 [(.t 50), (.t 51), (.t 52)]⟩,
 ⟨some 49, none, .mv (.t 53)⟩,
 ⟨some 54, none, .ext 0 (.t 49)⟩,
 ⟨some 55, none, .ext 1 (.t 49)⟩,
 ⟨some 13, none, .zer [.d (.int 0), .d (.int 0), .d (.int 0), .nil, .nil]⟩,
 ⟨none, none, .st 5 (.t 13) (.t 54)⟩,
 ⟨some 14, none, .mv (.t 55)⟩]) (
 .seq (
 .seq (
 .reg [⟨some 56, none, .ldn 5 (.t 13)⟩,
 ⟨some 57, none, .ldn 5 (.t 8)⟩,
 ⟨some 58, none, .call 30 [(.t 56), (.t 57)]⟩,
 ⟨some 59, none, .not (.t 58)⟩,
 ⟨some 60, none, .mv (.t 59)⟩,
 ⟨some 61, some (60, false), .mv (.t 14)⟩,
 ⟨some 62, some (60, false), .mv (.t 9)⟩,
 ⟨some 63, some (60, false), .binb true (.t 61) (.t 62)⟩,
 ⟨some 64, none, .pick (.t 60) (.c (.d (.bool true))) (.t 63)⟩]) (
 .cond (.t 64) (
 .seq (
 .reg [⟨some 6, none, .mv (.c (.d (.bool false)))⟩]) (
 .ret)) (
 .skip))) (
 .seq (
 .seq (
 .draw [⟨some 65, none, .ldn 5 (.t 10)⟩,
 ⟨some 66, none, .ldn 5 (.t 3)⟩,
 ⟨some 67, none, .call 28 [(.t 66)]⟩]
 [⟨some 68, none, .call 30 [(.t 65), (.t 67)]⟩,
 ⟨some 69, none, .not (.t 68)⟩]) (
 .cond (.t 69) (
 .seq (
 .reg [⟨some 6, none, .mv (.c (.d (.bool false)))⟩]) (
 .ret)) (
 .skip))) (
 .seq (
 .seq (
 .draw [⟨some 70, none, .ldn 5 (.t 11)⟩,
 ⟨some 71, none, .ldn 5 (.t 4)⟩,
 ⟨some 72, none, .call 28 [(.t 71)]⟩]
 [⟨some 73, none, .call 30 [(.t 70), (.t 72)]⟩,
 ⟨some 74, none, .not (.t 73)⟩]) (
 .cond (.t 74) (
 .seq (
 .reg [⟨some 6, none, .mv (.c (.d (.bool false)))⟩]) (
 .ret)) (
 .skip))) (
 .seq (
 .seq (
 .reg [⟨some 75, none, .mv (.t 12)⟩,
 ⟨some 76, none, .mv (.t 2)⟩,
 ⟨some 77, none, .call 11 [(.t 76)]⟩,
 ⟨some 78, none, .call 14 [(.t 75), (.t 77)]⟩,
 ⟨some 79, none, .not (.t 78)⟩]) (
 .cond (.t 79) (
 .seq (
 .reg [⟨some 6, none, .mv (.c (.d (.bool false)))⟩]) (
 .ret)) (
 .skip))) (
 .seq (
 .reg [⟨some 15, none, .mv (.c (.d (.int 1)))⟩]) (
 .seq (
 .reg [⟨some 80, none, .ldn 5 (.t 10)⟩,
 ⟨some 81, none, .mv (.t 15)⟩,
 ⟨some 82, none, .call 31 [(.t 80), (.t 81)]⟩,
 ⟨some 15, none, .mv (.t 82)⟩]) (
 .seq (
 .reg [⟨some 83, none, .ldn 5 (.t 11)⟩,
 ⟨some 84, none, .mv (.t 15)⟩,
 ⟨some 85, none, .call 31 [(.t 83), (.t 84)]⟩,
 ⟨some 15, none, .mv (.t 85)⟩]) (
 .seq (
 .reg [⟨some 86, none, .mv (.t 12)⟩,
 ⟨some 87, none, .mv (.t 15)⟩,
 ⟨some 88, none, .call 16 [(.t 86), (.t 87)]⟩,
 ⟨some 15, none, .mv (.t 88)⟩]) (
 .seq (
 .seq (
 .reg [⟨some 89, none, .mv (.t 15)⟩,
 ⟨some 90, none, .bin .lss (.t 89) (.c (.d (.int 0)))⟩,
 ⟨some 91, none, .mv (.t 90)⟩,
 ⟨some 92, some (91, false), .ldn 5 (.t 13)⟩,
 ⟨some 93, some (91, false), .ldn 5 (.t 8)⟩,
 ⟨some 94, some (91, false), .call 30 [(.t 92), (.t 93)]⟩,
 ⟨some 95, some (91, false), .not (.t 94)⟩,
 ⟨some 96, none, .pick (.t 91) (.c (.d (.bool true))) (.t 95)⟩,
 ⟨some 97, none, .mv (.t 96)⟩,
 ⟨some 98, some (97, false), .mv (.t 14)⟩,
 ⟨some 99, some (97, false), .mv (.t 9)⟩,
 ⟨some 100, some (97, false), .binb true (.t 98) (.t 99)⟩,
 ⟨some 101, none, .pick (.t 97) (.c (.d (.bool true))) (.t 100)⟩]) (
 .cond (.t 101) (
 .seq (
 .reg [⟨some 6, none, .mv (.c (.d (.bool false)))⟩]) (
 .ret)) (
 .skip))) (
 .seq (
 .reg [⟨some 16, none, .mv (.c (.d (.int 1)))⟩]) (
 .seq (
 .reg [⟨some 102, none, .ldn 5 (.t 13)⟩,
 ⟨some 103, none, .mv (.t 16)⟩,
 ⟨some 104, none, .call 31 [(.t 102), (.t 103)]⟩,
 ⟨some 16, none, .mv (.t 104)⟩]) (
 .seq (
 .reg [⟨some 17, none, .mv (.c (.d (.int 1)))⟩]) (
 .seq (
 .reg [⟨some 105, none, .ldn 5 (.t 13)⟩,
 ⟨some 106, none, .mv (.t 17)⟩,
 ⟨some 107, none, .call 32 [(.t 105), (.t 106)]⟩,
 ⟨some 17, none, .mv (.t 107)⟩]) (
 .seq (
 .seq (
 .reg [⟨some 108, none, .mv (.t 17)⟩,
 ⟨some 109, none, .bin .lss (.t 108) (.c (.d (.int 0)))⟩]) (
 .cond (.t 109) (
 .seq (
 .reg [⟨some 6, none, .mv (.c (.d (.bool false)))⟩]) (
 .ret)) (
 .skip))) (
 .seq (
 .seq (
 .reg [⟨some 110, none, .mv (.t 17)⟩,
 ⟨some 111, none, .mv (.t 16)⟩,
 ⟨some 112, none, .bin .neq (.t 110) (.t 111)⟩]) (
 .cond (.t 112) (
 .seq (
 .reg [⟨some 6, none, .mv (.c (.d (.bool false)))⟩]) (
 .ret)) (
 .skip))) (
 .seq (
 .draw [⟨some 114, none, .ldn 5 (.t 3)⟩,
 ⟨some 115, none, .call 28 [(.t 114)]⟩,
 ⟨some 116, none, .ldn 5 (.t 4)⟩,
 ⟨some 117, none, .call 28 [(.t 116)]⟩,
 ⟨some 118, none, .mv (.t 2)⟩,
 ⟨some 119, none, .call 11 [(.t 118)]⟩,
 ⟨some 120, none, .call 29 [(.t 115), (.t 117), (.t 119)]⟩,
 ⟨some 113, none, .mv (.t 120)⟩,
 ⟨some 121, none, .ext 0 (.t 113)⟩,
 ⟨some 122, none, .ext 1 (.t 113)⟩,
 ⟨some 18, none, .zer [.d (.int 0), .d (.int 0), .d (.int 0), .nil, .nil]⟩]
 [⟨none, none, .st 5 (.t 18) (.t 121)⟩,
 ⟨some 19, none, .mv (.t 122)⟩]) (
 .seq (
 .seq (
 .reg [⟨some 123, none, .ldn 5 (.t 18)⟩,
 ⟨some 124, none, .ldn 5 (.t 8)⟩,
 ⟨some 125, none, .call 30 [(.t 123), (.t 124)]⟩,
 ⟨some 126, none, .not (.t 125)⟩,
 ⟨some 127, none, .mv (.t 126)⟩,
 ⟨some 128, some (127, false), .mv (.t 19)⟩,
 ⟨some 129, some (127, false), .mv (.t 9)⟩,
 ⟨some 130, some (127, false), .binb true (.t 128) (.t 129)⟩,
 ⟨some 131, none, .pick (.t 127) (.c (.d (.bool true))) (.t 130)⟩]) (
 .cond (.t 131) (
 .seq (
 .reg [⟨some 6, none, .mv (.c (.d (.bool false)))⟩]) (
 .ret)) (
 .skip))) (
 .seq (
 .reg [⟨some 17, none, .mv (.c (.d (.int 1)))⟩]) (
 .seq (
 .reg [⟨some 132, none, .ldn 5 (.t 13)⟩,
 ⟨some 133, none, .mv (.t 17)⟩,
 ⟨some 134, none, .call 32 [(.t 132), (.t 133)]⟩,
 ⟨some 17, none, .mv (.t 134)⟩]) (
 .seq (
 .seq (
 .reg [⟨some 135, none, .mv (.t 17)⟩,
 ⟨some 136, none, .bin .lss (.t 135) (.c (.d (.int 0)))⟩]) (
 .cond (.t 136) (
 .seq (
 .reg [⟨some 6, none, .mv (.c (.d (.bool false)))⟩]) (
 .ret)) (
 .skip))) (
 .seq (
 .seq (
 .reg [⟨some 137, none, .mv (.t 17)⟩,
 ⟨some 138, none, .mv (.t 16)⟩,
 ⟨some 139, none, .bin .neq (.t 137) (.t 138)⟩]) (
 .cond (.t 139) (
 .seq (
 .reg [⟨some 6, none, .mv (.c (.d (.bool false)))⟩]) (
 .ret)) (
 .skip))) (
 .seq (
 .reg [⟨some 6, none, .mv (.c (.d (.bool true)))⟩]) (
 .ret)))))))))))))))))))))))))))))))))),
 [.t 6]⟩

theorem k_laws_FnExactJoinNetworks : cFun Try.prog Try.f6 = some C_laws_FnExactJoinNetworks.erase := by kernel_rfl

end Go.Proofs.Ytlijfhfhonalgaa

/-
  The compiled code of functions of the seat (written by mkcode.py). No condition.
-/
namespace Go.Proofs.Ytlijfhfhonalgaa
open Go.Lift

def L0_spec_JoinNetworks : C :=
 .seq (
 .reg [⟨some 32, none, .bin .lss (.t 31) (.t 30)⟩]) (
 .seq (
 .cond (.t 32) (
 .skip) (
 .exit 0)) (
 .seq (
 .block 1 (
 .seq (
 .reg [⟨some 33, none, .idx 1 (.t 29) (.t 31)⟩,
 ⟨some 34, none, .ld (.t 33)⟩,
 ⟨some 9, none, .mv (.t 34)⟩]) (
 .seq (
 .reg [⟨some 35, none, .fld 3 (.t 4)⟩,
 ⟨some 36, none, .ld (.t 35)⟩,
 ⟨some 37, none, .mv (.t 9)⟩,
 ⟨some 38, none, .call 60 [(.t 36), (.t 37)]⟩,
 ⟨some 39, none, .bin .gtr (.t 38) (.c (.d (.int 0)))⟩,
 ⟨some 40, none, .mv (.t 39)⟩,
 ⟨some 41, some (40, true), .fld 4 (.t 3)⟩,
 ⟨some 42, some (40, true), .ld (.t 41)⟩,
 ⟨some 43, some (40, true), .mv (.t 9)⟩,
 ⟨some 44, some (40, true), .call 34 [(.t 42), (.t 43)]⟩,
 ⟨some 45, some (40, true), .bin .lss (.t 44) (.c (.d (.int 0)))⟩,
 ⟨some 46, some (40, true), .mv (.t 45)⟩,
 ⟨some 47, some (46, false), .fld 4 (.t 4)⟩,
 ⟨some 48, some (46, false), .ld (.t 47)⟩,
 ⟨some 49, some (46, false), .mv (.t 9)⟩,
 ⟨some 50, some (46, false), .call 34 [(.t 48), (.t 49)]⟩,
 ⟨some 51, some (46, false), .bin .lss (.t 50) (.c (.d (.int 0)))⟩,
 ⟨some 52, some (40, true), .pick (.t 46) (.c (.d (.bool true))) (.t 51)⟩,
 ⟨some 53, none, .pick (.t 40) (.t 52) (.c (.d (.bool false)))⟩]) (
 .cond (.t 53) (
 .seq (
 .reg [⟨some 54, none, .agg [.d (.int 0), .d (.int 0), .d (.int 0), .nil, .nil] []⟩,
 ⟨none, none, .st 5 (.t 6) (.t 54)⟩,
 ⟨some 7, none, .mv (.c (.d (.bool false)))⟩]) (
 .ret)) (
 .skip))))) (
 .reg [⟨some 55, none, .bin .add (.t 31) (.c (.d (.int 1)))⟩,
 ⟨some 31, none, .mv (.t 55)⟩])))

def C_spec_JoinNetworks : Fun := ⟨3, 73,
 .seq (
 .reg [⟨some 3, none, .box (.t 0)⟩,
 ⟨some 4, none, .box (.t 1)⟩,
 ⟨some 6, none, .zer [.d (.int 0), .d (.int 0), .d (.int 0), .nil, .nil]⟩,
 ⟨some 7, none, .mv (.c (.d (.bool false)))⟩]) (
 .seq (
 .seq (
 .reg [⟨some 11, none, .ldn 5 (.t 3)⟩,
 ⟨some 12, none, .call 58 [(.t 11)]⟩,
 ⟨some 13, none, .not (.t 12)⟩,
 ⟨some 14, none, .mv (.t 13)⟩,
 ⟨some 15, some (14, false), .ldn 5 (.t 4)⟩,
 ⟨some 16, some (14, false), .call 58 [(.t 15)]⟩,
 ⟨some 17, some (14, false), .not (.t 16)⟩,
 ⟨some 18, none, .pick (.t 14) (.c (.d (.bool true))) (.t 17)⟩,
 ⟨some 19, none, .mv (.t 18)⟩,
 ⟨some 20, some (19, false), .fld 0 (.t 3)⟩,
 ⟨some 21, some (19, false), .ldn 3 (.t 20)⟩,
 ⟨some 22, some (19, false), .fld 0 (.t 4)⟩,
 ⟨some 23, some (19, false), .ldn 3 (.t 22)⟩,
 ⟨some 24, some (19, false), .eqs true 3 (.t 21) (.t 23)⟩,
 ⟨some 25, none, .pick (.t 19) (.c (.d (.bool true))) (.t 24)⟩]) (
 .cond (.t 25) (
 .seq (
 .reg [⟨some 26, none, .agg [.d (.int 0), .d (.int 0), .d (.int 0), .nil, .nil] []⟩,
 ⟨none, none, .st 5 (.t 6) (.t 26)⟩,
 ⟨some 7, none, .mv (.c (.d (.bool false)))⟩]) (
 .ret)) (
 .skip))) (
 .seq (
 .seq (
 .reg [⟨some 27, none, .fld 3 (.t 3)⟩,
 ⟨some 28, none, .ld (.t 27)⟩,
 ⟨some 29, none, .call 59 [(.t 28)]⟩,
 ⟨some 30, none, .len (.t 29)⟩,
 ⟨some 31, none, .mv (.c (.d (.int 0)))⟩]) (
 .block 0 (
 .loop L0_spec_JoinNetworks))) (
 .seq (
 .reg [⟨some 56, none, .ldn 5 (.t 3)⟩,
 ⟨some 57, none, .call 61 [(.t 56)]⟩,
 ⟨some 10, none, .zer [.d (.int 0), .d (.int 0), .d (.int 0), .nil, .nil]⟩,
 ⟨none, none, .st 5 (.t 10) (.t 57)⟩]) (
 .seq (
 .gh (.draw [⟨some 58, none, .fld 3 (.t 10)⟩,
 ⟨some 59, none, .ld (.t 58)⟩,
 ⟨some 60, none, .ldn 5 (.t 4)⟩,
 ⟨some 61, none, .call 61 [(.t 60)]⟩,
 ⟨some 62, none, .fdv 3 1 false (.t 61)⟩]
 [⟨some 63, none, .app 3 72 [.nil, .nil, .nil] (.t 59) (.t 62)⟩,
 ⟨some 64, none, .fld 3 (.t 10)⟩,
 ⟨none, none, .st 1 (.t 64) (.t 63)⟩])) (
 .seq (
 .reg [⟨some 65, none, .mv (.t 2)⟩,
 ⟨some 66, none, .call 40 [(.t 65)]⟩,
 ⟨some 67, none, .fld 4 (.t 10)⟩,
 ⟨none, none, .st 1 (.t 67) (.t 66)⟩]) (
 .seq (
 .seq (
 .reg [⟨some 68, none, .ldn 5 (.t 10)⟩,
 ⟨some 69, none, .call 58 [(.t 68)]⟩,
 ⟨some 70, none, .not (.t 69)⟩]) (
 .cond (.t 70) (
 .seq (
 .reg [⟨some 71, none, .agg [.d (.int 0), .d (.int 0), .d (.int 0), .nil, .nil] []⟩,
 ⟨none, none, .st 5 (.t 6) (.t 71)⟩,
 ⟨some 7, none, .mv (.c (.d (.bool false)))⟩]) (
 .ret)) (
 .skip))) (
 .seq (
 .reg [⟨some 72, none, .ldn 5 (.t 10)⟩,
 ⟨none, none, .st 5 (.t 6) (.t 72)⟩,
 ⟨some 7, none, .mv (.c (.d (.bool true)))⟩]) (
 .ret)))))))),
 [.cell 6 5, .t 7]⟩

theorem k_spec_JoinNetworks : cFun Try.prog Try.f27 = some C_spec_JoinNetworks.erase := by kernel_rfl

def L0_impl_JoinNetworks : C :=
 .seq (
 .reg [⟨some 31, none, .bin .lss (.t 30) (.t 29)⟩]) (
 .seq (
 .cond (.t 31) (
 .skip) (
 .exit 0)) (
 .seq (
 .block 1 (
 .seq (
 .reg [⟨some 32, none, .idx 1 (.t 28) (.t 30)⟩,
 ⟨some 33, none, .ld (.t 32)⟩,
 ⟨some 9, none, .mv (.t 33)⟩]) (
 .seq (
 .reg [⟨some 34, none, .ldn 5 (.t 4)⟩,
 ⟨some 35, none, .mv (.t 9)⟩,
 ⟨some 36, none, .call 64 [(.t 34), (.t 35)]⟩,
 ⟨some 37, none, .bin .neq (.t 36) (.c (.d (.int 0)))⟩,
 ⟨some 38, none, .mv (.t 37)⟩,
 ⟨some 39, some (38, true), .fld 4 (.t 3)⟩,
 ⟨some 40, some (38, true), .ld (.t 39)⟩,
 ⟨some 41, some (38, true), .mv (.t 9)⟩,
 ⟨some 42, some (38, true), .call 49 [(.t 40), (.t 41)]⟩,
 ⟨some 43, some (38, true), .mv (.t 42)⟩,
 ⟨some 44, some (43, true), .fld 4 (.t 4)⟩,
 ⟨some 45, some (43, true), .ld (.t 44)⟩,
 ⟨some 46, some (43, true), .mv (.t 9)⟩,
 ⟨some 47, some (43, true), .call 49 [(.t 45), (.t 46)]⟩,
 ⟨some 48, some (38, true), .pick (.t 43) (.t 47) (.c (.d (.bool false)))⟩,
 ⟨some 49, some (38, true), .not (.t 48)⟩,
 ⟨some 50, none, .pick (.t 38) (.t 49) (.c (.d (.bool false)))⟩]) (
 .cond (.t 50) (
 .seq (
 .reg [⟨some 51, none, .agg [.d (.int 0), .d (.int 0), .d (.int 0), .nil, .nil] []⟩,
 ⟨none, none, .st 5 (.t 6) (.t 51)⟩,
 ⟨some 7, none, .mv (.c (.d (.bool false)))⟩]) (
 .ret)) (
 .skip))))) (
 .reg [⟨some 52, none, .bin .add (.t 30) (.c (.d (.int 1)))⟩,
 ⟨some 30, none, .mv (.t 52)⟩])))

def C_impl_JoinNetworks : Fun := ⟨3, 70,
 .seq (
 .reg [⟨some 3, none, .box (.t 0)⟩,
 ⟨some 4, none, .box (.t 1)⟩,
 ⟨some 6, none, .zer [.d (.int 0), .d (.int 0), .d (.int 0), .nil, .nil]⟩,
 ⟨some 7, none, .mv (.c (.d (.bool false)))⟩]) (
 .seq (
 .seq (
 .reg [⟨some 11, none, .ldn 5 (.t 3)⟩,
 ⟨some 12, none, .call 62 [(.t 11)]⟩,
 ⟨some 13, none, .not (.t 12)⟩,
 ⟨some 14, none, .mv (.t 13)⟩,
 ⟨some 15, some (14, false), .ldn 5 (.t 4)⟩,
 ⟨some 16, some (14, false), .call 62 [(.t 15)]⟩,
 ⟨some 17, some (14, false), .not (.t 16)⟩,
 ⟨some 18, none, .pick (.t 14) (.c (.d (.bool true))) (.t 17)⟩,
 ⟨some 19, none, .mv (.t 18)⟩,
 ⟨some 20, some (19, false), .fld 0 (.t 3)⟩,
 ⟨some 21, some (19, false), .ldn 3 (.t 20)⟩,
 ⟨some 22, some (19, false), .fld 0 (.t 4)⟩,
 ⟨some 23, some (19, false), .ldn 3 (.t 22)⟩,
 ⟨some 24, some (19, false), .eqs true 3 (.t 21) (.t 23)⟩,
 ⟨some 25, none, .pick (.t 19) (.c (.d (.bool true))) (.t 24)⟩]) (
 .cond (.t 25) (
 .seq (
 .reg [⟨some 26, none, .agg [.d (.int 0), .d (.int 0), .d (.int 0), .nil, .nil] []⟩,
 ⟨none, none, .st 5 (.t 6) (.t 26)⟩,
 ⟨some 7, none, .mv (.c (.d (.bool false)))⟩]) (
 .ret)) (
 .skip))) (
 .seq (
 .seq (
 .reg [⟨some 27, none, .ldn 5 (.t 3)⟩,
 ⟨some 28, none, .call 63 [(.t 27)]⟩,
 ⟨some 29, none, .len (.t 28)⟩,
 ⟨some 30, none, .mv (.c (.d (.int 0)))⟩]) (
 .block 0 (
 .loop L0_impl_JoinNetworks))) (
 .seq (
 .reg [⟨some 53, none, .ldn 5 (.t 3)⟩,
 ⟨some 54, none, .call 65 [(.t 53)]⟩,
 ⟨some 10, none, .zer [.d (.int 0), .d (.int 0), .d (.int 0), .nil, .nil]⟩,
 ⟨none, none, .st 5 (.t 10) (.t 54)⟩]) (
 .seq (
 .gh (.draw [⟨some 55, none, .fld 3 (.t 10)⟩,
 ⟨some 56, none, .ld (.t 55)⟩,
 ⟨some 57, none, .ldn 5 (.t 4)⟩,
 ⟨some 58, none, .call 65 [(.t 57)]⟩,
 ⟨some 59, none, .fdv 3 1 false (.t 58)⟩]
 [⟨some 60, none, .app 3 72 [.nil, .nil, .nil] (.t 56) (.t 59)⟩,
 ⟨some 61, none, .fld 3 (.t 10)⟩,
 ⟨none, none, .st 1 (.t 61) (.t 60)⟩])) (
 .seq (
 .reg [⟨some 62, none, .mv (.t 2)⟩,
 ⟨some 63, none, .call 47 [(.t 62)]⟩,
 ⟨some 64, none, .fld 4 (.t 10)⟩,
 ⟨none, none, .st 1 (.t 64) (.t 63)⟩]) (
 .seq (
 .seq (
 .reg [⟨some 65, none, .ldn 5 (.t 10)⟩,
 ⟨some 66, none, .call 62 [(.t 65)]⟩,
 ⟨some 67, none, .not (.t 66)⟩]) (
 .cond (.t 67) (
 .seq (
 .reg [⟨some 68, none, .agg [.d (.int 0), .d (.int 0), .d (.int 0), .nil, .nil] []⟩,
 ⟨none, none, .st 5 (.t 6) (.t 68)⟩,
 ⟨some 7, none, .mv (.c (.d (.bool false)))⟩]) (
 .ret)) (
 .skip))) (
 .seq (
 .reg [⟨some 69, none, .ldn 5 (.t 10)⟩,
 ⟨none, none, .st 5 (.t 6) (.t 69)⟩,
 ⟨some 7, none, .mv (.c (.d (.bool true)))⟩]) (
 .ret)))))))),
 [.cell 6 5, .t 7]⟩

theorem k_impl_JoinNetworks : cFun Try.prog Try.f29 = some C_impl_JoinNetworks.erase := by kernel_rfl

end Go.Proofs.Ytlijfhfhonalgaa

/-
  The compiled code of functions of the seat (written by mkcode.py). No condition.
-/
namespace Go.Proofs.Ytlijfhfhonalgaa
open Go.Lift

def L0_spec_l14Copy : C :=
 .seq (
 .reg [⟨some 16, none, .bin .lss (.t 15) (.t 14)⟩]) (
 .seq (
 .cond (.t 16) (
 .skip) (
 .exit 0)) (
 .seq (
 .block 1 (
 .seq (
 .reg [⟨some 17, none, .idx 3 (.t 13) (.t 15)⟩,
 ⟨some 18, none, .ldn 3 (.t 17)⟩,
 ⟨some 5, none, .zer [.nil, .nil, .nil]⟩,
 ⟨none, none, .st 3 (.t 5) (.t 18)⟩]) (
 .draw [⟨some 19, none, .fld 3 (.t 3)⟩,
 ⟨some 20, none, .ld (.t 19)⟩,
 ⟨some 21, none, .ldn 3 (.t 5)⟩,
 ⟨some 22, none, .call 84 [(.t 21)]⟩,
 ⟨some 23, none, .mksl 3 1 [.nil, .nil, .nil] [(0, 3, (.t 22))]⟩]
 [⟨some 24, none, .app 3 72 [.nil, .nil, .nil] (.t 20) (.t 23)⟩,
 ⟨some 25, none, .fld 3 (.t 3)⟩,
 ⟨none, none, .st 1 (.t 25) (.t 24)⟩]))) (
 .reg [⟨some 26, none, .bin .add (.t 15) (.c (.d (.int 1)))⟩,
 ⟨some 15, none, .mv (.t 26)⟩])))

def C_spec_l14Copy : Fun := ⟨1, 28,
 .seq (
 .reg [⟨some 1, none, .box (.t 0)⟩,
 ⟨some 2, none, .zer [.d (.int 0), .d (.int 0), .d (.int 0), .nil, .nil]⟩]) (
 .seq (
 .draw [⟨some 6, none, .fld 0 (.t 1)⟩,
 ⟨some 7, none, .ldn 3 (.t 6)⟩,
 ⟨some 8, none, .fld 4 (.t 1)⟩,
 ⟨some 9, none, .ld (.t 8)⟩,
 ⟨some 10, none, .call 40 [(.t 9)]⟩,
 ⟨some 11, none, .agg [.d (.int 0), .d (.int 0), .d (.int 0), .nil, .nil] [(0, 3, (.t 7)), (4, 1, (.t 10))]⟩,
 ⟨some 3, none, .zer [.d (.int 0), .d (.int 0), .d (.int 0), .nil, .nil]⟩]
 [⟨none, none, .st 5 (.t 3) (.t 11)⟩]) (
 .seq (
 .seq (
 .reg [⟨some 12, none, .fld 3 (.t 1)⟩,
 ⟨some 13, none, .ld (.t 12)⟩,
 ⟨some 14, none, .len (.t 13)⟩,
 ⟨some 15, none, .mv (.c (.d (.int 0)))⟩]) (
 .block 0 (
 .loop L0_spec_l14Copy))) (
 .seq (
 .reg [⟨some 27, none, .ldn 5 (.t 3)⟩,
 ⟨none, none, .st 5 (.t 2) (.t 27)⟩]) (
 .ret)))),
 [.cell 2 5]⟩

theorem k_spec_l14Copy : cFun Try.prog Try.f61 = some C_spec_l14Copy.erase := by kernel_rfl

def L0_impl_copyNetwork : C :=
 .seq (
 .reg [⟨some 16, none, .bin .lss (.t 15) (.t 14)⟩]) (
 .seq (
 .cond (.t 16) (
 .skip) (
 .exit 0)) (
 .seq (
 .block 1 (
 .seq (
 .reg [⟨some 17, none, .idx 3 (.t 13) (.t 15)⟩,
 ⟨some 18, none, .ldn 3 (.t 17)⟩,
 ⟨some 5, none, .zer [.nil, .nil, .nil]⟩,
 ⟨none, none, .st 3 (.t 5) (.t 18)⟩]) (
 .draw [⟨some 19, none, .fld 3 (.t 3)⟩,
 ⟨some 20, none, .ld (.t 19)⟩,
 ⟨some 21, none, .ldn 3 (.t 5)⟩,
 ⟨some 22, none, .call 88 [(.t 21)]⟩,
 ⟨some 23, none, .mksl 3 1 [.nil, .nil, .nil] [(0, 3, (.t 22))]⟩]
 [⟨some 24, none, .app 3 72 [.nil, .nil, .nil] (.t 20) (.t 23)⟩,
 ⟨some 25, none, .fld 3 (.t 3)⟩,
 ⟨none, none, .st 1 (.t 25) (.t 24)⟩]))) (
 .reg [⟨some 26, none, .bin .add (.t 15) (.c (.d (.int 1)))⟩,
 ⟨some 15, none, .mv (.t 26)⟩])))

def C_impl_copyNetwork : Fun := ⟨1, 28,
 .seq (
 .reg [⟨some 1, none, .box (.t 0)⟩,
 ⟨some 2, none, .zer [.d (.int 0), .d (.int 0), .d (.int 0), .nil, .nil]⟩]) (
 .seq (
 .draw [⟨some 6, none, .fld 0 (.t 1)⟩,
 ⟨some 7, none, .ldn 3 (.t 6)⟩,
 ⟨some 8, none, .fld 4 (.t 1)⟩,
 ⟨some 9, none, .ld (.t 8)⟩,
 ⟨some 10, none, .call 47 [(.t 9)]⟩,
 ⟨some 11, none, .agg [.d (.int 0), .d (.int 0), .d (.int 0), .nil, .nil] [(0, 3, (.t 7)), (4, 1, (.t 10))]⟩,
 ⟨some 3, none, .zer [.d (.int 0), .d (.int 0), .d (.int 0), .nil, .nil]⟩]
 [⟨none, none, .st 5 (.t 3) (.t 11)⟩]) (
 .seq (
 .seq (
 .reg [⟨some 12, none, .fld 3 (.t 1)⟩,
 ⟨some 13, none, .ld (.t 12)⟩,
 ⟨some 14, none, .len (.t 13)⟩,
 ⟨some 15, none, .mv (.c (.d (.int 0)))⟩]) (
 .block 0 (
 .loop L0_impl_copyNetwork))) (
 .seq (
 .reg [⟨some 27, none, .ldn 5 (.t 3)⟩,
 ⟨none, none, .st 5 (.t 2) (.t 27)⟩]) (
 .ret)))),
 [.cell 2 5]⟩

theorem k_impl_copyNetwork : cFun Try.prog Try.f65 = some C_impl_copyNetwork.erase := by kernel_rfl

end Go.Proofs.Ytlijfhfhonalgaa

/-
  The compiled code of functions of the seat (written by mkcode.py). No condition.
-/
namespace Go.Proofs.Ytlijfhfhonalgaa
open Go.Lift

def C_laws_markNetwork : Fun := ⟨2, 14,
 .seq (
 .reg [⟨some 2, none, .box (.t 0)⟩,
 ⟨some 4, none, .mv (.c (.d (.int 0)))⟩]) (
 .seq (
 .reg [⟨some 5, none, .fld 3 (.t 2)⟩,
 ⟨some 6, none, .ld (.t 5)⟩,
 ⟨some 7, none, .mv (.t 1)⟩,
 ⟨some 8, none, .call 25 [(.t 6), (.t 7)]⟩,
 ⟨some 1, none, .mv (.t 8)⟩]) (
 .seq (
 .reg [⟨some 9, none, .fld 4 (.t 2)⟩,
 ⟨some 10, none, .ld (.t 9)⟩,
 ⟨some 11, none, .mv (.t 1)⟩,
 ⟨some 12, none, .call 16 [(.t 10), (.t 11)]⟩,
 ⟨some 1, none, .mv (.t 12)⟩]) (
 .seq (
 .reg [⟨some 13, none, .mv (.t 1)⟩,
 ⟨some 4, none, .mv (.t 13)⟩]) (
 .ret)))),
 [.t 4]⟩

theorem k_laws_markNetwork : cFun Try.prog Try.f31 = some C_laws_markNetwork.erase := by kernel_rfl

def L0_laws_markTensorS : C :=
 .seq (
 .seq (
 .reg [⟨some 6, none, .mv (.t 5)⟩,
 ⟨some 7, none, .mv (.t 0)⟩,
 ⟨some 8, none, .len (.t 7)⟩,
 ⟨some 9, none, .bin .lss (.t 6) (.t 8)⟩]) (
 .gh (.cond (.t 9) (
 .skip) (
 .exit 0)))) (
 .seq (
 .block 1 (
 .seq (
 .reg [⟨some 12, none, .mv (.t 0)⟩,
 ⟨some 13, none, .mv (.t 5)⟩,
 ⟨some 14, none, .idx 3 (.t 12) (.t 13)⟩,
 ⟨some 15, none, .fld 0 (.t 14)⟩,
 ⟨some 16, none, .ld (.t 15)⟩,
 ⟨some 17, none, .mv (.t 1)⟩,
 ⟨some 18, none, .call 16 [(.t 16), (.t 17)]⟩,
 ⟨some 1, none, .mv (.t 18)⟩]) (
 .seq (
 .reg [⟨some 19, none, .mv (.t 0)⟩,
 ⟨some 20, none, .mv (.t 5)⟩,
 ⟨some 21, none, .idx 3 (.t 19) (.t 20)⟩,
 ⟨some 22, none, .fld 1 (.t 21)⟩,
 ⟨some 23, none, .ld (.t 22)⟩,
 ⟨some 24, none, .mv (.t 1)⟩,
 ⟨some 25, none, .call 16 [(.t 23), (.t 24)]⟩,
 ⟨some 1, none, .mv (.t 25)⟩]) (
 .reg [⟨some 26, none, .mv (.t 0)⟩,
 ⟨some 27, none, .mv (.t 5)⟩,
 ⟨some 28, none, .idx 3 (.t 26) (.t 27)⟩,
 ⟨some 29, none, .fld 2 (.t 28)⟩,
 ⟨some 30, none, .ld (.t 29)⟩,
 ⟨some 31, none, .mv (.t 1)⟩,
 ⟨some 32, none, .call 16 [(.t 30), (.t 31)]⟩,
 ⟨some 1, none, .mv (.t 32)⟩])))) (
 .reg [⟨some 10, none, .mv (.t 5)⟩,
 ⟨some 11, none, .bin .add (.t 10) (.c (.d (.int 1)))⟩,
 ⟨some 5, none, .mv (.t 11)⟩]))

def C_laws_markTensorS : Fun := ⟨2, 34,
 .seq (
 .reg [⟨some 4, none, .mv (.c (.d (.int 0)))⟩]) (
 .seq (
 .seq (
 .reg [⟨some 5, none, .mv (.c (.d (.int 0)))⟩]) (
 .block 0 (
 .loop L0_laws_markTensorS))) (
 .seq (
 .reg [⟨some 33, none, .mv (.t 1)⟩,
 ⟨some 4, none, .mv (.t 33)⟩]) (
 .ret))),
 [.t 4]⟩

theorem k_laws_markTensorS : cFun Try.prog Try.f25 = some C_laws_markTensorS.erase := by kernel_rfl

def C_laws_heldNetwork : Fun := ⟨2, 18,
 .seq (
 .reg [⟨some 2, none, .box (.t 0)⟩,
 ⟨some 4, none, .mv (.c (.d (.int 0)))⟩]) (
 .seq (
 .reg [⟨some 5, none, .fld 3 (.t 2)⟩,
 ⟨some 6, none, .ld (.t 5)⟩,
 ⟨some 7, none, .mv (.t 1)⟩,
 ⟨some 8, none, .call 67 [(.t 6), (.t 7)]⟩,
 ⟨some 1, none, .mv (.t 8)⟩]) (
 .seq (
 .seq (
 .reg [⟨some 9, none, .mv (.t 1)⟩,
 ⟨some 10, none, .bin .lss (.t 9) (.c (.d (.int 0)))⟩]) (
 .cond (.t 10) (
 .seq (
 .reg [⟨some 4, none, .mv (.c (.d (.int (-1))))⟩]) (
 .ret)) (
 .skip))) (
 .seq (
 .reg [⟨some 11, none, .fld 4 (.t 2)⟩,
 ⟨some 12, none, .ld (.t 11)⟩,
 ⟨some 13, none, .mv (.t 1)⟩,
 ⟨some 14, none, .call 48 [(.t 12), (.t 13)]⟩,
 ⟨some 1, none, .mv (.t 14)⟩]) (
 .seq (
 .seq (
 .reg [⟨some 15, none, .mv (.t 1)⟩,
 ⟨some 16, none, .bin .lss (.t 15) (.c (.d (.int 0)))⟩]) (
 .cond (.t 16) (
 .seq (
 .reg [⟨some 4, none, .mv (.c (.d (.int (-1))))⟩]) (
 .ret)) (
 .skip))) (
 .seq (
 .reg [⟨some 17, none, .mv (.t 1)⟩,
 ⟨some 4, none, .mv (.t 17)⟩]) (
 .ret)))))),
 [.t 4]⟩

theorem k_laws_heldNetwork : cFun Try.prog Try.f32 = some C_laws_heldNetwork.erase := by kernel_rfl

def L0_laws_heldTensorS : C :=
 .seq (
 .seq (
 .reg [⟨some 6, none, .mv (.t 5)⟩,
 ⟨some 7, none, .mv (.t 0)⟩,
 ⟨some 8, none, .len (.t 7)⟩,
 ⟨some 9, none, .bin .lss (.t 6) (.t 8)⟩]) (
 .cond (.t 9) (
 .skip) (
 .exit 0))) (
 .seq (
 .block 1 (
 .seq (
 .reg [⟨some 12, none, .mv (.t 0)⟩,
 ⟨some 13, none, .mv (.t 5)⟩,
 ⟨some 14, none, .idx 3 (.t 12) (.t 13)⟩,
 ⟨some 15, none, .fld 0 (.t 14)⟩,
 ⟨some 16, none, .ld (.t 15)⟩,
 ⟨some 17, none, .mv (.t 1)⟩,
 ⟨some 18, none, .call 48 [(.t 16), (.t 17)]⟩,
 ⟨some 1, none, .mv (.t 18)⟩]) (
 .seq (
 .seq (
 .reg [⟨some 19, none, .mv (.t 1)⟩,
 ⟨some 20, none, .bin .lss (.t 19) (.c (.d (.int 0)))⟩]) (
 .cond (.t 20) (
 .seq (
 .reg [⟨some 4, none, .mv (.c (.d (.int (-1))))⟩]) (
 .ret)) (
 .skip))) (
 .seq (
 .reg [⟨some 21, none, .mv (.t 0)⟩,
 ⟨some 22, none, .mv (.t 5)⟩,
 ⟨some 23, none, .idx 3 (.t 21) (.t 22)⟩,
 ⟨some 24, none, .fld 1 (.t 23)⟩,
 ⟨some 25, none, .ld (.t 24)⟩,
 ⟨some 26, none, .mv (.t 1)⟩,
 ⟨some 27, none, .call 48 [(.t 25), (.t 26)]⟩,
 ⟨some 1, none, .mv (.t 27)⟩]) (
 .seq (
 .seq (
 .reg [⟨some 28, none, .mv (.t 1)⟩,
 ⟨some 29, none, .bin .lss (.t 28) (.c (.d (.int 0)))⟩]) (
 .cond (.t 29) (
 .seq (
 .reg [⟨some 4, none, .mv (.c (.d (.int (-1))))⟩]) (
 .ret)) (
 .skip))) (
 .seq (
 .reg [⟨some 30, none, .mv (.t 0)⟩,
 ⟨some 31, none, .mv (.t 5)⟩,
 ⟨some 32, none, .idx 3 (.t 30) (.t 31)⟩,
 ⟨some 33, none, .fld 2 (.t 32)⟩,
 ⟨some 34, none, .ld (.t 33)⟩,
 ⟨some 35, none, .mv (.t 1)⟩,
 ⟨some 36, none, .call 48 [(.t 34), (.t 35)]⟩,
 ⟨some 1, none, .mv (.t 36)⟩]) (
 .seq (
 .reg [⟨some 37, none, .mv (.t 1)⟩,
 ⟨some 38, none, .bin .lss (.t 37) (.c (.d (.int 0)))⟩]) (
 .cond (.t 38) (
 .seq (
 .reg [⟨some 4, none, .mv (.c (.d (.int (-1))))⟩]) (
 .ret)) (
 .skip))))))))) (
 .reg [⟨some 10, none, .mv (.t 5)⟩,
 ⟨some 11, none, .bin .add (.t 10) (.c (.d (.int 1)))⟩,
 ⟨some 5, none, .mv (.t 11)⟩]))

def C_laws_heldTensorS : Fun := ⟨2, 40,
 .seq (
 .reg [⟨some 4, none, .mv (.c (.d (.int 0)))⟩]) (
 .seq (
 .seq (
 .reg [⟨some 5, none, .mv (.c (.d (.int 0)))⟩]) (
 .block 0 (
 .loop L0_laws_heldTensorS))) (
 .seq (
 .reg [⟨some 39, none, .mv (.t 1)⟩,
 ⟨some 4, none, .mv (.t 39)⟩]) (
 .ret))),
 [.t 4]⟩

theorem k_laws_heldTensorS : cFun Try.prog Try.f67 = some C_laws_heldTensorS.erase := by kernel_rfl

end Go.Proofs.Ytlijfhfhonalgaa

/-
  The compiled code of functions of the seat (written by mkcode.py). No condition.
-/
namespace Go.Proofs.Ytlijfhfhonalgaa
open Go.Lift

def C_laws_szNetwork : Fun := ⟨2, 18,
 .seq (
 .reg [⟨some 2, none, .box (.t 0)⟩,
 ⟨some 4, none, .mv (.c (.d (.int 0)))⟩]) (
 .seq (
 .reg [⟨some 5, none, .fld 3 (.t 2)⟩,
 ⟨some 6, none, .ld (.t 5)⟩,
 ⟨some 7, none, .mv (.t 1)⟩,
 ⟨some 8, none, .call 20 [(.t 6), (.t 7)]⟩,
 ⟨some 1, none, .mv (.t 8)⟩]) (
 .seq (
 .seq (
 .reg [⟨some 9, none, .mv (.t 1)⟩,
 ⟨some 10, none, .bin .lss (.t 9) (.c (.d (.int 0)))⟩]) (
 .cond (.t 10) (
 .seq (
 .reg [⟨some 4, none, .mv (.c (.d (.int (-1))))⟩]) (
 .ret)) (
 .skip))) (
 .seq (
 .reg [⟨some 11, none, .fld 4 (.t 2)⟩,
 ⟨some 12, none, .ld (.t 11)⟩,
 ⟨some 13, none, .mv (.t 1)⟩,
 ⟨some 14, none, .call 33 [(.t 12), (.t 13)]⟩,
 ⟨some 1, none, .mv (.t 14)⟩]) (
 .seq (
 .seq (
 .reg [⟨some 15, none, .mv (.t 1)⟩,
 ⟨some 16, none, .bin .lss (.t 15) (.c (.d (.int 0)))⟩]) (
 .cond (.t 16) (
 .seq (
 .reg [⟨some 4, none, .mv (.c (.d (.int (-1))))⟩]) (
 .ret)) (
 .skip))) (
 .seq (
 .reg [⟨some 17, none, .mv (.t 1)⟩,
 ⟨some 4, none, .mv (.t 17)⟩]) (
 .ret)))))),
 [.t 4]⟩

theorem k_laws_szNetwork : cFun Try.prog Try.f26 = some C_laws_szNetwork.erase := by kernel_rfl

def L0_spec_NetworkOk : C :=
 .seq (
 .reg [⟨some 35, none, .bin .lss (.t 34) (.t 33)⟩]) (
 .seq (
 .cond (.t 35) (
 .skip) (
 .exit 2)) (
 .seq (
 .block 3 (
 .seq (
 .reg [⟨some 36, none, .mv (.t 34)⟩,
 ⟨some 37, none, .idx 1 (.t 32) (.t 34)⟩,
 ⟨some 38, none, .ld (.t 37)⟩,
 ⟨some 5, none, .mv (.t 36)⟩,
 ⟨some 6, none, .mv (.t 38)⟩]) (
 .seq (
 .reg [⟨some 39, none, .fld 3 (.t 1)⟩,
 ⟨some 40, none, .ld (.t 39)⟩,
 ⟨some 41, none, .mv (.t 3)⟩,
 ⟨some 42, none, .slc 3 (.t 40) none (some (.t 41))⟩,
 ⟨some 43, none, .mv (.t 6)⟩,
 ⟨some 44, none, .call 60 [(.t 42), (.t 43)]⟩,
 ⟨some 7, none, .mv (.t 44)⟩]) (
 .seq (
 .reg [⟨some 45, none, .mv (.t 7)⟩,
 ⟨some 46, none, .bin .gtr (.t 45) (.c (.d (.int 0)))⟩,
 ⟨some 47, none, .mv (.t 46)⟩,
 ⟨some 48, some (47, true), .mv (.t 7)⟩,
 ⟨some 49, some (47, true), .fld 1 (.t 4)⟩,
 ⟨some 50, some (47, true), .ld (.t 49)⟩,
 ⟨some 51, some (47, true), .mv (.t 5)⟩,
 ⟨some 52, some (47, true), .idx 1 (.t 50) (.t 51)⟩,
 ⟨some 53, some (47, true), .ld (.t 52)⟩,
 ⟨some 54, some (47, true), .bin .neq (.t 48) (.t 53)⟩,
 ⟨some 55, none, .pick (.t 47) (.t 54) (.c (.d (.bool false)))⟩]) (
 .cond (.t 55) (
 .seq (
 .reg [⟨some 2, none, .mv (.c (.d (.bool false)))⟩]) (
 .ret)) (
 .skip)))))) (
 .reg [⟨some 56, none, .bin .add (.t 34) (.c (.d (.int 1)))⟩,
 ⟨some 34, none, .mv (.t 56)⟩])))

def L1_spec_NetworkOk : C :=
 .seq (
 .reg [⟨some 22, none, .bin .lss (.t 21) (.t 20)⟩]) (
 .seq (
 .cond (.t 22) (
 .skip) (
 .exit 0)) (
 .seq (
 .block 1 (
 .seq (
 .reg [⟨some 23, none, .mv (.t 21)⟩,
 ⟨some 24, none, .idx 3 (.t 19) (.t 21)⟩,
 ⟨some 25, none, .ldn 3 (.t 24)⟩,
 ⟨some 4, none, .zer [.nil, .nil, .nil]⟩,
 ⟨some 3, none, .mv (.t 23)⟩,
 ⟨none, none, .st 3 (.t 4) (.t 25)⟩]) (
 .seq (
 .seq (
 .reg [⟨some 26, none, .fld 0 (.t 1)⟩,
 ⟨some 27, none, .ldn 3 (.t 26)⟩,
 ⟨some 28, none, .ldn 3 (.t 4)⟩,
 ⟨some 29, none, .call 35 [(.t 27), (.t 28)]⟩,
 ⟨some 30, none, .not (.t 29)⟩]) (
 .cond (.t 30) (
 .seq (
 .reg [⟨some 2, none, .mv (.c (.d (.bool false)))⟩]) (
 .ret)) (
 .skip))) (
 .seq (
 .reg [⟨some 31, none, .fld 0 (.t 4)⟩,
 ⟨some 32, none, .ld (.t 31)⟩,
 ⟨some 33, none, .len (.t 32)⟩,
 ⟨some 34, none, .mv (.c (.d (.int 0)))⟩]) (
 .block 2 (
 .loop L0_spec_NetworkOk)))))) (
 .reg [⟨some 57, none, .bin .add (.t 21) (.c (.d (.int 1)))⟩,
 ⟨some 21, none, .mv (.t 57)⟩])))

def C_spec_NetworkOk : Fun := ⟨1, 68,
 .seq (
 .reg [⟨some 1, none, .box (.t 0)⟩,
 ⟨some 2, none, .mv (.c (.d (.bool false)))⟩]) (
 .seq (
 .seq (
 .reg [⟨some 8, none, .fld 0 (.t 1)⟩,
 ⟨some 9, none, .ldn 3 (.t 8)⟩,
 ⟨some 10, none, .call 51 [(.t 9)]⟩,
 ⟨some 11, none, .not (.t 10)⟩,
 ⟨some 12, none, .mv (.t 11)⟩,
 ⟨some 13, some (12, false), .fld 3 (.t 1)⟩,
 ⟨some 14, some (12, false), .ld (.t 13)⟩,
 ⟨some 15, some (12, false), .len (.t 14)⟩,
 ⟨some 16, some (12, false), .bin .gtr (.t 15) (.c (.d (.int 12)))⟩,
 ⟨some 17, none, .pick (.t 12) (.c (.d (.bool true))) (.t 16)⟩]) (
 .cond (.t 17) (
 .seq (
 .reg [⟨some 2, none, .mv (.c (.d (.bool false)))⟩]) (
 .ret)) (
 .skip))) (
 .seq (
 .seq (
 .reg [⟨some 18, none, .fld 3 (.t 1)⟩,
 ⟨some 19, none, .ld (.t 18)⟩,
 ⟨some 20, none, .len (.t 19)⟩,
 ⟨some 21, none, .mv (.c (.d (.int 0)))⟩]) (
 .block 0 (
 .loop L1_spec_NetworkOk))) (
 .seq (
 .draw [⟨some 58, none, .fld 4 (.t 1)⟩,
 ⟨some 59, none, .ld (.t 58)⟩,
 ⟨some 60, none, .fld 3 (.t 1)⟩,
 ⟨some 61, none, .ld (.t 60)⟩,
 ⟨some 62, none, .fld 4 (.t 1)⟩,
 ⟨some 63, none, .ld (.t 62)⟩,
 ⟨some 64, none, .call 83 [(.t 61), (.t 63)]⟩]
 [⟨some 65, none, .agg [.nil, .nil, .nil] [(0, 1, (.t 59)), (1, 1, (.t 64))]⟩,
 ⟨some 66, none, .call 41 [(.t 65)]⟩,
 ⟨some 67, none, .bin .geq (.t 66) (.c (.d (.int 0)))⟩,
 ⟨some 2, none, .mv (.t 67)⟩]) (
 .ret)))),
 [.t 2]⟩

theorem k_spec_NetworkOk : cFun Try.prog Try.f58 = some C_spec_NetworkOk.erase := by kernel_rfl

def C_laws_toNetwork : Fun := ⟨1, 17,
 .seq (
 .reg [⟨some 1, none, .box (.t 0)⟩,
 ⟨some 2, none, .zer [.d (.int 0), .d (.int 0), .d (.int 0), .nil, .nil]⟩]) (
 .seq (
 .reg [⟨some 3, none, .zer [.d (.int 0), .d (.int 0), .d (.int 0), .nil, .nil]⟩]) (
 .seq (
 .reg [⟨some 4, none, .fld 0 (.t 1)⟩,
 ⟨some 5, none, .ldn 3 (.t 4)⟩,
 ⟨some 6, none, .call 9 [(.t 5)]⟩,
 ⟨some 7, none, .fld 0 (.t 3)⟩,
 ⟨none, none, .st 3 (.t 7) (.t 6)⟩]) (
 .seq (
 .reg [⟨some 8, none, .fld 3 (.t 1)⟩,
 ⟨some 9, none, .ld (.t 8)⟩,
 ⟨some 10, none, .call 22 [(.t 9)]⟩,
 ⟨some 11, none, .fld 3 (.t 3)⟩,
 ⟨none, none, .st 1 (.t 11) (.t 10)⟩]) (
 .seq (
 .reg [⟨some 12, none, .fld 4 (.t 1)⟩,
 ⟨some 13, none, .ld (.t 12)⟩,
 ⟨some 14, none, .call 11 [(.t 13)]⟩,
 ⟨some 15, none, .fld 4 (.t 3)⟩,
 ⟨none, none, .st 1 (.t 15) (.t 14)⟩]) (
 .seq (
 .reg [⟨some 16, none, .ldn 5 (.t 3)⟩,
 ⟨none, none, .st 5 (.t 2) (.t 16)⟩]) (
 .ret)))))),
 [.cell 2 5]⟩

theorem k_laws_toNetwork : cFun Try.prog Try.f28 = some C_laws_toNetwork.erase := by kernel_rfl

def L0_impl_NetworkOk : C :=
 .seq (
 .reg [⟨some 50, none, .bin .lss (.t 49) (.t 48)⟩]) (
 .seq (
 .cond (.t 50) (
 .skip) (
 .exit 2)) (
 .seq (
 .block 3 (
 .seq (
 .reg [⟨some 51, none, .idx 1 (.t 47) (.t 49)⟩,
 ⟨some 52, none, .ld (.t 51)⟩,
 ⟨some 8, none, .mv (.t 52)⟩]) (
 .seq (
 .reg [⟨some 53, none, .mv (.t 8)⟩,
 ⟨some 54, none, .bin .lss (.t 53) (.c (.d (.int 0)))⟩,
 ⟨some 55, none, .mv (.t 54)⟩,
 ⟨some 56, some (55, false), .mv (.t 8)⟩,
 ⟨some 57, some (55, false), .bin .gtr (.t 56) (.c (.d (.int 99)))⟩,
 ⟨some 58, none, .pick (.t 55) (.c (.d (.bool true))) (.t 57)⟩,
 ⟨some 59, none, .mv (.t 58)⟩,
 ⟨some 60, some (59, false), .mv (.t 8)⟩,
 ⟨some 61, some (59, false), .aix 1 100 (.t 5) (.t 60)⟩,
 ⟨some 62, some (59, false), .ld (.t 61)⟩,
 ⟨some 63, some (59, false), .bin .eql (.t 62) (.c (.d (.int 0)))⟩,
 ⟨some 64, none, .pick (.t 59) (.c (.d (.bool true))) (.t 63)⟩]) (
 .cond (.t 64) (
 .seq (
 .reg [⟨some 2, none, .mv (.c (.d (.bool false)))⟩]) (
 .ret)) (
 .skip))))) (
 .reg [⟨some 65, none, .bin .add (.t 49) (.c (.d (.int 1)))⟩,
 ⟨some 49, none, .mv (.t 65)⟩])))

def L1_impl_NetworkOk : C :=
 .seq (
 .reg [⟨some 29, none, .bin .lss (.t 28) (.t 27)⟩]) (
 .seq (
 .cond (.t 29) (
 .skip) (
 .exit 0)) (
 .seq (
 .block 1 (
 .seq (
 .reg [⟨some 30, none, .idx 3 (.t 26) (.t 28)⟩,
 ⟨some 31, none, .ldn 3 (.t 30)⟩,
 ⟨some 4, none, .zer [.nil, .nil, .nil]⟩,
 ⟨none, none, .st 3 (.t 4) (.t 31)⟩]) (
 .seq (
 .reg [⟨some 32, none, .fld 0 (.t 1)⟩,
 ⟨some 33, none, .ldn 3 (.t 32)⟩,
 ⟨some 34, none, .ldn 3 (.t 4)⟩,
 ⟨some 35, none, .call 42 [(.t 33), (.t 34)]⟩,
 ⟨some 36, none, .not (.t 35)⟩]) (
 .cond (.t 36) (
 .seq (
 .reg [⟨some 2, none, .mv (.c (.d (.bool false)))⟩]) (
 .ret)) (
 .skip))))) (
 .reg [⟨some 37, none, .bin .add (.t 28) (.c (.d (.int 1)))⟩,
 ⟨some 28, none, .mv (.t 37)⟩])))

def C_impl_NetworkOk : Fun := ⟨1, 72,
 .seq (
 .reg [⟨some 1, none, .box (.t 0)⟩,
 ⟨some 2, none, .mv (.c (.d (.bool false)))⟩]) (
 .seq (
 .seq (
 .reg [⟨some 9, none, .fld 0 (.t 1)⟩,
 ⟨some 10, none, .ldn 3 (.t 9)⟩,
 ⟨some 11, none, .call 55 [(.t 10)]⟩,
 ⟨some 12, none, .not (.t 11)⟩,
 ⟨some 13, none, .mv (.t 12)⟩,
 ⟨some 14, some (13, false), .fld 3 (.t 1)⟩,
 ⟨some 15, some (13, false), .ld (.t 14)⟩,
 ⟨some 16, some (13, false), .len (.t 15)⟩,
 ⟨some 17, some (13, false), .bin .gtr (.t 16) (.c (.d (.int 12)))⟩,
 ⟨some 18, none, .pick (.t 13) (.c (.d (.bool true))) (.t 17)⟩,
 ⟨some 19, none, .mv (.t 18)⟩,
 ⟨some 20, some (19, false), .fld 4 (.t 1)⟩,
 ⟨some 21, some (19, false), .ld (.t 20)⟩,
 ⟨some 22, some (19, false), .len (.t 21)⟩,
 ⟨some 23, some (19, false), .bin .gtr (.t 22) (.c (.d (.int 12)))⟩,
 ⟨some 24, none, .pick (.t 19) (.c (.d (.bool true))) (.t 23)⟩]) (
 .cond (.t 24) (
 .seq (
 .reg [⟨some 2, none, .mv (.c (.d (.bool false)))⟩]) (
 .ret)) (
 .skip))) (
 .seq (
 .seq (
 .reg [⟨some 25, none, .fld 3 (.t 1)⟩,
 ⟨some 26, none, .ld (.t 25)⟩,
 ⟨some 27, none, .len (.t 26)⟩,
 ⟨some 28, none, .mv (.c (.d (.int 0)))⟩]) (
 .block 0 (
 .loop L1_impl_NetworkOk))) (
 .seq (
 .reg [⟨some 39, none, .fld 3 (.t 1)⟩,
 ⟨some 40, none, .ld (.t 39)⟩,
 ⟨some 41, none, .call 85 [(.t 40)]⟩,
 ⟨some 38, none, .mv (.t 41)⟩,
 ⟨some 42, none, .ext 0 (.t 38)⟩,
 ⟨some 43, none, .ext 1 (.t 38)⟩,
 ⟨some 5, none, .zer (reps 100 (.d (.int 0)))⟩,
 ⟨none, none, .st 100 (.t 5) (.t 42)⟩,
 ⟨some 6, none, .mv (.t 43)⟩]) (
 .seq (
 .seq (
 .reg [⟨some 44, none, .mv (.t 6)⟩,
 ⟨some 45, none, .not (.t 44)⟩]) (
 .cond (.t 45) (
 .seq (
 .reg [⟨some 2, none, .mv (.c (.d (.bool false)))⟩]) (
 .ret)) (
 .skip))) (
 .seq (
 .seq (
 .reg [⟨some 46, none, .fld 4 (.t 1)⟩,
 ⟨some 47, none, .ld (.t 46)⟩,
 ⟨some 48, none, .len (.t 47)⟩,
 ⟨some 49, none, .mv (.c (.d (.int 0)))⟩]) (
 .block 2 (
 .loop L0_impl_NetworkOk))) (
 .seq (
 .reg [⟨some 66, none, .ldn 100 (.t 5)⟩,
 ⟨some 67, none, .fld 4 (.t 1)⟩,
 ⟨some 68, none, .ld (.t 67)⟩,
 ⟨some 69, none, .call 86 [(.t 66), (.t 68)]⟩,
 ⟨some 70, none, .call 44 [(.t 69)]⟩,
 ⟨some 71, none, .bin .neq (.t 70) (.c (.d (.int (-1))))⟩,
 ⟨some 2, none, .mv (.t 71)⟩]) (
 .ret))))))),
 [.t 2]⟩

theorem k_impl_NetworkOk : cFun Try.prog Try.f62 = some C_impl_NetworkOk.erase := by kernel_rfl

def C_laws_eqNetwork : Fun := ⟨2, 23,
 .seq (
 .reg [⟨some 2, none, .box (.t 0)⟩,
 ⟨some 3, none, .box (.t 1)⟩,
 ⟨some 4, none, .mv (.c (.d (.bool false)))⟩]) (
 .seq (
 .seq (
 .reg [⟨some 5, none, .fld 0 (.t 2)⟩,
 ⟨some 6, none, .ldn 3 (.t 5)⟩,
 ⟨some 7, none, .fld 0 (.t 3)⟩,
 ⟨some 8, none, .ldn 3 (.t 7)⟩,
 ⟨some 9, none, .call 66 [(.t 6), (.t 8)]⟩,
 ⟨some 10, none, .not (.t 9)⟩]) (
 .cond (.t 10) (
 .seq (
 .reg [⟨some 4, none, .mv (.c (.d (.bool false)))⟩]) (
 .ret)) (
 .skip))) (
 .seq (
 .seq (
 .reg [⟨some 11, none, .fld 3 (.t 2)⟩,
 ⟨some 12, none, .ld (.t 11)⟩,
 ⟨some 13, none, .fld 3 (.t 3)⟩,
 ⟨some 14, none, .ld (.t 13)⟩,
 ⟨some 15, none, .call 24 [(.t 12), (.t 14)]⟩,
 ⟨some 16, none, .not (.t 15)⟩]) (
 .cond (.t 16) (
 .seq (
 .reg [⟨some 4, none, .mv (.c (.d (.bool false)))⟩]) (
 .ret)) (
 .skip))) (
 .seq (
 .seq (
 .reg [⟨some 17, none, .fld 4 (.t 2)⟩,
 ⟨some 18, none, .ld (.t 17)⟩,
 ⟨some 19, none, .fld 4 (.t 3)⟩,
 ⟨some 20, none, .ld (.t 19)⟩,
 ⟨some 21, none, .call 14 [(.t 18), (.t 20)]⟩,
 ⟨some 22, none, .not (.t 21)⟩]) (
 .cond (.t 22) (
 .seq (
 .reg [⟨some 4, none, .mv (.c (.d (.bool false)))⟩]) (
 .ret)) (
 .skip))) (
 .seq (
 .reg [⟨some 4, none, .mv (.c (.d (.bool true)))⟩]) (
 .ret))))),
 [.t 4]⟩

theorem k_laws_eqNetwork : cFun Try.prog Try.f30 = some C_laws_eqNetwork.erase := by kernel_rfl

def L0_laws_szTensorS : C :=
 .seq (
 .seq (
 .reg [⟨some 12, none, .mv (.t 5)⟩,
 ⟨some 13, none, .mv (.t 0)⟩,
 ⟨some 14, none, .len (.t 13)⟩,
 ⟨some 15, none, .bin .lss (.t 12) (.t 14)⟩]) (
 .cond (.t 15) (
 .skip) (
 .exit 0))) (
 .seq (
 .block 1 (
 .seq (
 .reg [⟨some 18, none, .mv (.t 0)⟩,
 ⟨some 19, none, .mv (.t 5)⟩,
 ⟨some 20, none, .idx 3 (.t 18) (.t 19)⟩,
 ⟨some 21, none, .ldn 3 (.t 20)⟩,
 ⟨some 22, none, .mv (.t 1)⟩,
 ⟨some 23, none, .call 7 [(.t 21), (.t 22)]⟩,
 ⟨some 1, none, .mv (.t 23)⟩]) (
 .seq (
 .reg [⟨some 24, none, .mv (.t 1)⟩,
 ⟨some 25, none, .bin .lss (.t 24) (.c (.d (.int 0)))⟩]) (
 .cond (.t 25) (
 .seq (
 .reg [⟨some 4, none, .mv (.c (.d (.int (-1))))⟩]) (
 .ret)) (
 .skip))))) (
 .reg [⟨some 16, none, .mv (.t 5)⟩,
 ⟨some 17, none, .bin .add (.t 16) (.c (.d (.int 1)))⟩,
 ⟨some 5, none, .mv (.t 17)⟩]))

def C_laws_szTensorS : Fun := ⟨2, 27,
 .seq (
 .reg [⟨some 4, none, .mv (.c (.d (.int 0)))⟩]) (
 .seq (
 .reg [⟨some 6, none, .mv (.t 1)⟩,
 ⟨some 7, none, .mv (.t 0)⟩,
 ⟨some 8, none, .len (.t 7)⟩,
 ⟨some 9, none, .bin .sub (.t 6) (.t 8)⟩,
 ⟨some 1, none, .mv (.t 9)⟩]) (
 .seq (
 .seq (
 .reg [⟨some 10, none, .mv (.t 1)⟩,
 ⟨some 11, none, .bin .lss (.t 10) (.c (.d (.int 0)))⟩]) (
 .cond (.t 11) (
 .seq (
 .reg [⟨some 4, none, .mv (.c (.d (.int (-1))))⟩]) (
 .ret)) (
 .skip))) (
 .seq (
 .seq (
 .reg [⟨some 5, none, .mv (.c (.d (.int 0)))⟩]) (
 .block 0 (
 .loop L0_laws_szTensorS))) (
 .seq (
 .reg [⟨some 26, none, .mv (.t 1)⟩,
 ⟨some 4, none, .mv (.t 26)⟩]) (
 .ret))))),
 [.t 4]⟩

theorem k_laws_szTensorS : cFun Try.prog Try.f20 = some C_laws_szTensorS.erase := by kernel_rfl

def L0_spec_l12Dim : C :=
 .seq (
 .reg [⟨some 11, none, .bin .lss (.t 10) (.t 9)⟩]) (
 .seq (
 .cond (.t 11) (
 .skip) (
 .exit 0)) (
 .seq (
 .block 1 (
 .seq (
 .reg [⟨some 12, none, .idx 3 (.t 8) (.t 10)⟩,
 ⟨some 13, none, .ldn 3 (.t 12)⟩,
 ⟨some 6, none, .zer [.nil, .nil, .nil]⟩,
 ⟨none, none, .st 3 (.t 6) (.t 13)⟩]) (
 .seq (
 .reg [⟨some 14, none, .fld 0 (.t 6)⟩,
 ⟨some 15, none, .ld (.t 14)⟩,
 ⟨some 16, none, .mv (.t 1)⟩,
 ⟨some 17, none, .call 34 [(.t 15), (.t 16)]⟩,
 ⟨some 7, none, .mv (.t 17)⟩]) (
 .seq (
 .reg [⟨some 18, none, .mv (.t 7)⟩,
 ⟨some 19, none, .bin .geq (.t 18) (.c (.d (.int 0)))⟩]) (
 .cond (.t 19) (
 .seq (
 .reg [⟨some 20, none, .fld 1 (.t 6)⟩,
 ⟨some 21, none, .ld (.t 20)⟩,
 ⟨some 22, none, .mv (.t 7)⟩,
 ⟨some 23, none, .idx 1 (.t 21) (.t 22)⟩,
 ⟨some 24, none, .ld (.t 23)⟩,
 ⟨some 4, none, .mv (.t 24)⟩]) (
 .ret)) (
 .skip)))))) (
 .reg [⟨some 25, none, .bin .add (.t 10) (.c (.d (.int 1)))⟩,
 ⟨some 10, none, .mv (.t 25)⟩])))

def C_spec_l12Dim : Fun := ⟨2, 26,
 .seq (
 .reg [⟨some 4, none, .mv (.c (.d (.int 0)))⟩]) (
 .seq (
 .seq (
 .reg [⟨some 8, none, .mv (.t 0)⟩,
 ⟨some 9, none, .len (.t 8)⟩,
 ⟨some 10, none, .mv (.c (.d (.int 0)))⟩]) (
 .block 0 (
 .loop L0_spec_l12Dim))) (
 .seq (
 .reg [⟨some 4, none, .mv (.c (.d (.int 0)))⟩]) (
 .ret))),
 [.t 4]⟩

theorem k_spec_l12Dim : cFun Try.prog Try.f60 = some C_spec_l12Dim.erase := by kernel_rfl

def L0_spec_l12Dims : C :=
 .seq (
 .reg [⟨some 12, none, .bin .lss (.t 11) (.t 10)⟩]) (
 .seq (
 .cond (.t 12) (
 .skip) (
 .exit 0)) (
 .seq (
 .block 1 (
 .seq (
 .reg [⟨some 13, none, .idx 1 (.t 9) (.t 11)⟩,
 ⟨some 14, none, .ld (.t 13)⟩,
 ⟨some 7, none, .mv (.t 14)⟩]) (
 .reg [⟨some 15, none, .mv (.t 5)⟩,
 ⟨some 16, none, .mv (.t 0)⟩,
 ⟨some 17, none, .mv (.t 7)⟩,
 ⟨some 18, none, .call 60 [(.t 16), (.t 17)]⟩,
 ⟨some 19, none, .mksl 1 1 [.d (.int 0)] [(0, 1, (.t 18))]⟩,
 ⟨some 20, none, .app 1 8 [.d (.int 0)] (.t 15) (.t 19)⟩,
 ⟨some 5, none, .mv (.t 20)⟩]))) (
 .reg [⟨some 21, none, .bin .add (.t 11) (.c (.d (.int 1)))⟩,
 ⟨some 11, none, .mv (.t 21)⟩])))

def C_spec_l12Dims : Fun := ⟨2, 23,
 .seq (
 .reg [⟨some 4, none, .mv (.c (.nil))⟩]) (
 .seq (
 .reg [⟨some 8, none, .mksl 1 0 [.d (.int 0)] []⟩,
 ⟨some 5, none, .mv (.t 8)⟩]) (
 .seq (
 .seq (
 .reg [⟨some 9, none, .mv (.t 1)⟩,
 ⟨some 10, none, .len (.t 9)⟩,
 ⟨some 11, none, .mv (.c (.d (.int 0)))⟩]) (
 .block 0 (
 .loop L0_spec_l12Dims))) (
 .seq (
 .reg [⟨some 22, none, .mv (.t 5)⟩,
 ⟨some 4, none, .mv (.t 22)⟩]) (
 .ret)))),
 [.t 4]⟩

theorem k_spec_l12Dims : cFun Try.prog Try.f83 = some C_spec_l12Dims.erase := by kernel_rfl

def L0_laws_toTensorS : C :=
 .seq (
 .seq (
 .reg [⟨some 8, none, .mv (.t 4)⟩,
 ⟨some 9, none, .mv (.t 0)⟩,
 ⟨some 10, none, .len (.t 9)⟩,
 ⟨some 11, none, .bin .lss (.t 8) (.t 10)⟩]) (
 .cond (.t 11) (
 .skip) (
 .exit 0))) (
 .seq (
 .block 1 (
 .reg [⟨some 14, none, .mv (.t 3)⟩,
 ⟨some 15, none, .mv (.t 4)⟩,
 ⟨some 16, none, .mv (.t 0)⟩,
 ⟨some 17, none, .mv (.t 4)⟩,
 ⟨some 18, none, .idx 3 (.t 16) (.t 17)⟩,
 ⟨some 19, none, .ldn 3 (.t 18)⟩,
 ⟨some 20, none, .call 10 [(.t 19)]⟩,
 ⟨some 21, none, .idx 3 (.t 14) (.t 15)⟩,
 ⟨none, none, .st 3 (.t 21) (.t 20)⟩])) (
 .reg [⟨some 12, none, .mv (.t 4)⟩,
 ⟨some 13, none, .bin .add (.t 12) (.c (.d (.int 1)))⟩,
 ⟨some 4, none, .mv (.t 13)⟩]))

def C_laws_toTensorS : Fun := ⟨1, 23,
 .seq (
 .reg [⟨some 2, none, .mv (.c (.nil))⟩]) (
 .seq (
 .reg [⟨some 5, none, .mv (.t 0)⟩,
 ⟨some 6, none, .len (.t 5)⟩,
 ⟨some 7, none, .make 3 72 [.nil, .nil, .nil] (.t 6) (.t 6)⟩,
 ⟨some 3, none, .mv (.t 7)⟩]) (
 .seq (
 .seq (
 .reg [⟨some 4, none, .mv (.c (.d (.int 0)))⟩]) (
 .block 0 (
 .loop L0_laws_toTensorS))) (
 .seq (
 .reg [⟨some 22, none, .mv (.t 3)⟩,
 ⟨some 2, none, .mv (.t 22)⟩]) (
 .ret)))),
 [.t 2]⟩

theorem k_laws_toTensorS : cFun Try.prog Try.f22 = some C_laws_toTensorS.erase := by kernel_rfl

def L0_impl_dimsOf : C :=
 .seq (
 .reg [⟨some 19, none, .bin .lss (.t 18) (.t 17)⟩]) (
 .seq (
 .cond (.t 19) (
 .skip) (
 .exit 2)) (
 .seq (
 .block 3 (
 .seq (
 .reg [⟨some 20, none, .mv (.t 18)⟩,
 ⟨some 21, none, .idx 1 (.t 16) (.t 18)⟩,
 ⟨some 22, none, .ld (.t 21)⟩,
 ⟨some 7, none, .mv (.t 20)⟩,
 ⟨some 8, none, .mv (.t 22)⟩]) (
 .seq (
 .seq (
 .draw [⟨some 23, none, .mv (.t 8)⟩,
 ⟨some 24, none, .aix 1 100 (.t 4) (.t 23)⟩,
 ⟨some 25, none, .ld (.t 24)⟩,
 ⟨some 26, none, .bin .neq (.t 25) (.c (.d (.int 0)))⟩,
 ⟨some 27, none, .mv (.t 26)⟩,
 ⟨some 28, some (27, true), .mv (.t 8)⟩,
 ⟨some 29, some (27, true), .aix 1 100 (.t 4) (.t 28)⟩,
 ⟨some 30, some (27, true), .ld (.t 29)⟩,
 ⟨some 31, some (27, true), .fld 1 (.t 6)⟩,
 ⟨some 32, some (27, true), .ld (.t 31)⟩,
 ⟨some 33, some (27, true), .mv (.t 7)⟩,
 ⟨some 34, some (27, true), .idx 1 (.t 32) (.t 33)⟩,
 ⟨some 35, some (27, true), .ld (.t 34)⟩]
 [⟨some 36, some (27, true), .bin .neq (.t 30) (.t 35)⟩,
 ⟨some 37, none, .pick (.t 27) (.t 36) (.c (.d (.bool false)))⟩]) (
 .cond (.t 37) (
 .seq (
 .reg [⟨some 38, none, .ldn 100 (.t 4)⟩,
 ⟨none, none, .st 100 (.t 2) (.t 38)⟩,
 ⟨some 3, none, .mv (.c (.d (.bool false)))⟩]) (
 .ret)) (
 .skip))) (
 .reg [⟨some 39, none, .mv (.t 8)⟩,
 ⟨some 40, none, .fld 1 (.t 6)⟩,
 ⟨some 41, none, .ld (.t 40)⟩,
 ⟨some 42, none, .mv (.t 7)⟩,
 ⟨some 43, none, .idx 1 (.t 41) (.t 42)⟩,
 ⟨some 44, none, .ld (.t 43)⟩,
 ⟨some 45, none, .aix 1 100 (.t 4) (.t 39)⟩,
 ⟨none, none, .st 1 (.t 45) (.t 44)⟩])))) (
 .reg [⟨some 46, none, .bin .add (.t 18) (.c (.d (.int 1)))⟩,
 ⟨some 18, none, .mv (.t 46)⟩])))

def L1_impl_dimsOf : C :=
 .seq (
 .reg [⟨some 12, none, .bin .lss (.t 11) (.t 10)⟩]) (
 .seq (
 .cond (.t 12) (
 .skip) (
 .exit 0)) (
 .seq (
 .block 1 (
 .seq (
 .reg [⟨some 13, none, .idx 3 (.t 9) (.t 11)⟩,
 ⟨some 14, none, .ldn 3 (.t 13)⟩,
 ⟨some 6, none, .zer [.nil, .nil, .nil]⟩,
 ⟨none, none, .st 3 (.t 6) (.t 14)⟩]) (
 .seq (
 .reg [⟨some 15, none, .fld 0 (.t 6)⟩,
 ⟨some 16, none, .ld (.t 15)⟩,
 ⟨some 17, none, .len (.t 16)⟩,
 ⟨some 18, none, .mv (.c (.d (.int 0)))⟩]) (
 .block 2 (
 .loop L0_impl_dimsOf))))) (
 .reg [⟨some 47, none, .bin .add (.t 11) (.c (.d (.int 1)))⟩,
 ⟨some 11, none, .mv (.t 47)⟩])))

def C_impl_dimsOf : Fun := ⟨1, 49,
 .seq (
 .reg [⟨some 2, none, .zer (reps 100 (.d (.int 0)))⟩,
 ⟨some 3, none, .mv (.c (.d (.bool false)))⟩]) (
 .seq (
 .reg [⟨some 4, none, .zer (reps 100 (.d (.int 0)))⟩]) (
 .seq (
 .seq (
 .reg [⟨some 9, none, .mv (.t 0)⟩,
 ⟨some 10, none, .len (.t 9)⟩,
 ⟨some 11, none, .mv (.c (.d (.int 0)))⟩]) (
 .block 0 (
 .loop L1_impl_dimsOf))) (
 .seq (
 .reg [⟨some 48, none, .ldn 100 (.t 4)⟩,
 ⟨none, none, .st 100 (.t 2) (.t 48)⟩,
 ⟨some 3, none, .mv (.c (.d (.bool true)))⟩]) (
 .ret)))),
 [.cell 2 100, .t 3]⟩

theorem k_impl_dimsOf : cFun Try.prog Try.f85 = some C_impl_dimsOf.erase := by kernel_rfl

def L0_impl_axesOf : C :=
 .seq (
 .reg [⟨some 17, none, .bin .lss (.t 16) (.t 15)⟩]) (
 .seq (
 .cond (.t 17) (
 .skip) (
 .exit 0)) (
 .seq (
 .block 1 (
 .seq (
 .reg [⟨some 18, none, .mv (.t 16)⟩,
 ⟨some 19, none, .idx 1 (.t 14) (.t 16)⟩,
 ⟨some 20, none, .ld (.t 19)⟩,
 ⟨some 6, none, .mv (.t 18)⟩,
 ⟨some 7, none, .mv (.t 20)⟩]) (
 .draw [⟨some 21, none, .fld 1 (.t 5)⟩,
 ⟨some 22, none, .ld (.t 21)⟩,
 ⟨some 23, none, .mv (.t 6)⟩,
 ⟨some 24, none, .mv (.t 7)⟩,
 ⟨some 25, none, .aix 1 100 (.t 2) (.t 24)⟩,
 ⟨some 26, none, .ld (.t 25)⟩]
 [⟨some 27, none, .idx 1 (.t 22) (.t 23)⟩,
 ⟨none, none, .st 1 (.t 27) (.t 26)⟩]))) (
 .reg [⟨some 28, none, .bin .add (.t 16) (.c (.d (.int 1)))⟩,
 ⟨some 16, none, .mv (.t 28)⟩])))

def C_impl_axesOf : Fun := ⟨2, 30,
 .seq (
 .reg [⟨some 2, none, .box (.t 0)⟩,
 ⟨some 4, none, .zer [.nil, .nil, .nil]⟩]) (
 .seq (
 .draw [⟨some 8, none, .mv (.t 1)⟩,
 ⟨some 9, none, .call 47 [(.t 8)]⟩,
 ⟨some 10, none, .mv (.t 1)⟩,
 ⟨some 11, none, .len (.t 10)⟩,
 ⟨some 12, none, .make 1 8 [.d (.int 0)] (.t 11) (.t 11)⟩,
 ⟨some 13, none, .agg [.nil, .nil, .nil] [(0, 1, (.t 9)), (1, 1, (.t 12))]⟩,
 ⟨some 5, none, .zer [.nil, .nil, .nil]⟩]
 [⟨none, none, .st 3 (.t 5) (.t 13)⟩]) (
 .seq (
 .seq (
 .reg [⟨some 14, none, .mv (.t 1)⟩,
 ⟨some 15, none, .len (.t 14)⟩,
 ⟨some 16, none, .mv (.c (.d (.int 0)))⟩]) (
 .block 0 (
 .loop L0_impl_axesOf))) (
 .seq (
 .reg [⟨some 29, none, .ldn 3 (.t 5)⟩,
 ⟨none, none, .st 3 (.t 4) (.t 29)⟩]) (
 .ret)))),
 [.cell 4 3]⟩

theorem k_impl_axesOf : cFun Try.prog Try.f86 = some C_impl_axesOf.erase := by kernel_rfl

def C_laws_eqRing : Fun := ⟨2, 20,
 .seq (
 .reg [⟨some 2, none, .box (.t 0)⟩,
 ⟨some 3, none, .box (.t 1)⟩,
 ⟨some 4, none, .mv (.c (.d (.bool false)))⟩]) (
 .seq (
 .seq (
 .reg [⟨some 5, none, .fld 0 (.t 2)⟩,
 ⟨some 6, none, .ld (.t 5)⟩,
 ⟨some 7, none, .fld 0 (.t 3)⟩,
 ⟨some 8, none, .ld (.t 7)⟩,
 ⟨some 9, none, .bin .neq (.t 6) (.t 8)⟩]) (
 .cond (.t 9) (
 .seq (
 .reg [⟨some 4, none, .mv (.c (.d (.bool false)))⟩]) (
 .ret)) (
 .skip))) (
 .seq (
 .seq (
 .reg [⟨some 10, none, .fld 1 (.t 2)⟩,
 ⟨some 11, none, .ld (.t 10)⟩,
 ⟨some 12, none, .fld 1 (.t 3)⟩,
 ⟨some 13, none, .ld (.t 12)⟩,
 ⟨some 14, none, .bin .neq (.t 11) (.t 13)⟩]) (
 .cond (.t 14) (
 .seq (
 .reg [⟨some 4, none, .mv (.c (.d (.bool false)))⟩]) (
 .ret)) (
 .skip))) (
 .seq (
 .seq (
 .reg [⟨some 15, none, .fld 2 (.t 2)⟩,
 ⟨some 16, none, .ld (.t 15)⟩,
 ⟨some 17, none, .fld 2 (.t 3)⟩,
 ⟨some 18, none, .ld (.t 17)⟩,
 ⟨some 19, none, .bin .neq (.t 16) (.t 18)⟩]) (
 .cond (.t 19) (
 .seq (
 .reg [⟨some 4, none, .mv (.c (.d (.bool false)))⟩]) (
 .ret)) (
 .skip))) (
 .seq (
 .reg [⟨some 4, none, .mv (.c (.d (.bool true)))⟩]) (
 .ret))))),
 [.t 4]⟩

theorem k_laws_eqRing : cFun Try.prog Try.f66 = some C_laws_eqRing.erase := by kernel_rfl

def L0_laws_eqTensorS : C :=
 .seq (
 .seq (
 .reg [⟨some 11, none, .mv (.t 5)⟩,
 ⟨some 12, none, .mv (.t 0)⟩,
 ⟨some 13, none, .len (.t 12)⟩,
 ⟨some 14, none, .bin .lss (.t 11) (.t 13)⟩]) (
 .cond (.t 14) (
 .skip) (
 .exit 0))) (
 .seq (
 .block 1 (
 .seq (
 .draw [⟨some 17, none, .mv (.t 0)⟩,
 ⟨some 18, none, .mv (.t 5)⟩,
 ⟨some 19, none, .idx 3 (.t 17) (.t 18)⟩,
 ⟨some 20, none, .ldn 3 (.t 19)⟩,
 ⟨some 21, none, .mv (.t 1)⟩,
 ⟨some 22, none, .mv (.t 5)⟩,
 ⟨some 23, none, .idx 3 (.t 21) (.t 22)⟩,
 ⟨some 24, none, .ldn 3 (.t 23)⟩]
 [⟨some 25, none, .call 13 [(.t 20), (.t 24)]⟩,
 ⟨some 26, none, .not (.t 25)⟩]) (
 .cond (.t 26) (
 .seq (
 .reg [⟨some 4, none, .mv (.c (.d (.bool false)))⟩]) (
 .ret)) (
 .skip)))) (
 .reg [⟨some 15, none, .mv (.t 5)⟩,
 ⟨some 16, none, .bin .add (.t 15) (.c (.d (.int 1)))⟩,
 ⟨some 5, none, .mv (.t 16)⟩]))

def C_laws_eqTensorS : Fun := ⟨2, 27,
 .seq (
 .reg [⟨some 4, none, .mv (.c (.d (.bool false)))⟩]) (
 .seq (
 .seq (
 .reg [⟨some 6, none, .mv (.t 0)⟩,
 ⟨some 7, none, .len (.t 6)⟩,
 ⟨some 8, none, .mv (.t 1)⟩,
 ⟨some 9, none, .len (.t 8)⟩,
 ⟨some 10, none, .bin .neq (.t 7) (.t 9)⟩]) (
 .cond (.t 10) (
 .seq (
 .reg [⟨some 4, none, .mv (.c (.d (.bool false)))⟩]) (
 .ret)) (
 .skip))) (
 .seq (
 .seq (
 .reg [⟨some 5, none, .mv (.c (.d (.int 0)))⟩]) (
 .block 0 (
 .loop L0_laws_eqTensorS))) (
 .seq (
 .reg [⟨some 4, none, .mv (.c (.d (.bool true)))⟩]) (
 .ret)))),
 [.t 4]⟩

theorem k_laws_eqTensorS : cFun Try.prog Try.f24 = some C_laws_eqTensorS.erase := by kernel_rfl

end Go.Proofs.Ytlijfhfhonalgaa

/-
  The compiled code of functions of the seat (written by mkcode.py). No condition.
-/
namespace Go.Proofs.Ytlijfhfhonalgaa
open Go.Lift

def L0_laws_toIntS : C :=
      .seq (
      .seq (
      .reg [⟨some 8, none, .mv (.t 4)⟩,
            ⟨some 9, none, .mv (.t 0)⟩,
            ⟨some 10, none, .len (.t 9)⟩,
            ⟨some 11, none, .bin .lss (.t 8) (.t 10)⟩]) (
      .cond (.t 11) (
        .skip) (
        .exit 0))) (
      .seq (
      .block 1 (
        .reg [⟨some 14, none, .mv (.t 3)⟩,
              ⟨some 15, none, .mv (.t 4)⟩,
              ⟨some 16, none, .mv (.t 0)⟩,
              ⟨some 17, none, .mv (.t 4)⟩,
              ⟨some 18, none, .idx 1 (.t 16) (.t 17)⟩,
              ⟨some 19, none, .ld (.t 18)⟩,
              ⟨some 20, none, .idx 1 (.t 14) (.t 15)⟩,
              ⟨none, none, .st 1 (.t 20) (.t 19)⟩])) (
      .reg [⟨some 12, none, .mv (.t 4)⟩,
            ⟨some 13, none, .bin .add (.t 12) (.c (.d (.int 1)))⟩,
            ⟨some 4, none, .mv (.t 13)⟩]))

def C_laws_toIntS : Fun := ⟨1, 22,
  .seq (
  .reg [⟨some 2, none, .mv (.c (.nil))⟩]) (
  .seq (
  .reg [⟨some 5, none, .mv (.t 0)⟩,
        ⟨some 6, none, .len (.t 5)⟩,
        ⟨some 7, none, .make 1 8 [.d (.int 0)] (.t 6) (.t 6)⟩,
        ⟨some 3, none, .mv (.t 7)⟩]) (
  .seq (
  .seq (
  .reg [⟨some 4, none, .mv (.c (.d (.int 0)))⟩]) (
  .block 0 (
    .loop L0_laws_toIntS))) (
  .seq (
  .reg [⟨some 21, none, .mv (.t 3)⟩,
        ⟨some 2, none, .mv (.t 21)⟩]) (
  .ret)))),
  [.t 2]⟩

theorem k_laws_toIntS : cFun Try.prog Try.f11 = some C_laws_toIntS.erase := by kernel_rfl

def C_laws_toRing : Fun := ⟨1, 14,
  .seq (
  .reg [⟨some 1, none, .box (.t 0)⟩,
        ⟨some 2, none, .zer [.d (.int 0), .d (.int 0), .d (.int 0)]⟩]) (
  .seq (
  .reg [⟨some 3, none, .zer [.d (.int 0), .d (.int 0), .d (.int 0)]⟩]) (
  .seq (
  .reg [⟨some 4, none, .fld 0 (.t 1)⟩,
        ⟨some 5, none, .ld (.t 4)⟩,
        ⟨some 6, none, .fld 0 (.t 3)⟩,
        ⟨none, none, .st 1 (.t 6) (.t 5)⟩]) (
  .seq (
  .reg [⟨some 7, none, .fld 1 (.t 1)⟩,
        ⟨some 8, none, .ld (.t 7)⟩,
        ⟨some 9, none, .fld 1 (.t 3)⟩,
        ⟨none, none, .st 1 (.t 9) (.t 8)⟩]) (
  .seq (
  .reg [⟨some 10, none, .fld 2 (.t 1)⟩,
        ⟨some 11, none, .ld (.t 10)⟩,
        ⟨some 12, none, .fld 2 (.t 3)⟩,
        ⟨none, none, .st 1 (.t 12) (.t 11)⟩]) (
  .seq (
  .reg [⟨some 13, none, .ldn 3 (.t 3)⟩,
        ⟨none, none, .st 3 (.t 2) (.t 13)⟩]) (
  .ret)))))),
  [.cell 2 3]⟩

theorem k_laws_toRing : cFun Try.prog Try.f9 = some C_laws_toRing.erase := by kernel_rfl

def C_laws_toTensor : Fun := ⟨1, 17,
  .seq (
  .reg [⟨some 1, none, .box (.t 0)⟩,
        ⟨some 2, none, .zer [.nil, .nil, .nil]⟩]) (
  .seq (
  .reg [⟨some 3, none, .zer [.nil, .nil, .nil]⟩]) (
  .seq (
  .reg [⟨some 4, none, .fld 0 (.t 1)⟩,
        ⟨some 5, none, .ld (.t 4)⟩,
        ⟨some 6, none, .call 11 [(.t 5)]⟩,
        ⟨some 7, none, .fld 0 (.t 3)⟩,
        ⟨none, none, .st 1 (.t 7) (.t 6)⟩]) (
  .seq (
  .reg [⟨some 8, none, .fld 1 (.t 1)⟩,
        ⟨some 9, none, .ld (.t 8)⟩,
        ⟨some 10, none, .call 11 [(.t 9)]⟩,
        ⟨some 11, none, .fld 1 (.t 3)⟩,
        ⟨none, none, .st 1 (.t 11) (.t 10)⟩]) (
  .seq (
  .reg [⟨some 12, none, .fld 2 (.t 1)⟩,
        ⟨some 13, none, .ld (.t 12)⟩,
        ⟨some 14, none, .call 11 [(.t 13)]⟩,
        ⟨some 15, none, .fld 2 (.t 3)⟩,
        ⟨none, none, .st 1 (.t 15) (.t 14)⟩]) (
  .seq (
  .reg [⟨some 16, none, .ldn 3 (.t 3)⟩,
        ⟨none, none, .st 3 (.t 2) (.t 16)⟩]) (
  .ret)))))),
  [.cell 2 3]⟩

theorem k_laws_toTensor : cFun Try.prog Try.f10 = some C_laws_toTensor.erase := by kernel_rfl

def C_laws_szIntS : Fun := ⟨2, 12,
  .seq (
  .reg [⟨some 4, none, .mv (.c (.d (.int 0)))⟩]) (
  .seq (
  .reg [⟨some 5, none, .mv (.t 1)⟩,
        ⟨some 6, none, .mv (.t 0)⟩,
        ⟨some 7, none, .len (.t 6)⟩,
        ⟨some 8, none, .bin .sub (.t 5) (.t 7)⟩,
        ⟨some 1, none, .mv (.t 8)⟩]) (
  .seq (
  .seq (
  .reg [⟨some 9, none, .mv (.t 1)⟩,
        ⟨some 10, none, .bin .lss (.t 9) (.c (.d (.int 0)))⟩]) (
  .cond (.t 10) (
    .seq (
    .reg [⟨some 4, none, .mv (.c (.d (.int (-1))))⟩]) (
    .ret)) (
    .skip))) (
  .seq (
  .reg [⟨some 11, none, .mv (.t 1)⟩,
        ⟨some 4, none, .mv (.t 11)⟩]) (
  .ret)))),
  [.t 4]⟩

theorem k_laws_szIntS : cFun Try.prog Try.f33 = some C_laws_szIntS.erase := by kernel_rfl

def C_laws_szTensor : Fun := ⟨2, 24,
  .seq (
  .reg [⟨some 2, none, .box (.t 0)⟩,
        ⟨some 4, none, .mv (.c (.d (.int 0)))⟩]) (
  .seq (
  .reg [⟨some 5, none, .fld 0 (.t 2)⟩,
        ⟨some 6, none, .ld (.t 5)⟩,
        ⟨some 7, none, .mv (.t 1)⟩,
        ⟨some 8, none, .call 33 [(.t 6), (.t 7)]⟩,
        ⟨some 1, none, .mv (.t 8)⟩]) (
  .seq (
  .seq (
  .reg [⟨some 9, none, .mv (.t 1)⟩,
        ⟨some 10, none, .bin .lss (.t 9) (.c (.d (.int 0)))⟩]) (
  .cond (.t 10) (
    .seq (
    .reg [⟨some 4, none, .mv (.c (.d (.int (-1))))⟩]) (
    .ret)) (
    .skip))) (
  .seq (
  .reg [⟨some 11, none, .fld 1 (.t 2)⟩,
        ⟨some 12, none, .ld (.t 11)⟩,
        ⟨some 13, none, .mv (.t 1)⟩,
        ⟨some 14, none, .call 33 [(.t 12), (.t 13)]⟩,
        ⟨some 1, none, .mv (.t 14)⟩]) (
  .seq (
  .seq (
  .reg [⟨some 15, none, .mv (.t 1)⟩,
        ⟨some 16, none, .bin .lss (.t 15) (.c (.d (.int 0)))⟩]) (
  .cond (.t 16) (
    .seq (
    .reg [⟨some 4, none, .mv (.c (.d (.int (-1))))⟩]) (
    .ret)) (
    .skip))) (
  .seq (
  .reg [⟨some 17, none, .fld 2 (.t 2)⟩,
        ⟨some 18, none, .ld (.t 17)⟩,
        ⟨some 19, none, .mv (.t 1)⟩,
        ⟨some 20, none, .call 33 [(.t 18), (.t 19)]⟩,
        ⟨some 1, none, .mv (.t 20)⟩]) (
  .seq (
  .seq (
  .reg [⟨some 21, none, .mv (.t 1)⟩,
        ⟨some 22, none, .bin .lss (.t 21) (.c (.d (.int 0)))⟩]) (
  .cond (.t 22) (
    .seq (
    .reg [⟨some 4, none, .mv (.c (.d (.int (-1))))⟩]) (
    .ret)) (
    .skip))) (
  .seq (
  .reg [⟨some 23, none, .mv (.t 1)⟩,
        ⟨some 4, none, .mv (.t 23)⟩]) (
  .ret)))))))),
  [.t 4]⟩

theorem k_laws_szTensor : cFun Try.prog Try.f7 = some C_laws_szTensor.erase := by kernel_rfl

def L0_laws_eqIntS : C :=
      .seq (
      .seq (
      .reg [⟨some 11, none, .mv (.t 5)⟩,
            ⟨some 12, none, .mv (.t 0)⟩,
            ⟨some 13, none, .len (.t 12)⟩,
            ⟨some 14, none, .bin .lss (.t 11) (.t 13)⟩]) (
      .cond (.t 14) (
        .skip) (
        .exit 0))) (
      .seq (
      .block 1 (
        .seq (
        .draw [⟨some 17, none, .mv (.t 0)⟩,
               ⟨some 18, none, .mv (.t 5)⟩,
               ⟨some 19, none, .idx 1 (.t 17) (.t 18)⟩,
               ⟨some 20, none, .ld (.t 19)⟩,
               ⟨some 21, none, .mv (.t 1)⟩,
               ⟨some 22, none, .mv (.t 5)⟩,
               ⟨some 23, none, .idx 1 (.t 21) (.t 22)⟩,
               ⟨some 24, none, .ld (.t 23)⟩]
          [⟨some 25, none, .bin .neq (.t 20) (.t 24)⟩]) (
        .cond (.t 25) (
          .seq (
          .reg [⟨some 4, none, .mv (.c (.d (.bool false)))⟩]) (
          .ret)) (
          .skip)))) (
      .reg [⟨some 15, none, .mv (.t 5)⟩,
            ⟨some 16, none, .bin .add (.t 15) (.c (.d (.int 1)))⟩,
            ⟨some 5, none, .mv (.t 16)⟩]))

def C_laws_eqIntS : Fun := ⟨2, 26,
  .seq (
  .reg [⟨some 4, none, .mv (.c (.d (.bool false)))⟩]) (
  .seq (
  .seq (
  .reg [⟨some 6, none, .mv (.t 0)⟩,
        ⟨some 7, none, .len (.t 6)⟩,
        ⟨some 8, none, .mv (.t 1)⟩,
        ⟨some 9, none, .len (.t 8)⟩,
        ⟨some 10, none, .bin .neq (.t 7) (.t 9)⟩]) (
  .cond (.t 10) (
    .seq (
    .reg [⟨some 4, none, .mv (.c (.d (.bool false)))⟩]) (
    .ret)) (
    .skip))) (
  .seq (
  .seq (
  .reg [⟨some 5, none, .mv (.c (.d (.int 0)))⟩]) (
  .block 0 (
    .loop L0_laws_eqIntS))) (
  .seq (
  .reg [⟨some 4, none, .mv (.c (.d (.bool true)))⟩]) (
  .ret)))),
  [.t 4]⟩

theorem k_laws_eqIntS : cFun Try.prog Try.f14 = some C_laws_eqIntS.erase := by kernel_rfl

def C_laws_eqTensor : Fun := ⟨2, 23,
  .seq (
  .reg [⟨some 2, none, .box (.t 0)⟩,
        ⟨some 3, none, .box (.t 1)⟩,
        ⟨some 4, none, .mv (.c (.d (.bool false)))⟩]) (
  .seq (
  .seq (
  .reg [⟨some 5, none, .fld 0 (.t 2)⟩,
        ⟨some 6, none, .ld (.t 5)⟩,
        ⟨some 7, none, .fld 0 (.t 3)⟩,
        ⟨some 8, none, .ld (.t 7)⟩,
        ⟨some 9, none, .call 14 [(.t 6), (.t 8)]⟩,
        ⟨some 10, none, .not (.t 9)⟩]) (
  .cond (.t 10) (
    .seq (
    .reg [⟨some 4, none, .mv (.c (.d (.bool false)))⟩]) (
    .ret)) (
    .skip))) (
  .seq (
  .seq (
  .reg [⟨some 11, none, .fld 1 (.t 2)⟩,
        ⟨some 12, none, .ld (.t 11)⟩,
        ⟨some 13, none, .fld 1 (.t 3)⟩,
        ⟨some 14, none, .ld (.t 13)⟩,
        ⟨some 15, none, .call 14 [(.t 12), (.t 14)]⟩,
        ⟨some 16, none, .not (.t 15)⟩]) (
  .cond (.t 16) (
    .seq (
    .reg [⟨some 4, none, .mv (.c (.d (.bool false)))⟩]) (
    .ret)) (
    .skip))) (
  .seq (
  .seq (
  .reg [⟨some 17, none, .fld 2 (.t 2)⟩,
        ⟨some 18, none, .ld (.t 17)⟩,
        ⟨some 19, none, .fld 2 (.t 3)⟩,
        ⟨some 20, none, .ld (.t 19)⟩,
        ⟨some 21, none, .call 14 [(.t 18), (.t 20)]⟩,
        ⟨some 22, none, .not (.t 21)⟩]) (
  .cond (.t 22) (
    .seq (
    .reg [⟨some 4, none, .mv (.c (.d (.bool false)))⟩]) (
    .ret)) (
    .skip))) (
  .seq (
  .reg [⟨some 4, none, .mv (.c (.d (.bool true)))⟩]) (
  .ret))))),
  [.t 4]⟩

theorem k_laws_eqTensor : cFun Try.prog Try.f13 = some C_laws_eqTensor.erase := by kernel_rfl

def L0_laws_markIntS : C :=
      .seq (
      .seq (
      .reg [⟨some 6, none, .mv (.t 5)⟩,
            ⟨some 7, none, .mv (.t 0)⟩,
            ⟨some 8, none, .len (.t 7)⟩,
            ⟨some 9, none, .bin .lss (.t 6) (.t 8)⟩]) (
      .cond (.t 9) (
        .skip) (
        .exit 0))) (
      .seq (
      .block 1 (
        .seq (
        .reg [⟨some 12, none, .mv (.t 0)⟩,
              ⟨some 13, none, .mv (.t 5)⟩,
              ⟨some 14, none, .mv (.t 1)⟩,
              ⟨some 15, none, .idx 1 (.t 12) (.t 13)⟩,
              ⟨none, none, .st 1 (.t 15) (.t 14)⟩]) (
        .reg [⟨some 16, none, .mv (.t 1)⟩,
              ⟨some 17, none, .bin .add (.t 16) (.c (.d (.int 1)))⟩,
              ⟨some 1, none, .mv (.t 17)⟩]))) (
      .reg [⟨some 10, none, .mv (.t 5)⟩,
            ⟨some 11, none, .bin .add (.t 10) (.c (.d (.int 1)))⟩,
            ⟨some 5, none, .mv (.t 11)⟩]))

def C_laws_markIntS : Fun := ⟨2, 19,
  .seq (
  .reg [⟨some 4, none, .mv (.c (.d (.int 0)))⟩]) (
  .seq (
  .seq (
  .reg [⟨some 5, none, .mv (.c (.d (.int 0)))⟩]) (
  .block 0 (
    .loop L0_laws_markIntS))) (
  .seq (
  .reg [⟨some 18, none, .mv (.t 1)⟩,
        ⟨some 4, none, .mv (.t 18)⟩]) (
  .ret))),
  [.t 4]⟩

theorem k_laws_markIntS : cFun Try.prog Try.f16 = some C_laws_markIntS.erase := by kernel_rfl

def L0_laws_heldIntS : C :=
      .seq (
      .seq (
      .reg [⟨some 6, none, .mv (.t 5)⟩,
            ⟨some 7, none, .mv (.t 0)⟩,
            ⟨some 8, none, .len (.t 7)⟩,
            ⟨some 9, none, .bin .lss (.t 6) (.t 8)⟩]) (
      .cond (.t 9) (
        .skip) (
        .exit 0))) (
      .seq (
      .block 1 (
        .seq (
        .seq (
        .reg [⟨some 12, none, .mv (.t 0)⟩,
              ⟨some 13, none, .mv (.t 5)⟩,
              ⟨some 14, none, .idx 1 (.t 12) (.t 13)⟩,
              ⟨some 15, none, .ld (.t 14)⟩,
              ⟨some 16, none, .mv (.t 1)⟩,
              ⟨some 17, none, .bin .neq (.t 15) (.t 16)⟩]) (
        .cond (.t 17) (
          .seq (
          .reg [⟨some 4, none, .mv (.c (.d (.int (-1))))⟩]) (
          .ret)) (
          .skip))) (
        .reg [⟨some 18, none, .mv (.t 1)⟩,
              ⟨some 19, none, .bin .add (.t 18) (.c (.d (.int 1)))⟩,
              ⟨some 1, none, .mv (.t 19)⟩]))) (
      .reg [⟨some 10, none, .mv (.t 5)⟩,
            ⟨some 11, none, .bin .add (.t 10) (.c (.d (.int 1)))⟩,
            ⟨some 5, none, .mv (.t 11)⟩]))

def C_laws_heldIntS : Fun := ⟨2, 21,
  .seq (
  .reg [⟨some 4, none, .mv (.c (.d (.int 0)))⟩]) (
  .seq (
  .seq (
  .reg [⟨some 5, none, .mv (.c (.d (.int 0)))⟩]) (
  .block 0 (
    .loop L0_laws_heldIntS))) (
  .seq (
  .reg [⟨some 20, none, .mv (.t 1)⟩,
        ⟨some 4, none, .mv (.t 20)⟩]) (
  .ret))),
  [.t 4]⟩

theorem k_laws_heldIntS : cFun Try.prog Try.f48 = some C_laws_heldIntS.erase := by kernel_rfl

def C_impl_copyInts : Fun := ⟨1, 5,
  .seq (
  .reg [⟨some 2, none, .mv (.c (.nil))⟩]) (
  .seq (
  .reg [⟨some 3, none, .mv (.t 0)⟩,
        ⟨some 4, none, .app 1 8 [.d (.int 0)] (.c (.nil)) (.t 3)⟩,
        ⟨some 2, none, .mv (.t 4)⟩]) (
  .ret)),
  [.t 2]⟩

theorem k_impl_copyInts : cFun Try.prog Try.f47 = some C_impl_copyInts.erase := by kernel_rfl

end Go.Proofs.Ytlijfhfhonalgaa

/-
  The compiled code of functions of the seat (written by mkcode.py). No condition.
-/
namespace Go.Proofs.Ytlijfhfhonalgaa
open Go.Lift

def L0_impl_hasInt : C :=
 .seq (
 .reg [⟨some 10, none, .bin .lss (.t 9) (.t 8)⟩]) (
 .seq (
 .cond (.t 10) (
 .skip) (
 .exit 0)) (
 .seq (
 .block 1 (
 .seq (
 .reg [⟨some 11, none, .idx 1 (.t 7) (.t 9)⟩,
 ⟨some 12, none, .ld (.t 11)⟩,
 ⟨some 6, none, .mv (.t 12)⟩]) (
 .seq (
 .reg [⟨some 13, none, .mv (.t 1)⟩,
 ⟨some 14, none, .mv (.t 6)⟩,
 ⟨some 15, none, .bin .eql (.t 13) (.t 14)⟩]) (
 .cond (.t 15) (
 .seq (
 .reg [⟨some 4, none, .mv (.c (.d (.bool true)))⟩]) (
 .ret)) (
 .skip))))) (
 .reg [⟨some 16, none, .bin .add (.t 9) (.c (.d (.int 1)))⟩,
 ⟨some 9, none, .mv (.t 16)⟩])))

def C_impl_hasInt : Fun := ⟨2, 17,
 .seq (
 .reg [⟨some 4, none, .mv (.c (.d (.bool false)))⟩]) (
 .seq (
 .seq (
 .reg [⟨some 7, none, .mv (.t 0)⟩,
 ⟨some 8, none, .len (.t 7)⟩,
 ⟨some 9, none, .mv (.c (.d (.int 0)))⟩]) (
 .block 0 (
 .loop L0_impl_hasInt))) (
 .seq (
 .reg [⟨some 4, none, .mv (.c (.d (.bool false)))⟩]) (
 .ret))),
 [.t 4]⟩

theorem k_impl_hasInt : cFun Try.prog Try.f49 = some C_impl_hasInt.erase := by kernel_rfl

def C_spec_l05Copy : Fun := ⟨1, 13,
 .seq (
 .reg [⟨some 1, none, .box (.t 0)⟩,
 ⟨some 2, none, .zer [.nil, .nil, .nil]⟩]) (
 .seq (
 .draw [⟨some 3, none, .fld 0 (.t 1)⟩,
 ⟨some 4, none, .ld (.t 3)⟩,
 ⟨some 5, none, .call 40 [(.t 4)]⟩,
 ⟨some 6, none, .fld 1 (.t 1)⟩,
 ⟨some 7, none, .ld (.t 6)⟩,
 ⟨some 8, none, .call 40 [(.t 7)]⟩,
 ⟨some 9, none, .fld 2 (.t 1)⟩,
 ⟨some 10, none, .ld (.t 9)⟩]
 [⟨some 11, none, .call 40 [(.t 10)]⟩,
 ⟨some 12, none, .agg [.nil, .nil, .nil] [(0, 1, (.t 5)), (1, 1, (.t 8)), (2, 1, (.t 11))]⟩,
 ⟨none, none, .st 3 (.t 2) (.t 12)⟩]) (
 .ret)),
 [.cell 2 3]⟩

theorem k_spec_l05Copy : cFun Try.prog Try.f84 = some C_spec_l05Copy.erase := by kernel_rfl

def C_impl_copyTensor : Fun := ⟨1, 13,
 .seq (
 .reg [⟨some 1, none, .box (.t 0)⟩,
 ⟨some 2, none, .zer [.nil, .nil, .nil]⟩]) (
 .seq (
 .draw [⟨some 3, none, .fld 0 (.t 1)⟩,
 ⟨some 4, none, .ld (.t 3)⟩,
 ⟨some 5, none, .call 47 [(.t 4)]⟩,
 ⟨some 6, none, .fld 1 (.t 1)⟩,
 ⟨some 7, none, .ld (.t 6)⟩,
 ⟨some 8, none, .call 47 [(.t 7)]⟩,
 ⟨some 9, none, .fld 2 (.t 1)⟩,
 ⟨some 10, none, .ld (.t 9)⟩]
 [⟨some 11, none, .call 47 [(.t 10)]⟩,
 ⟨some 12, none, .agg [.nil, .nil, .nil] [(0, 1, (.t 5)), (1, 1, (.t 8)), (2, 1, (.t 11))]⟩,
 ⟨none, none, .st 3 (.t 2) (.t 12)⟩]) (
 .ret)),
 [.cell 2 3]⟩

theorem k_impl_copyTensor : cFun Try.prog Try.f88 = some C_impl_copyTensor.erase := by kernel_rfl

def L0_spec_l05Find : C :=
 .seq (
 .reg [⟨some 10, none, .bin .lss (.t 9) (.t 8)⟩]) (
 .seq (
 .cond (.t 10) (
 .skip) (
 .exit 0)) (
 .seq (
 .block 1 (
 .seq (
 .reg [⟨some 11, none, .mv (.t 9)⟩,
 ⟨some 12, none, .idx 1 (.t 7) (.t 9)⟩,
 ⟨some 13, none, .ld (.t 12)⟩,
 ⟨some 5, none, .mv (.t 11)⟩,
 ⟨some 6, none, .mv (.t 13)⟩]) (
 .seq (
 .reg [⟨some 14, none, .mv (.t 6)⟩,
 ⟨some 15, none, .mv (.t 1)⟩,
 ⟨some 16, none, .bin .eql (.t 14) (.t 15)⟩]) (
 .cond (.t 16) (
 .seq (
 .reg [⟨some 17, none, .mv (.t 5)⟩,
 ⟨some 4, none, .mv (.t 17)⟩]) (
 .ret)) (
 .skip))))) (
 .reg [⟨some 18, none, .bin .add (.t 9) (.c (.d (.int 1)))⟩,
 ⟨some 9, none, .mv (.t 18)⟩])))

def C_spec_l05Find : Fun := ⟨2, 19,
 .seq (
 .reg [⟨some 4, none, .mv (.c (.d (.int 0)))⟩]) (
 .seq (
 .seq (
 .reg [⟨some 7, none, .mv (.t 0)⟩,
 ⟨some 8, none, .len (.t 7)⟩,
 ⟨some 9, none, .mv (.c (.d (.int 0)))⟩]) (
 .block 0 (
 .loop L0_spec_l05Find))) (
 .seq (
 .reg [⟨some 4, none, .mv (.c (.d (.int (-1))))⟩]) (
 .ret))),
 [.t 4]⟩

theorem k_spec_l05Find : cFun Try.prog Try.f34 = some C_spec_l05Find.erase := by kernel_rfl

def C_spec_l05Ints : Fun := ⟨1, 6,
 .seq (
 .reg [⟨some 2, none, .mv (.c (.nil))⟩]) (
 .seq (
 .reg [⟨some 3, none, .mksl 1 0 [.d (.int 0)] []⟩,
 ⟨some 4, none, .mv (.t 0)⟩,
 ⟨some 5, none, .app 1 8 [.d (.int 0)] (.t 3) (.t 4)⟩,
 ⟨some 2, none, .mv (.t 5)⟩]) (
 .ret)),
 [.t 2]⟩

theorem k_spec_l05Ints : cFun Try.prog Try.f40 = some C_spec_l05Ints.erase := by kernel_rfl

end Go.Proofs.Ytlijfhfhonalgaa

/-
  The compiled code of functions of the seat (written by mkcode.py). No condition.
-/
namespace Go.Proofs.Ytlijfhfhonalgaa
open Go.Lift

def C_impl_LabelsOf : Fun := ⟨1, 16,
 .seq (
 .reg [⟨some 1, none, .box (.t 0)⟩,
 ⟨some 2, none, .mv (.c (.nil))⟩]) (
 .seq (
 .seq (
 .reg [⟨some 5, none, .ldn 5 (.t 1)⟩,
 ⟨some 6, none, .call 62 [(.t 5)]⟩,
 ⟨some 7, none, .not (.t 6)⟩]) (
 .cond (.t 7) (
 .seq (
 .reg [⟨some 2, none, .mv (.c (.nil))⟩]) (
 .ret)) (
 .skip))) (
 .seq (
 .reg [⟨some 9, none, .fld 3 (.t 1)⟩,
 ⟨some 10, none, .ld (.t 9)⟩,
 ⟨some 11, none, .call 85 [(.t 10)]⟩,
 ⟨some 8, none, .mv (.t 11)⟩,
 ⟨some 12, none, .ext 0 (.t 8)⟩,
 ⟨some 13, none, .ext 1 (.t 8)⟩,
 ⟨some 3, none, .zer (reps 100 (.d (.int 0)))⟩,
 ⟨none, none, .st 100 (.t 3) (.t 12)⟩,
 ⟨some 4, none, .mv (.t 13)⟩]) (
 .seq (
 .reg [⟨some 14, none, .ldn 100 (.t 3)⟩,
 ⟨some 15, none, .call 87 [(.t 14)]⟩,
 ⟨some 2, none, .mv (.t 15)⟩]) (
 .ret)))),
 [.t 2]⟩

theorem k_impl_LabelsOf : cFun Try.prog Try.f63 = some C_impl_LabelsOf.erase := by kernel_rfl

def L0_spec_l12Labels : C :=
 .seq (
 .seq (
 .reg [⟨some 6, none, .mv (.t 4)⟩,
 ⟨some 7, none, .bin .leq (.t 6) (.c (.d (.int 99)))⟩]) (
 .cond (.t 7) (
 .skip) (
 .exit 0))) (
 .seq (
 .block 1 (
 .seq (
 .reg [⟨some 10, none, .mv (.t 0)⟩,
 ⟨some 11, none, .mv (.t 4)⟩,
 ⟨some 12, none, .call 60 [(.t 10), (.t 11)]⟩,
 ⟨some 13, none, .bin .gtr (.t 12) (.c (.d (.int 0)))⟩]) (
 .cond (.t 13) (
 .reg [⟨some 14, none, .mv (.t 3)⟩,
 ⟨some 15, none, .mv (.t 4)⟩,
 ⟨some 16, none, .mksl 1 1 [.d (.int 0)] [(0, 1, (.t 15))]⟩,
 ⟨some 17, none, .app 1 8 [.d (.int 0)] (.t 14) (.t 16)⟩,
 ⟨some 3, none, .mv (.t 17)⟩]) (
 .skip)))) (
 .reg [⟨some 8, none, .mv (.t 4)⟩,
 ⟨some 9, none, .bin .add (.t 8) (.c (.d (.int 1)))⟩,
 ⟨some 4, none, .mv (.t 9)⟩]))

def C_spec_l12Labels : Fun := ⟨1, 19,
 .seq (
 .reg [⟨some 2, none, .mv (.c (.nil))⟩]) (
 .seq (
 .reg [⟨some 5, none, .mksl 1 0 [.d (.int 0)] []⟩,
 ⟨some 3, none, .mv (.t 5)⟩]) (
 .seq (
 .seq (
 .reg [⟨some 4, none, .mv (.c (.d (.int 0)))⟩]) (
 .block 0 (
 .loop L0_spec_l12Labels))) (
 .seq (
 .reg [⟨some 18, none, .mv (.t 3)⟩,
 ⟨some 2, none, .mv (.t 18)⟩]) (
 .ret)))),
 [.t 2]⟩

theorem k_spec_l12Labels : cFun Try.prog Try.f59 = some C_spec_l12Labels.erase := by kernel_rfl

def L0_impl_occurring : C :=
 .seq (
 .reg [⟨some 8, none, .bin .lss (.t 7) (.c (.d (.int 100)))⟩]) (
 .seq (
 .cond (.t 8) (
 .skip) (
 .exit 0)) (
 .seq (
 .block 1 (
 .seq (
 .reg [⟨some 9, none, .mv (.t 7)⟩,
 ⟨some 10, none, .ixa 100 (.t 6) (.t 7)⟩,
 ⟨some 4, none, .mv (.t 9)⟩,
 ⟨some 5, none, .mv (.t 10)⟩]) (
 .seq (
 .reg [⟨some 11, none, .mv (.t 5)⟩,
 ⟨some 12, none, .bin .neq (.t 11) (.c (.d (.int 0)))⟩]) (
 .cond (.t 12) (
 .reg [⟨some 13, none, .mv (.t 3)⟩,
 ⟨some 14, none, .mv (.t 4)⟩,
 ⟨some 15, none, .mksl 1 1 [.d (.int 0)] [(0, 1, (.t 14))]⟩,
 ⟨some 16, none, .app 1 8 [.d (.int 0)] (.t 13) (.t 15)⟩,
 ⟨some 3, none, .mv (.t 16)⟩]) (
 .skip))))) (
 .reg [⟨some 17, none, .bin .add (.t 7) (.c (.d (.int 1)))⟩,
 ⟨some 7, none, .mv (.t 17)⟩])))

def C_impl_occurring : Fun := ⟨1, 19,
 .seq (
 .reg [⟨some 1, none, .box (.t 0)⟩,
 ⟨some 2, none, .mv (.c (.nil))⟩]) (
 .seq (
 .reg [⟨some 3, none, .mv (.c (.nil))⟩]) (
 .seq (
 .seq (
 .reg [⟨some 6, none, .ldn 100 (.t 1)⟩,
 ⟨some 7, none, .mv (.c (.d (.int 0)))⟩]) (
 .block 0 (
 .loop L0_impl_occurring))) (
 .seq (
 .reg [⟨some 18, none, .mv (.t 3)⟩,
 ⟨some 2, none, .mv (.t 18)⟩]) (
 .ret)))),
 [.t 2]⟩

theorem k_impl_occurring : cFun Try.prog Try.f87 = some C_impl_occurring.erase := by kernel_rfl

end Go.Proofs.Ytlijfhfhonalgaa

/-
  The compiled code of functions of the seat (written by mkcode.py). No condition.
-/
namespace Go.Proofs.Ytlijfhfhonalgaa
open Go.Lift

def C_impl_DimOf : Fun := ⟨2, 27,
 .seq (
 .reg [⟨some 2, none, .box (.t 0)⟩,
 ⟨some 4, none, .mv (.c (.d (.int 0)))⟩]) (
 .seq (
 .seq (
 .reg [⟨some 7, none, .ldn 5 (.t 2)⟩,
 ⟨some 8, none, .call 62 [(.t 7)]⟩,
 ⟨some 9, none, .not (.t 8)⟩,
 ⟨some 10, none, .mv (.t 9)⟩,
 ⟨some 11, some (10, false), .mv (.t 1)⟩,
 ⟨some 12, some (10, false), .bin .lss (.t 11) (.c (.d (.int 0)))⟩,
 ⟨some 13, none, .pick (.t 10) (.c (.d (.bool true))) (.t 12)⟩,
 ⟨some 14, none, .mv (.t 13)⟩,
 ⟨some 15, some (14, false), .mv (.t 1)⟩,
 ⟨some 16, some (14, false), .bin .gtr (.t 15) (.c (.d (.int 99)))⟩,
 ⟨some 17, none, .pick (.t 14) (.c (.d (.bool true))) (.t 16)⟩]) (
 .cond (.t 17) (
 .seq (
 .reg [⟨some 4, none, .mv (.c (.d (.int 0)))⟩]) (
 .ret)) (
 .skip))) (
 .seq (
 .reg [⟨some 19, none, .fld 3 (.t 2)⟩,
 ⟨some 20, none, .ld (.t 19)⟩,
 ⟨some 21, none, .call 85 [(.t 20)]⟩,
 ⟨some 18, none, .mv (.t 21)⟩,
 ⟨some 22, none, .ext 0 (.t 18)⟩,
 ⟨some 23, none, .ext 1 (.t 18)⟩,
 ⟨some 5, none, .zer (reps 100 (.d (.int 0)))⟩,
 ⟨none, none, .st 100 (.t 5) (.t 22)⟩,
 ⟨some 6, none, .mv (.t 23)⟩]) (
 .seq (
 .reg [⟨some 24, none, .mv (.t 1)⟩,
 ⟨some 25, none, .aix 1 100 (.t 5) (.t 24)⟩,
 ⟨some 26, none, .ld (.t 25)⟩,
 ⟨some 4, none, .mv (.t 26)⟩]) (
 .ret)))),
 [.t 4]⟩

theorem k_impl_DimOf : cFun Try.prog Try.f64 = some C_impl_DimOf.erase := by kernel_rfl

end Go.Proofs.Ytlijfhfhonalgaa
