/-
  The compiled code of functions of the seat (written by mkcode.py). No condition.
-/
import Derived.Test.YtlijfhfhonalgaaLiftE
import Derived.Test.YtlijfhfhonalgaaProg
import Derived.KernelRfl
import Derived.Test.YtlijfhfhonalgaaLiftK
namespace Go.Proofs.Ytlijfhfhonalgaa
open Go.Lift

def C_laws_FnExactSplitLabel : Fun := ⟨5, 151,
 .seq (
 .reg [⟨some 5, none, .box (.t 0)⟩,
 ⟨some 6, none, .box (.t 1)⟩,
 ⟨some 10, none, .mv (.c (.d (.bool false)))⟩]) (
 .seq (
 .seq (
 .reg [⟨some 24, none, .mv (.t 3)⟩,
 ⟨some 25, none, .len (.t 24)⟩,
 ⟨some 26, none, .bin .gtr (.t 25) (.c (.d (.int 1048576)))⟩]) (
 .cond (.t 26) (
 .seq (
 .reg [⟨some 10, none, .mv (.c (.d (.bool true)))⟩]) (
 .ret)) (
 .skip))) (
 .seq (
 .seq (
 .reg [⟨some 27, none, .mv (.t 4)⟩,
 ⟨some 28, none, .len (.t 27)⟩,
 ⟨some 29, none, .bin .gtr (.t 28) (.c (.d (.int 1048576)))⟩]) (
 .cond (.t 29) (
 .seq (
 .reg [⟨some 10, none, .mv (.c (.d (.bool true)))⟩]) (
 .ret)) (
 .skip))) (
 .seq (
 .reg [⟨some 11, none, .mv (.c (.d (.int 1048576)))⟩]) (
 .seq (
 .reg [⟨some 30, none, .ldn 3 (.t 6)⟩,
 ⟨some 31, none, .mv (.t 11)⟩,
 ⟨some 32, none, .call 7 [(.t 30), (.t 31)]⟩,
 ⟨some 11, none, .mv (.t 32)⟩]) (
 .seq (
 .seq (
 .reg [⟨some 33, none, .mv (.t 11)⟩,
 ⟨some 34, none, .bin .lss (.t 33) (.c (.d (.int 0)))⟩]) (
 .cond (.t 34) (
 .seq (
 .reg [⟨some 10, none, .mv (.c (.d (.bool true)))⟩]) (
 .ret)) (
 .skip))) (
 .seq (
 .draw [⟨some 36, none, .ldn 3 (.t 5)⟩,
 ⟨some 37, none, .call 9 [(.t 36)]⟩,
 ⟨some 38, none, .ldn 3 (.t 6)⟩,
 ⟨some 39, none, .call 10 [(.t 38)]⟩,
 ⟨some 40, none, .mv (.t 2)⟩,
 ⟨some 41, none, .mv (.t 3)⟩,
 ⟨some 42, none, .call 11 [(.t 41)]⟩,
 ⟨some 43, none, .mv (.t 4)⟩,
 ⟨some 44, none, .call 11 [(.t 43)]⟩,
 ⟨some 45, none, .call 8 [(.t 37), (.t 39), (.t 40), (.t 42), (.t 44)]⟩,
 ⟨some 35, none, .mv (.t 45)⟩,
 ⟨some 46, none, .ext 0 (.t 35)⟩,
 ⟨some 47, none, .ext 1 (.t 35)⟩,
 ⟨some 12, none, .zer [.nil, .nil, .nil]⟩]
 [⟨none, none, .st 3 (.t 12) (.t 46)⟩,
 ⟨some 13, none, .mv (.t 47)⟩]) (
 .seq (
 .reg [⟨some 48, none, .ldn 3 (.t 6)⟩,
 ⟨some 49, none, .call 10 [(.t 48)]⟩,
 ⟨some 14, none, .zer [.nil, .nil, .nil]⟩,
 ⟨none, none, .st 3 (.t 14) (.t 49)⟩]) (
 .seq (
 .reg [⟨some 50, none, .mv (.t 3)⟩,
 ⟨some 51, none, .call 11 [(.t 50)]⟩,
 ⟨some 15, none, .mv (.t 51)⟩]) (
 .seq (
 .reg [⟨some 52, none, .mv (.t 4)⟩,
 ⟨some 53, none, .call 11 [(.t 52)]⟩,
 ⟨some 16, none, .mv (.t 53)⟩]) (
 .seq (
 .draw [⟨some 55, none, .ldn 3 (.t 5)⟩,
 ⟨some 56, none, .call 9 [(.t 55)]⟩,
 ⟨some 57, none, .ldn 3 (.t 14)⟩,
 ⟨some 58, none, .mv (.t 2)⟩,
 ⟨some 59, none, .mv (.t 15)⟩,
 ⟨some 60, none, .mv (.t 16)⟩,
 ⟨some 61, none, .call 12 [(.t 56), (.t 57), (.t 58), (.t 59), (.t 60)]⟩,
 ⟨some 54, none, .mv (.t 61)⟩,
 ⟨some 62, none, .ext 0 (.t 54)⟩,
 ⟨some 63, none, .ext 1 (.t 54)⟩,
 ⟨some 17, none, .zer [.nil, .nil, .nil]⟩]
 [⟨none, none, .st 3 (.t 17) (.t 62)⟩,
 ⟨some 18, none, .mv (.t 63)⟩]) (
 .seq (
 .seq (
 .reg [⟨some 64, none, .ldn 3 (.t 17)⟩,
 ⟨some 65, none, .ldn 3 (.t 12)⟩,
 ⟨some 66, none, .call 13 [(.t 64), (.t 65)]⟩,
 ⟨some 67, none, .not (.t 66)⟩,
 ⟨some 68, none, .mv (.t 67)⟩,
 ⟨some 69, some (68, false), .mv (.t 18)⟩,
 ⟨some 70, some (68, false), .mv (.t 13)⟩,
 ⟨some 71, some (68, false), .binb true (.t 69) (.t 70)⟩,
 ⟨some 72, none, .pick (.t 68) (.c (.d (.bool true))) (.t 71)⟩]) (
 .cond (.t 72) (
 .seq (
 .reg [⟨some 10, none, .mv (.c (.d (.bool false)))⟩]) (
 .ret)) (
 .skip))) (
 .seq (
 .seq (
 .draw [⟨some 73, none, .ldn 3 (.t 14)⟩,
 ⟨some 74, none, .ldn 3 (.t 6)⟩,
 ⟨some 75, none, .call 10 [(.t 74)]⟩]
 [⟨some 76, none, .call 13 [(.t 73), (.t 75)]⟩,
 ⟨some 77, none, .not (.t 76)⟩]) (
 .cond (.t 77) (
 .seq (
 .reg [⟨some 10, none, .mv (.c (.d (.bool false)))⟩]) (
 .ret)) (
 .skip))) (
 .seq (
 .seq (
 .reg [⟨some 78, none, .mv (.t 15)⟩,
 ⟨some 79, none, .mv (.t 3)⟩,
 ⟨some 80, none, .call 11 [(.t 79)]⟩,
 ⟨some 81, none, .call 14 [(.t 78), (.t 80)]⟩,
 ⟨some 82, none, .not (.t 81)⟩]) (
 .cond (.t 82) (
 .seq (
 .reg [⟨some 10, none, .mv (.c (.d (.bool false)))⟩]) (
 .ret)) (
 .skip))) (
 .seq (
 .seq (
 .reg [⟨some 83, none, .mv (.t 16)⟩,
 ⟨some 84, none, .mv (.t 4)⟩,
 ⟨some 85, none, .call 11 [(.t 84)]⟩,
 ⟨some 86, none, .call 14 [(.t 83), (.t 85)]⟩,
 ⟨some 87, none, .not (.t 86)⟩]) (
 .cond (.t 87) (
 .seq (
 .reg [⟨some 10, none, .mv (.c (.d (.bool false)))⟩]) (
 .ret)) (
 .skip))) (
 .seq (
 .reg [⟨some 19, none, .mv (.c (.d (.int 1)))⟩]) (
 .seq (
 .reg [⟨some 88, none, .ldn 3 (.t 14)⟩,
 ⟨some 89, none, .mv (.t 19)⟩,
 ⟨some 90, none, .call 15 [(.t 88), (.t 89)]⟩,
 ⟨some 19, none, .mv (.t 90)⟩]) (
 .seq (
 .reg [⟨some 91, none, .mv (.t 15)⟩,
 ⟨some 92, none, .mv (.t 19)⟩,
 ⟨some 93, none, .call 16 [(.t 91), (.t 92)]⟩,
 ⟨some 19, none, .mv (.t 93)⟩]) (
 .seq (
 .reg [⟨some 94, none, .mv (.t 16)⟩,
 ⟨some 95, none, .mv (.t 19)⟩,
 ⟨some 96, none, .call 16 [(.t 94), (.t 95)]⟩,
 ⟨some 19, none, .mv (.t 96)⟩]) (
 .seq (
 .seq (
 .reg [⟨some 97, none, .mv (.t 19)⟩,
 ⟨some 98, none, .bin .lss (.t 97) (.c (.d (.int 0)))⟩,
 ⟨some 99, none, .mv (.t 98)⟩,
 ⟨some 100, some (99, false), .ldn 3 (.t 17)⟩,
 ⟨some 101, some (99, false), .ldn 3 (.t 12)⟩,
 ⟨some 102, some (99, false), .call 13 [(.t 100), (.t 101)]⟩,
 ⟨some 103, some (99, false), .not (.t 102)⟩,
 ⟨some 104, none, .pick (.t 99) (.c (.d (.bool true))) (.t 103)⟩,
 ⟨some 105, none, .mv (.t 104)⟩,
 ⟨some 106, some (105, false), .mv (.t 18)⟩,
 ⟨some 107, some (105, false), .mv (.t 13)⟩,
 ⟨some 108, some (105, false), .binb true (.t 106) (.t 107)⟩,
 ⟨some 109, none, .pick (.t 105) (.c (.d (.bool true))) (.t 108)⟩]) (
 .cond (.t 109) (
 .seq (
 .reg [⟨some 10, none, .mv (.c (.d (.bool false)))⟩]) (
 .ret)) (
 .skip))) (
 .seq (
 .reg [⟨some 20, none, .mv (.c (.d (.int 1)))⟩]) (
 .seq (
 .reg [⟨some 110, none, .ldn 3 (.t 17)⟩,
 ⟨some 111, none, .mv (.t 20)⟩,
 ⟨some 112, none, .call 15 [(.t 110), (.t 111)]⟩,
 ⟨some 20, none, .mv (.t 112)⟩]) (
 .seq (
 .reg [⟨some 21, none, .mv (.c (.d (.int 1)))⟩]) (
 .seq (
 .reg [⟨some 113, none, .ldn 3 (.t 17)⟩,
 ⟨some 114, none, .mv (.t 21)⟩,
 ⟨some 115, none, .call 17 [(.t 113), (.t 114)]⟩,
 ⟨some 21, none, .mv (.t 115)⟩]) (
 .seq (
 .seq (
 .reg [⟨some 116, none, .mv (.t 21)⟩,
 ⟨some 117, none, .bin .lss (.t 116) (.c (.d (.int 0)))⟩]) (
 .cond (.t 117) (
 .seq (
 .reg [⟨some 10, none, .mv (.c (.d (.bool false)))⟩]) (
 .ret)) (
 .skip))) (
 .seq (
 .seq (
 .reg [⟨some 118, none, .mv (.t 21)⟩,
 ⟨some 119, none, .mv (.t 20)⟩,
 ⟨some 120, none, .bin .neq (.t 118) (.t 119)⟩]) (
 .cond (.t 120) (
 .seq (
 .reg [⟨some 10, none, .mv (.c (.d (.bool false)))⟩]) (
 .ret)) (
 .skip))) (
 .seq (
 .draw [⟨some 122, none, .ldn 3 (.t 5)⟩,
 ⟨some 123, none, .call 9 [(.t 122)]⟩,
 ⟨some 124, none, .ldn 3 (.t 6)⟩,
 ⟨some 125, none, .call 10 [(.t 124)]⟩,
 ⟨some 126, none, .mv (.t 2)⟩,
 ⟨some 127, none, .mv (.t 3)⟩,
 ⟨some 128, none, .call 11 [(.t 127)]⟩,
 ⟨some 129, none, .mv (.t 4)⟩,
 ⟨some 130, none, .call 11 [(.t 129)]⟩,
 ⟨some 131, none, .call 12 [(.t 123), (.t 125), (.t 126), (.t 128), (.t 130)]⟩,
 ⟨some 121, none, .mv (.t 131)⟩,
 ⟨some 132, none, .ext 0 (.t 121)⟩,
 ⟨some 133, none, .ext 1 (.t 121)⟩,
 ⟨some 22, none, .zer [.nil, .nil, .nil]⟩]
 [⟨none, none, .st 3 (.t 22) (.t 132)⟩,
 ⟨some 23, none, .mv (.t 133)⟩]) (
 .seq (
 .seq (
 .reg [⟨some 134, none, .ldn 3 (.t 22)⟩,
 ⟨some 135, none, .ldn 3 (.t 12)⟩,
 ⟨some 136, none, .call 13 [(.t 134), (.t 135)]⟩,
 ⟨some 137, none, .not (.t 136)⟩,
 ⟨some 138, none, .mv (.t 137)⟩,
 ⟨some 139, some (138, false), .mv (.t 23)⟩,
 ⟨some 140, some (138, false), .mv (.t 13)⟩,
 ⟨some 141, some (138, false), .binb true (.t 139) (.t 140)⟩,
 ⟨some 142, none, .pick (.t 138) (.c (.d (.bool true))) (.t 141)⟩]) (
 .cond (.t 142) (
 .seq (
 .reg [⟨some 10, none, .mv (.c (.d (.bool false)))⟩]) (
 .ret)) (
 .skip))) (
 .seq (
 .reg [⟨some 21, none, .mv (.c (.d (.int 1)))⟩]) (
 .seq (
 .reg [⟨some 143, none, .ldn 3 (.t 17)⟩,
 ⟨some 144, none, .mv (.t 21)⟩,
 ⟨some 145, none, .call 17 [(.t 143), (.t 144)]⟩,
 ⟨some 21, none, .mv (.t 145)⟩]) (
 .seq (
 .seq (
 .reg [⟨some 146, none, .mv (.t 21)⟩,
 ⟨some 147, none, .bin .lss (.t 146) (.c (.d (.int 0)))⟩]) (
 .cond (.t 147) (
 .seq (
 .reg [⟨some 10, none, .mv (.c (.d (.bool false)))⟩]) (
 .ret)) (
 .skip))) (
 .seq (
 .seq (
 .reg [⟨some 148, none, .mv (.t 21)⟩,
 ⟨some 149, none, .mv (.t 20)⟩,
 ⟨some 150, none, .bin .neq (.t 148) (.t 149)⟩]) (
 .cond (.t 150) (
 .seq (
 .reg [⟨some 10, none, .mv (.c (.d (.bool false)))⟩]) (
 .ret)) (
 .skip))) (
 .seq (
 .reg [⟨some 10, none, .mv (.c (.d (.bool true)))⟩]) (
 .ret))))))))))))))))))))))))))))))))),
 [.t 10]⟩

theorem k_laws_FnExactSplitLabel : cFun Try.prog Try.f3 = some C_laws_FnExactSplitLabel.erase := by kernel_rfl

end Go.Proofs.Ytlijfhfhonalgaa

/-
  The compiled code of functions of the seat (written by mkcode.py). No condition.
-/
namespace Go.Proofs.Ytlijfhfhonalgaa
open Go.Lift

def C_spec_SplitLabel : Fun := ⟨5, 81,
 .seq (
 .reg [⟨some 5, none, .box (.t 0)⟩,
 ⟨some 6, none, .box (.t 1)⟩,
 ⟨some 10, none, .zer [.nil, .nil, .nil]⟩,
 ⟨some 11, none, .mv (.c (.d (.bool false)))⟩]) (
 .seq (
 .reg [⟨some 15, none, .fld 0 (.t 6)⟩,
 ⟨some 16, none, .ld (.t 15)⟩,
 ⟨some 17, none, .mv (.t 2)⟩,
 ⟨some 18, none, .call 34 [(.t 16), (.t 17)]⟩,
 ⟨some 12, none, .mv (.t 18)⟩]) (
 .seq (
 .seq (
 .draw [⟨some 19, none, .ldn 3 (.t 5)⟩,
 ⟨some 20, none, .ldn 3 (.t 6)⟩,
 ⟨some 21, none, .call 35 [(.t 19), (.t 20)]⟩,
 ⟨some 22, none, .not (.t 21)⟩,
 ⟨some 23, none, .mv (.t 22)⟩,
 ⟨some 24, some (23, false), .mv (.t 12)⟩,
 ⟨some 25, some (23, false), .bin .lss (.t 24) (.c (.d (.int 0)))⟩,
 ⟨some 26, none, .pick (.t 23) (.c (.d (.bool true))) (.t 25)⟩,
 ⟨some 27, none, .mv (.t 26)⟩,
 ⟨some 28, some (27, false), .mv (.t 3)⟩,
 ⟨some 29, some (27, false), .len (.t 28)⟩,
 ⟨some 30, some (27, false), .bin .lss (.t 29) (.c (.d (.int 1)))⟩,
 ⟨some 31, none, .pick (.t 27) (.c (.d (.bool true))) (.t 30)⟩,
 ⟨some 32, none, .mv (.t 31)⟩,
 ⟨some 33, some (32, false), .mv (.t 3)⟩,
 ⟨some 34, some (32, false), .mv (.t 4)⟩,
 ⟨some 35, some (32, false), .call 36 [(.t 33), (.t 34)]⟩,
 ⟨some 36, some (32, false), .not (.t 35)⟩,
 ⟨some 37, none, .pick (.t 32) (.c (.d (.bool true))) (.t 36)⟩,
 ⟨some 38, none, .mv (.t 37)⟩,
 ⟨some 39, some (38, false), .mv (.t 4)⟩,
 ⟨some 40, some (38, false), .call 37 [(.t 39), (.c (.d (.int 4096)))]⟩,
 ⟨some 41, some (38, false), .fld 1 (.t 6)⟩,
 ⟨some 42, some (38, false), .ld (.t 41)⟩,
 ⟨some 43, some (38, false), .mv (.t 12)⟩,
 ⟨some 44, some (38, false), .idx 1 (.t 42) (.t 43)⟩,
 ⟨some 45, some (38, false), .ld (.t 44)⟩]
 [⟨some 46, some (38, false), .bin .neq (.t 40) (.t 45)⟩,
 ⟨some 47, none, .pick (.t 38) (.c (.d (.bool true))) (.t 46)⟩]) (
 .cond (.t 47) (
 .seq (
 .reg [⟨some 48, none, .agg [.nil, .nil, .nil] []⟩,
 ⟨none, none, .st 3 (.t 10) (.t 48)⟩,
 ⟨some 11, none, .mv (.c (.d (.bool false)))⟩]) (
 .ret)) (
 .skip))) (
 .seq (
 .reg [⟨some 49, none, .ldn 3 (.t 6)⟩,
 ⟨some 50, none, .mv (.t 2)⟩,
 ⟨some 51, none, .mksl 1 1 [.d (.int 0)] [(0, 1, (.t 50))]⟩,
 ⟨some 52, none, .call 38 [(.t 49), (.t 51)]⟩,
 ⟨some 13, none, .mv (.t 52)⟩]) (
 .seq (
 .drawK [(⟨some 53, none, .ldn 3 (.t 5)⟩, []),
 (⟨some 54, none, .ldn 3 (.t 6)⟩, []),
 (⟨some 55, none, .mv (.t 13)⟩, []),
 (⟨some 56, none, .call 40 [(.t 55)]⟩, []),
 (⟨some 57, none, .mv (.t 2)⟩, []),
 (⟨some 58, none, .mksl 1 1 [.d (.int 0)] [(0, 1, (.t 57))]⟩, []),
 (⟨some 59, none, .app 1 8 [.d (.int 0)] (.t 56) (.t 58)⟩, [5, 6]),
 (⟨some 60, none, .call 39 [(.t 53), (.t 54), (.t 59)]⟩, []),
 (⟨some 14, none, .zer [.nil, .nil, .nil]⟩, [])]
 [⟨none, none, .st 3 (.t 14) (.t 60)⟩]) (
 .seq (
 .reg [⟨some 61, none, .mv (.t 13)⟩,
 ⟨some 62, none, .mv (.t 3)⟩,
 ⟨some 63, none, .app 1 8 [.d (.int 0)] (.t 61) (.t 62)⟩,
 ⟨some 64, none, .fld 0 (.t 14)⟩,
 ⟨none, none, .st 1 (.t 64) (.t 63)⟩]) (
 .seq (
 .reg [⟨some 65, none, .fld 1 (.t 14)⟩,
 ⟨some 66, none, .ld (.t 65)⟩,
 ⟨some 67, none, .fld 1 (.t 14)⟩,
 ⟨some 68, none, .ld (.t 67)⟩,
 ⟨some 69, none, .len (.t 68)⟩,
 ⟨some 70, none, .bin .sub (.t 69) (.c (.d (.int 1)))⟩,
 ⟨some 71, none, .slc 1 (.t 66) none (some (.t 70))⟩,
 ⟨some 72, none, .call 40 [(.t 71)]⟩,
 ⟨some 73, none, .mv (.t 4)⟩,
 ⟨some 74, none, .app 1 8 [.d (.int 0)] (.t 72) (.t 73)⟩,
 ⟨some 75, none, .fld 1 (.t 14)⟩,
 ⟨none, none, .st 1 (.t 75) (.t 74)⟩]) (
 .seq (
 .seq (
 .reg [⟨some 76, none, .ldn 3 (.t 14)⟩,
 ⟨some 77, none, .call 41 [(.t 76)]⟩,
 ⟨some 78, none, .bin .lss (.t 77) (.c (.d (.int 0)))⟩]) (
 .cond (.t 78) (
 .seq (
 .reg [⟨some 79, none, .agg [.nil, .nil, .nil] []⟩,
 ⟨none, none, .st 3 (.t 10) (.t 79)⟩,
 ⟨some 11, none, .mv (.c (.d (.bool false)))⟩]) (
 .ret)) (
 .skip))) (
 .seq (
 .reg [⟨some 80, none, .ldn 3 (.t 14)⟩,
 ⟨none, none, .st 3 (.t 10) (.t 80)⟩,
 ⟨some 11, none, .mv (.c (.d (.bool true)))⟩]) (
 .ret))))))))),
 [.cell 10 3, .t 11]⟩

theorem k_spec_SplitLabel : cFunK Try.prog Try.f8 = some C_spec_SplitLabel.erase := by kernel_rfl

def C_impl_SplitLabel : Fun := ⟨5, 78,
 .seq (
 .reg [⟨some 5, none, .box (.t 0)⟩,
 ⟨some 6, none, .box (.t 1)⟩,
 ⟨some 10, none, .zer [.nil, .nil, .nil]⟩,
 ⟨some 11, none, .mv (.c (.d (.bool false)))⟩]) (
 .seq (
 .seq (
 .reg [⟨some 16, none, .ldn 3 (.t 5)⟩,
 ⟨some 17, none, .ldn 3 (.t 6)⟩,
 ⟨some 18, none, .call 42 [(.t 16), (.t 17)]⟩,
 ⟨some 19, none, .not (.t 18)⟩,
 ⟨some 20, none, .mv (.t 19)⟩,
 ⟨some 21, some (20, false), .ldn 3 (.t 6)⟩,
 ⟨some 22, some (20, false), .mv (.t 2)⟩,
 ⟨some 23, some (20, false), .call 43 [(.t 21), (.t 22)]⟩,
 ⟨some 24, some (20, false), .bin .lss (.t 23) (.c (.d (.int 0)))⟩,
 ⟨some 25, none, .pick (.t 20) (.c (.d (.bool true))) (.t 24)⟩,
 ⟨some 26, none, .mv (.t 25)⟩,
 ⟨some 27, some (26, false), .mv (.t 3)⟩,
 ⟨some 28, some (26, false), .len (.t 27)⟩,
 ⟨some 29, some (26, false), .bin .eql (.t 28) (.c (.d (.int 0)))⟩,
 ⟨some 30, none, .pick (.t 26) (.c (.d (.bool true))) (.t 29)⟩]) (
 .cond (.t 30) (
 .seq (
 .reg [⟨some 31, none, .agg [.nil, .nil, .nil] []⟩,
 ⟨none, none, .st 3 (.t 10) (.t 31)⟩,
 ⟨some 11, none, .mv (.c (.d (.bool false)))⟩]) (
 .ret)) (
 .skip))) (
 .seq (
 .seq (
 .draw [⟨some 32, none, .mv (.t 3)⟩,
 ⟨some 33, none, .mv (.t 4)⟩,
 ⟨some 34, none, .agg [.nil, .nil, .nil] [(0, 1, (.t 32)), (1, 1, (.t 33))]⟩,
 ⟨some 35, none, .call 44 [(.t 34)]⟩,
 ⟨some 36, none, .fld 1 (.t 6)⟩,
 ⟨some 37, none, .ld (.t 36)⟩,
 ⟨some 38, none, .ldn 3 (.t 6)⟩,
 ⟨some 39, none, .mv (.t 2)⟩,
 ⟨some 40, none, .call 43 [(.t 38), (.t 39)]⟩]
 [⟨some 41, none, .idx 1 (.t 37) (.t 40)⟩,
 ⟨some 42, none, .ld (.t 41)⟩,
 ⟨some 43, none, .bin .neq (.t 35) (.t 42)⟩]) (
 .cond (.t 43) (
 .seq (
 .reg [⟨some 44, none, .agg [.nil, .nil, .nil] []⟩,
 ⟨none, none, .st 3 (.t 10) (.t 44)⟩,
 ⟨some 11, none, .mv (.c (.d (.bool false)))⟩]) (
 .ret)) (
 .skip))) (
 .seq (
 .reg [⟨some 45, none, .fld 0 (.t 6)⟩,
 ⟨some 46, none, .ld (.t 45)⟩,
 ⟨some 47, none, .mv (.t 2)⟩,
 ⟨some 48, none, .call 45 [(.t 46), (.t 47)]⟩,
 ⟨some 12, none, .mv (.t 48)⟩]) (
 .seq (
 .drawK [(⟨some 49, none, .ldn 3 (.t 5)⟩, []),
 (⟨some 50, none, .ldn 3 (.t 6)⟩, []),
 (⟨some 51, none, .mv (.t 12)⟩, []),
 (⟨some 52, none, .call 47 [(.t 51)]⟩, []),
 (⟨some 53, none, .mv (.t 2)⟩, []),
 (⟨some 54, none, .mksl 1 1 [.d (.int 0)] [(0, 1, (.t 53))]⟩, []),
 (⟨some 55, none, .app 1 8 [.d (.int 0)] (.t 52) (.t 54)⟩, [5, 6]),
 (⟨some 56, none, .call 46 [(.t 49), (.t 50), (.t 55)]⟩, []),
 (⟨some 13, none, .zer [.nil, .nil, .nil]⟩, [])]
 [⟨none, none, .st 3 (.t 13) (.t 56)⟩]) (
 .seq (
 .reg [⟨some 57, none, .mv (.t 12)⟩,
 ⟨some 58, none, .len (.t 57)⟩,
 ⟨some 14, none, .mv (.t 58)⟩]) (
 .seq (
 .drawK [(⟨some 59, none, .mv (.t 12)⟩, []),
 (⟨some 60, none, .mv (.t 3)⟩, []),
 (⟨some 61, none, .app 1 8 [.d (.int 0)] (.t 59) (.t 60)⟩, []),
 (⟨some 62, none, .fld 1 (.t 13)⟩, []),
 (⟨some 63, none, .ld (.t 62)⟩, []),
 (⟨some 64, none, .mv (.t 14)⟩, []),
 (⟨some 65, none, .slc 1 (.t 63) none (some (.t 64))⟩, []),
 (⟨some 66, none, .call 47 [(.t 65)]⟩, []),
 (⟨some 67, none, .mv (.t 4)⟩, []),
 (⟨some 68, none, .app 1 8 [.d (.int 0)] (.t 66) (.t 67)⟩, []),
 (⟨some 69, none, .fld 2 (.t 13)⟩, []),
 (⟨some 70, none, .ld (.t 69)⟩, []),
 (⟨some 71, none, .agg [.nil, .nil, .nil] [(0, 1, (.t 61)), (1, 1, (.t 68)), (2, 1, (.t 70))]⟩, []),
 (⟨some 15, none, .zer [.nil, .nil, .nil]⟩, [])]
 [⟨none, none, .st 3 (.t 15) (.t 71)⟩]) (
 .seq (
 .seq (
 .reg [⟨some 72, none, .ldn 3 (.t 5)⟩,
 ⟨some 73, none, .ldn 3 (.t 15)⟩,
 ⟨some 74, none, .call 42 [(.t 72), (.t 73)]⟩,
 ⟨some 75, none, .not (.t 74)⟩]) (
 .cond (.t 75) (
 .seq (
 .reg [⟨some 76, none, .agg [.nil, .nil, .nil] []⟩,
 ⟨none, none, .st 3 (.t 10) (.t 76)⟩,
 ⟨some 11, none, .mv (.c (.d (.bool false)))⟩]) (
 .ret)) (
 .skip))) (
 .seq (
 .reg [⟨some 77, none, .ldn 3 (.t 15)⟩,
 ⟨none, none, .st 3 (.t 10) (.t 77)⟩,
 ⟨some 11, none, .mv (.c (.d (.bool true)))⟩]) (
 .ret))))))))),
 [.cell 10 3, .t 11]⟩

theorem k_impl_SplitLabel : cFunK Try.prog Try.f12 = some C_impl_SplitLabel.erase := by kernel_rfl

def L0_spec_FuseLabels : C :=
 .seq (
 .reg [⟨some 29, none, .bin .lss (.t 28) (.t 27)⟩]) (
 .seq (
 .cond (.t 29) (
 .skip) (
 .exit 0)) (
 .seq (
 .block 1 (
 .seq (
 .reg [⟨some 30, none, .mv (.t 28)⟩,
 ⟨some 31, none, .idx 1 (.t 26) (.t 28)⟩,
 ⟨some 32, none, .ld (.t 31)⟩,
 ⟨some 10, none, .mv (.t 30)⟩,
 ⟨some 11, none, .mv (.t 32)⟩]) (
 .seq (
 .reg [⟨some 33, none, .fld 0 (.t 5)⟩,
 ⟨some 34, none, .ld (.t 33)⟩,
 ⟨some 35, none, .mv (.t 11)⟩,
 ⟨some 36, none, .call 34 [(.t 34), (.t 35)]⟩,
 ⟨some 37, none, .bin .lss (.t 36) (.c (.d (.int 0)))⟩,
 ⟨some 38, none, .mv (.t 37)⟩,
 ⟨some 39, some (38, false), .mv (.t 2)⟩,
 ⟨some 40, some (38, false), .mv (.t 10)⟩,
 ⟨some 41, some (38, false), .slc 1 (.t 39) none (some (.t 40))⟩,
 ⟨some 42, some (38, false), .mv (.t 11)⟩,
 ⟨some 43, some (38, false), .call 34 [(.t 41), (.t 42)]⟩,
 ⟨some 44, some (38, false), .bin .geq (.t 43) (.c (.d (.int 0)))⟩,
 ⟨some 45, none, .pick (.t 38) (.c (.d (.bool true))) (.t 44)⟩]) (
 .cond (.t 45) (
 .seq (
 .reg [⟨some 46, none, .agg [.nil, .nil, .nil] []⟩,
 ⟨none, none, .st 3 (.t 8) (.t 46)⟩,
 ⟨some 9, none, .mv (.c (.d (.bool false)))⟩]) (
 .ret)) (
 .skip))))) (
 .reg [⟨some 47, none, .bin .add (.t 28) (.c (.d (.int 1)))⟩,
 ⟨some 28, none, .mv (.t 47)⟩])))

def C_spec_FuseLabels : Fun := ⟨4, 85,
 .seq (
 .reg [⟨some 4, none, .box (.t 0)⟩,
 ⟨some 5, none, .box (.t 1)⟩,
 ⟨some 8, none, .zer [.nil, .nil, .nil]⟩,
 ⟨some 9, none, .mv (.c (.d (.bool false)))⟩]) (
 .seq (
 .seq (
 .reg [⟨some 16, none, .ldn 3 (.t 4)⟩,
 ⟨some 17, none, .ldn 3 (.t 5)⟩,
 ⟨some 18, none, .call 35 [(.t 16), (.t 17)]⟩,
 ⟨some 19, none, .not (.t 18)⟩,
 ⟨some 20, none, .mv (.t 19)⟩,
 ⟨some 21, some (20, false), .mv (.t 2)⟩,
 ⟨some 22, some (20, false), .len (.t 21)⟩,
 ⟨some 23, some (20, false), .bin .lss (.t 22) (.c (.d (.int 1)))⟩,
 ⟨some 24, none, .pick (.t 20) (.c (.d (.bool true))) (.t 23)⟩]) (
 .cond (.t 24) (
 .seq (
 .reg [⟨some 25, none, .agg [.nil, .nil, .nil] []⟩,
 ⟨none, none, .st 3 (.t 8) (.t 25)⟩,
 ⟨some 9, none, .mv (.c (.d (.bool false)))⟩]) (
 .ret)) (
 .skip))) (
 .seq (
 .seq (
 .reg [⟨some 26, none, .mv (.t 2)⟩,
 ⟨some 27, none, .len (.t 26)⟩,
 ⟨some 28, none, .mv (.c (.d (.int 0)))⟩]) (
 .block 0 (
 .loop L0_spec_FuseLabels))) (
 .seq (
 .reg [⟨some 48, none, .ldn 3 (.t 5)⟩,
 ⟨some 49, none, .mv (.t 2)⟩,
 ⟨some 50, none, .call 38 [(.t 48), (.t 49)]⟩,
 ⟨some 12, none, .mv (.t 50)⟩]) (
 .seq (
 .drawK [(⟨some 51, none, .ldn 3 (.t 4)⟩, []),
 (⟨some 52, none, .ldn 3 (.t 5)⟩, []),
 (⟨some 53, none, .mv (.t 12)⟩, []),
 (⟨some 54, none, .call 40 [(.t 53)]⟩, []),
 (⟨some 55, none, .mv (.t 2)⟩, []),
 (⟨some 56, none, .app 1 8 [.d (.int 0)] (.t 54) (.t 55)⟩, [4, 5]),
 (⟨some 57, none, .call 39 [(.t 51), (.t 52), (.t 56)]⟩, []),
 (⟨some 13, none, .zer [.nil, .nil, .nil]⟩, [])]
 [⟨none, none, .st 3 (.t 13) (.t 57)⟩]) (
 .seq (
 .reg [⟨some 58, none, .mv (.t 12)⟩,
 ⟨some 59, none, .len (.t 58)⟩,
 ⟨some 14, none, .mv (.t 59)⟩]) (
 .seq (
 .reg [⟨some 60, none, .fld 1 (.t 13)⟩,
 ⟨some 61, none, .ld (.t 60)⟩,
 ⟨some 62, none, .mv (.t 14)⟩,
 ⟨some 63, none, .slc 1 (.t 61) (some (.t 62)) none⟩,
 ⟨some 64, none, .call 37 [(.t 63), (.c (.d (.int 4096)))]⟩,
 ⟨some 15, none, .mv (.t 64)⟩]) (
 .seq (
 .reg [⟨some 65, none, .mv (.t 12)⟩,
 ⟨some 66, none, .call 40 [(.t 65)]⟩,
 ⟨some 67, none, .mv (.t 3)⟩,
 ⟨some 68, none, .mksl 1 1 [.d (.int 0)] [(0, 1, (.t 67))]⟩,
 ⟨some 69, none, .app 1 8 [.d (.int 0)] (.t 66) (.t 68)⟩,
 ⟨some 70, none, .fld 0 (.t 13)⟩,
 ⟨none, none, .st 1 (.t 70) (.t 69)⟩]) (
 .seq (
 .reg [⟨some 71, none, .fld 1 (.t 13)⟩,
 ⟨some 72, none, .ld (.t 71)⟩,
 ⟨some 73, none, .mv (.t 14)⟩,
 ⟨some 74, none, .slc 1 (.t 72) none (some (.t 73))⟩,
 ⟨some 75, none, .call 40 [(.t 74)]⟩,
 ⟨some 76, none, .mv (.t 15)⟩,
 ⟨some 77, none, .mksl 1 1 [.d (.int 0)] [(0, 1, (.t 76))]⟩,
 ⟨some 78, none, .app 1 8 [.d (.int 0)] (.t 75) (.t 77)⟩,
 ⟨some 79, none, .fld 1 (.t 13)⟩,
 ⟨none, none, .st 1 (.t 79) (.t 78)⟩]) (
 .seq (
 .seq (
 .reg [⟨some 80, none, .ldn 3 (.t 13)⟩,
 ⟨some 81, none, .call 41 [(.t 80)]⟩,
 ⟨some 82, none, .bin .lss (.t 81) (.c (.d (.int 0)))⟩]) (
 .cond (.t 82) (
 .seq (
 .reg [⟨some 83, none, .agg [.nil, .nil, .nil] []⟩,
 ⟨none, none, .st 3 (.t 8) (.t 83)⟩,
 ⟨some 9, none, .mv (.c (.d (.bool false)))⟩]) (
 .ret)) (
 .skip))) (
 .seq (
 .reg [⟨some 84, none, .ldn 3 (.t 13)⟩,
 ⟨none, none, .st 3 (.t 8) (.t 84)⟩,
 ⟨some 9, none, .mv (.c (.d (.bool true)))⟩]) (
 .ret))))))))))),
 [.cell 8 3, .t 9]⟩

theorem k_spec_FuseLabels : cFunK Try.prog Try.f18 = some C_spec_FuseLabels.erase := by kernel_rfl

def L0_impl_FuseLabels : C :=
 .seq (
 .reg [⟨some 60, none, .bin .lss (.t 59) (.t 58)⟩]) (
 .seq (
 .cond (.t 60) (
 .skip) (
 .exit 2)) (
 .seq (
 .block 3 (
 .seq (
 .reg [⟨some 61, none, .idx 1 (.t 57) (.t 59)⟩,
 ⟨some 62, none, .ld (.t 61)⟩,
 ⟨some 14, none, .mv (.t 62)⟩]) (
 .seq (
 .reg [⟨some 63, none, .mv (.t 2)⟩,
 ⟨some 64, none, .mv (.t 14)⟩,
 ⟨some 65, none, .call 49 [(.t 63), (.t 64)]⟩,
 ⟨some 66, none, .not (.t 65)⟩]) (
 .cond (.t 66) (
 .reg [⟨some 67, none, .mv (.t 12)⟩,
 ⟨some 68, none, .mv (.t 14)⟩,
 ⟨some 69, none, .mksl 1 1 [.d (.int 0)] [(0, 1, (.t 68))]⟩,
 ⟨some 70, none, .app 1 8 [.d (.int 0)] (.t 67) (.t 69)⟩,
 ⟨some 12, none, .mv (.t 70)⟩]) (
 .skip))))) (
 .reg [⟨some 71, none, .bin .add (.t 59) (.c (.d (.int 1)))⟩,
 ⟨some 59, none, .mv (.t 71)⟩])))

def L1_impl_FuseLabels : C :=
 .seq (
 .reg [⟨some 39, none, .bin .lss (.t 38) (.t 37)⟩]) (
 .seq (
 .cond (.t 39) (
 .skip) (
 .exit 0)) (
 .seq (
 .block 1 (
 .seq (
 .reg [⟨some 40, none, .mv (.t 38)⟩,
 ⟨some 41, none, .idx 1 (.t 36) (.t 38)⟩,
 ⟨some 42, none, .ld (.t 41)⟩,
 ⟨some 10, none, .mv (.t 40)⟩,
 ⟨some 11, none, .mv (.t 42)⟩]) (
 .seq (
 .reg [⟨some 43, none, .ldn 3 (.t 5)⟩,
 ⟨some 44, none, .mv (.t 11)⟩,
 ⟨some 45, none, .call 43 [(.t 43), (.t 44)]⟩,
 ⟨some 46, none, .bin .lss (.t 45) (.c (.d (.int 0)))⟩,
 ⟨some 47, none, .mv (.t 46)⟩,
 ⟨some 48, some (47, false), .mv (.t 2)⟩,
 ⟨some 49, some (47, false), .mv (.t 10)⟩,
 ⟨some 50, some (47, false), .slc 1 (.t 48) none (some (.t 49))⟩,
 ⟨some 51, some (47, false), .mv (.t 11)⟩,
 ⟨some 52, some (47, false), .call 49 [(.t 50), (.t 51)]⟩,
 ⟨some 53, none, .pick (.t 47) (.c (.d (.bool true))) (.t 52)⟩]) (
 .cond (.t 53) (
 .seq (
 .reg [⟨some 54, none, .agg [.nil, .nil, .nil] []⟩,
 ⟨none, none, .st 3 (.t 8) (.t 54)⟩,
 ⟨some 9, none, .mv (.c (.d (.bool false)))⟩]) (
 .ret)) (
 .skip))))) (
 .reg [⟨some 55, none, .bin .add (.t 38) (.c (.d (.int 1)))⟩,
 ⟨some 38, none, .mv (.t 55)⟩])))

def C_impl_FuseLabels : Fun := ⟨4, 106,
 .seq (
 .reg [⟨some 4, none, .box (.t 0)⟩,
 ⟨some 5, none, .box (.t 1)⟩,
 ⟨some 8, none, .zer [.nil, .nil, .nil]⟩,
 ⟨some 9, none, .mv (.c (.d (.bool false)))⟩]) (
 .seq (
 .seq (
 .reg [⟨some 18, none, .ldn 3 (.t 4)⟩,
 ⟨some 19, none, .ldn 3 (.t 5)⟩,
 ⟨some 20, none, .call 42 [(.t 18), (.t 19)]⟩,
 ⟨some 21, none, .not (.t 20)⟩,
 ⟨some 22, none, .mv (.t 21)⟩,
 ⟨some 23, some (22, false), .mv (.t 2)⟩,
 ⟨some 24, some (22, false), .len (.t 23)⟩,
 ⟨some 25, some (22, false), .bin .eql (.t 24) (.c (.d (.int 0)))⟩,
 ⟨some 26, none, .pick (.t 22) (.c (.d (.bool true))) (.t 25)⟩,
 ⟨some 27, none, .mv (.t 26)⟩,
 ⟨some 28, some (27, false), .mv (.t 2)⟩,
 ⟨some 29, some (27, false), .len (.t 28)⟩,
 ⟨some 30, some (27, false), .fld 0 (.t 5)⟩,
 ⟨some 31, some (27, false), .ld (.t 30)⟩,
 ⟨some 32, some (27, false), .len (.t 31)⟩,
 ⟨some 33, some (27, false), .bin .gtr (.t 29) (.t 32)⟩,
 ⟨some 34, none, .pick (.t 27) (.c (.d (.bool true))) (.t 33)⟩]) (
 .cond (.t 34) (
 .seq (
 .reg [⟨some 35, none, .agg [.nil, .nil, .nil] []⟩,
 ⟨none, none, .st 3 (.t 8) (.t 35)⟩,
 ⟨some 9, none, .mv (.c (.d (.bool false)))⟩]) (
 .ret)) (
 .skip))) (
 .seq (
 .seq (
 .reg [⟨some 36, none, .mv (.t 2)⟩,
 ⟨some 37, none, .len (.t 36)⟩,
 ⟨some 38, none, .mv (.c (.d (.int 0)))⟩]) (
 .block 0 (
 .loop L1_impl_FuseLabels))) (
 .seq (
 .reg [⟨some 12, none, .mv (.c (.nil))⟩]) (
 .seq (
 .seq (
 .reg [⟨some 56, none, .fld 0 (.t 5)⟩,
 ⟨some 57, none, .ld (.t 56)⟩,
 ⟨some 58, none, .len (.t 57)⟩,
 ⟨some 59, none, .mv (.c (.d (.int 0)))⟩]) (
 .block 2 (
 .loop L0_impl_FuseLabels))) (
 .seq (
 .drawK [(⟨some 72, none, .ldn 3 (.t 4)⟩, []),
 (⟨some 73, none, .ldn 3 (.t 5)⟩, []),
 (⟨some 74, none, .mv (.t 12)⟩, []),
 (⟨some 75, none, .call 47 [(.t 74)]⟩, []),
 (⟨some 76, none, .mv (.t 2)⟩, []),
 (⟨some 77, none, .app 1 8 [.d (.int 0)] (.t 75) (.t 76)⟩, [4, 5]),
 (⟨some 78, none, .call 46 [(.t 72), (.t 73), (.t 77)]⟩, []),
 (⟨some 15, none, .zer [.nil, .nil, .nil]⟩, [])]
 [⟨none, none, .st 3 (.t 15) (.t 78)⟩]) (
 .seq (
 .reg [⟨some 79, none, .mv (.t 12)⟩,
 ⟨some 80, none, .len (.t 79)⟩,
 ⟨some 16, none, .mv (.t 80)⟩]) (
 .seq (
 .drawK [(⟨some 81, none, .mv (.t 12)⟩, []),
 (⟨some 82, none, .mv (.t 3)⟩, []),
 (⟨some 83, none, .mksl 1 1 [.d (.int 0)] [(0, 1, (.t 82))]⟩, []),
 (⟨some 84, none, .app 1 8 [.d (.int 0)] (.t 81) (.t 83)⟩, []),
 (⟨some 85, none, .fld 1 (.t 15)⟩, []),
 (⟨some 86, none, .ld (.t 85)⟩, []),
 (⟨some 87, none, .mv (.t 16)⟩, []),
 (⟨some 88, none, .slc 1 (.t 86) none (some (.t 87))⟩, []),
 (⟨some 89, none, .call 47 [(.t 88)]⟩, []),
 (⟨some 90, none, .fld 1 (.t 15)⟩, []),
 (⟨some 91, none, .ld (.t 90)⟩, []),
 (⟨some 92, none, .mv (.t 16)⟩, []),
 (⟨some 93, none, .slc 1 (.t 91) (some (.t 92)) none⟩, []),
 (⟨some 94, none, .call 50 [(.t 93)]⟩, []),
 (⟨some 95, none, .mksl 1 1 [.d (.int 0)] [(0, 1, (.t 94))]⟩, []),
 (⟨some 96, none, .app 1 8 [.d (.int 0)] (.t 89) (.t 95)⟩, []),
 (⟨some 97, none, .fld 2 (.t 15)⟩, []),
 (⟨some 98, none, .ld (.t 97)⟩, []),
 (⟨some 99, none, .agg [.nil, .nil, .nil] [(0, 1, (.t 84)), (1, 1, (.t 96)), (2, 1, (.t 98))]⟩, []),
 (⟨some 17, none, .zer [.nil, .nil, .nil]⟩, [])]
 [⟨none, none, .st 3 (.t 17) (.t 99)⟩]) (
 .seq (
 .seq (
 .reg [⟨some 100, none, .ldn 3 (.t 4)⟩,
 ⟨some 101, none, .ldn 3 (.t 17)⟩,
 ⟨some 102, none, .call 42 [(.t 100), (.t 101)]⟩,
 ⟨some 103, none, .not (.t 102)⟩]) (
 .cond (.t 103) (
 .seq (
 .reg [⟨some 104, none, .agg [.nil, .nil, .nil] []⟩,
 ⟨none, none, .st 3 (.t 8) (.t 104)⟩,
 ⟨some 9, none, .mv (.c (.d (.bool false)))⟩]) (
 .ret)) (
 .skip))) (
 .seq (
 .reg [⟨some 105, none, .ldn 3 (.t 17)⟩,
 ⟨none, none, .st 3 (.t 8) (.t 105)⟩,
 ⟨some 9, none, .mv (.c (.d (.bool true)))⟩]) (
 .ret)))))))))),
 [.cell 8 3, .t 9]⟩

theorem k_impl_FuseLabels : cFunK Try.prog Try.f19 = some C_impl_FuseLabels.erase := by kernel_rfl

end Go.Proofs.Ytlijfhfhonalgaa

/-
  The compiled code of functions of the seat (written by mkcode.py). No condition.
-/
namespace Go.Proofs.Ytlijfhfhonalgaa
open Go.Lift

def L0_spec_l10Rest : C :=
 .seq (
 .reg [⟨some 13, none, .bin .lss (.t 12) (.t 11)⟩]) (
 .seq (
 .cond (.t 13) (
 .skip) (
 .exit 0)) (
 .seq (
 .block 1 (
 .seq (
 .reg [⟨some 14, none, .idx 1 (.t 10) (.t 12)⟩,
 ⟨some 15, none, .ld (.t 14)⟩,
 ⟨some 7, none, .mv (.t 15)⟩]) (
 .seq (
 .reg [⟨some 16, none, .mv (.t 1)⟩,
 ⟨some 17, none, .mv (.t 7)⟩,
 ⟨some 18, none, .call 34 [(.t 16), (.t 17)]⟩,
 ⟨some 19, none, .bin .lss (.t 18) (.c (.d (.int 0)))⟩]) (
 .cond (.t 19) (
 .reg [⟨some 20, none, .mv (.t 5)⟩,
 ⟨some 21, none, .mv (.t 7)⟩,
 ⟨some 22, none, .mksl 1 1 [.d (.int 0)] [(0, 1, (.t 21))]⟩,
 ⟨some 23, none, .app 1 8 [.d (.int 0)] (.t 20) (.t 22)⟩,
 ⟨some 5, none, .mv (.t 23)⟩]) (
 .skip))))) (
 .reg [⟨some 24, none, .bin .add (.t 12) (.c (.d (.int 1)))⟩,
 ⟨some 12, none, .mv (.t 24)⟩])))

def C_spec_l10Rest : Fun := ⟨2, 26,
 .seq (
 .reg [⟨some 2, none, .box (.t 0)⟩,
 ⟨some 4, none, .mv (.c (.nil))⟩]) (
 .seq (
 .reg [⟨some 8, none, .mksl 1 0 [.d (.int 0)] []⟩,
 ⟨some 5, none, .mv (.t 8)⟩]) (
 .seq (
 .seq (
 .reg [⟨some 9, none, .fld 0 (.t 2)⟩,
 ⟨some 10, none, .ld (.t 9)⟩,
 ⟨some 11, none, .len (.t 10)⟩,
 ⟨some 12, none, .mv (.c (.d (.int 0)))⟩]) (
 .block 0 (
 .loop L0_spec_l10Rest))) (
 .seq (
 .reg [⟨some 25, none, .mv (.t 5)⟩,
 ⟨some 4, none, .mv (.t 25)⟩]) (
 .ret)))),
 [.t 4]⟩

theorem k_spec_l10Rest : cFun Try.prog Try.f38 = some C_spec_l10Rest.erase := by kernel_rfl

end Go.Proofs.Ytlijfhfhonalgaa

/-
  The compiled code of functions of the seat (written by mkcode.py). No condition.
-/
namespace Go.Proofs.Ytlijfhfhonalgaa
open Go.Lift

def L0_laws_toIntS : C :=
      .seq (
      .seq (
      .reg [⟨some 8, none, .mv (.t 4)⟩,
            ⟨some 9, none, .mv (.t 0)⟩,
            ⟨some 10, none, .len (.t 9)⟩,
            ⟨some 11, none, .bin .lss (.t 8) (.t 10)⟩]) (
      .cond (.t 11) (
        .skip) (
        .exit 0))) (
      .seq (
      .block 1 (
        .reg [⟨some 14, none, .mv (.t 3)⟩,
              ⟨some 15, none, .mv (.t 4)⟩,
              ⟨some 16, none, .mv (.t 0)⟩,
              ⟨some 17, none, .mv (.t 4)⟩,
              ⟨some 18, none, .idx 1 (.t 16) (.t 17)⟩,
              ⟨some 19, none, .ld (.t 18)⟩,
              ⟨some 20, none, .idx 1 (.t 14) (.t 15)⟩,
              ⟨none, none, .st 1 (.t 20) (.t 19)⟩])) (
      .reg [⟨some 12, none, .mv (.t 4)⟩,
            ⟨some 13, none, .bin .add (.t 12) (.c (.d (.int 1)))⟩,
            ⟨some 4, none, .mv (.t 13)⟩]))

def C_laws_toIntS : Fun := ⟨1, 22,
  .seq (
  .reg [⟨some 2, none, .mv (.c (.nil))⟩]) (
  .seq (
  .reg [⟨some 5, none, .mv (.t 0)⟩,
        ⟨some 6, none, .len (.t 5)⟩,
        ⟨some 7, none, .make 1 8 [.d (.int 0)] (.t 6) (.t 6)⟩,
        ⟨some 3, none, .mv (.t 7)⟩]) (
  .seq (
  .seq (
  .reg [⟨some 4, none, .mv (.c (.d (.int 0)))⟩]) (
  .block 0 (
    .loop L0_laws_toIntS))) (
  .seq (
  .reg [⟨some 21, none, .mv (.t 3)⟩,
        ⟨some 2, none, .mv (.t 21)⟩]) (
  .ret)))),
  [.t 2]⟩

theorem k_laws_toIntS : cFun Try.prog Try.f11 = some C_laws_toIntS.erase := by kernel_rfl

def C_laws_toRing : Fun := ⟨1, 14,
  .seq (
  .reg [⟨some 1, none, .box (.t 0)⟩,
        ⟨some 2, none, .zer [.d (.int 0), .d (.int 0), .d (.int 0)]⟩]) (
  .seq (
  .reg [⟨some 3, none, .zer [.d (.int 0), .d (.int 0), .d (.int 0)]⟩]) (
  .seq (
  .reg [⟨some 4, none, .fld 0 (.t 1)⟩,
        ⟨some 5, none, .ld (.t 4)⟩,
        ⟨some 6, none, .fld 0 (.t 3)⟩,
        ⟨none, none, .st 1 (.t 6) (.t 5)⟩]) (
  .seq (
  .reg [⟨some 7, none, .fld 1 (.t 1)⟩,
        ⟨some 8, none, .ld (.t 7)⟩,
        ⟨some 9, none, .fld 1 (.t 3)⟩,
        ⟨none, none, .st 1 (.t 9) (.t 8)⟩]) (
  .seq (
  .reg [⟨some 10, none, .fld 2 (.t 1)⟩,
        ⟨some 11, none, .ld (.t 10)⟩,
        ⟨some 12, none, .fld 2 (.t 3)⟩,
        ⟨none, none, .st 1 (.t 12) (.t 11)⟩]) (
  .seq (
  .reg [⟨some 13, none, .ldn 3 (.t 3)⟩,
        ⟨none, none, .st 3 (.t 2) (.t 13)⟩]) (
  .ret)))))),
  [.cell 2 3]⟩

theorem k_laws_toRing : cFun Try.prog Try.f9 = some C_laws_toRing.erase := by kernel_rfl

def C_laws_toTensor : Fun := ⟨1, 17,
  .seq (
  .reg [⟨some 1, none, .box (.t 0)⟩,
        ⟨some 2, none, .zer [.nil, .nil, .nil]⟩]) (
  .seq (
  .reg [⟨some 3, none, .zer [.nil, .nil, .nil]⟩]) (
  .seq (
  .reg [⟨some 4, none, .fld 0 (.t 1)⟩,
        ⟨some 5, none, .ld (.t 4)⟩,
        ⟨some 6, none, .call 11 [(.t 5)]⟩,
        ⟨some 7, none, .fld 0 (.t 3)⟩,
        ⟨none, none, .st 1 (.t 7) (.t 6)⟩]) (
  .seq (
  .reg [⟨some 8, none, .fld 1 (.t 1)⟩,
        ⟨some 9, none, .ld (.t 8)⟩,
        ⟨some 10, none, .call 11 [(.t 9)]⟩,
        ⟨some 11, none, .fld 1 (.t 3)⟩,
        ⟨none, none, .st 1 (.t 11) (.t 10)⟩]) (
  .seq (
  .reg [⟨some 12, none, .fld 2 (.t 1)⟩,
        ⟨some 13, none, .ld (.t 12)⟩,
        ⟨some 14, none, .call 11 [(.t 13)]⟩,
        ⟨some 15, none, .fld 2 (.t 3)⟩,
        ⟨none, none, .st 1 (.t 15) (.t 14)⟩]) (
  .seq (
  .reg [⟨some 16, none, .ldn 3 (.t 3)⟩,
        ⟨none, none, .st 3 (.t 2) (.t 16)⟩]) (
  .ret)))))),
  [.cell 2 3]⟩

theorem k_laws_toTensor : cFun Try.prog Try.f10 = some C_laws_toTensor.erase := by kernel_rfl

def C_laws_szIntS : Fun := ⟨2, 12,
  .seq (
  .reg [⟨some 4, none, .mv (.c (.d (.int 0)))⟩]) (
  .seq (
  .reg [⟨some 5, none, .mv (.t 1)⟩,
        ⟨some 6, none, .mv (.t 0)⟩,
        ⟨some 7, none, .len (.t 6)⟩,
        ⟨some 8, none, .bin .sub (.t 5) (.t 7)⟩,
        ⟨some 1, none, .mv (.t 8)⟩]) (
  .seq (
  .seq (
  .reg [⟨some 9, none, .mv (.t 1)⟩,
        ⟨some 10, none, .bin .lss (.t 9) (.c (.d (.int 0)))⟩]) (
  .cond (.t 10) (
    .seq (
    .reg [⟨some 4, none, .mv (.c (.d (.int (-1))))⟩]) (
    .ret)) (
    .skip))) (
  .seq (
  .reg [⟨some 11, none, .mv (.t 1)⟩,
        ⟨some 4, none, .mv (.t 11)⟩]) (
  .ret)))),
  [.t 4]⟩

theorem k_laws_szIntS : cFun Try.prog Try.f33 = some C_laws_szIntS.erase := by kernel_rfl

def C_laws_szTensor : Fun := ⟨2, 24,
  .seq (
  .reg [⟨some 2, none, .box (.t 0)⟩,
        ⟨some 4, none, .mv (.c (.d (.int 0)))⟩]) (
  .seq (
  .reg [⟨some 5, none, .fld 0 (.t 2)⟩,
        ⟨some 6, none, .ld (.t 5)⟩,
        ⟨some 7, none, .mv (.t 1)⟩,
        ⟨some 8, none, .call 33 [(.t 6), (.t 7)]⟩,
        ⟨some 1, none, .mv (.t 8)⟩]) (
  .seq (
  .seq (
  .reg [⟨some 9, none, .mv (.t 1)⟩,
        ⟨some 10, none, .bin .lss (.t 9) (.c (.d (.int 0)))⟩]) (
  .cond (.t 10) (
    .seq (
    .reg [⟨some 4, none, .mv (.c (.d (.int (-1))))⟩]) (
    .ret)) (
    .skip))) (
  .seq (
  .reg [⟨some 11, none, .fld 1 (.t 2)⟩,
        ⟨some 12, none, .ld (.t 11)⟩,
        ⟨some 13, none, .mv (.t 1)⟩,
        ⟨some 14, none, .call 33 [(.t 12), (.t 13)]⟩,
        ⟨some 1, none, .mv (.t 14)⟩]) (
  .seq (
  .seq (
  .reg [⟨some 15, none, .mv (.t 1)⟩,
        ⟨some 16, none, .bin .lss (.t 15) (.c (.d (.int 0)))⟩]) (
  .cond (.t 16) (
    .seq (
    .reg [⟨some 4, none, .mv (.c (.d (.int (-1))))⟩]) (
    .ret)) (
    .skip))) (
  .seq (
  .reg [⟨some 17, none, .fld 2 (.t 2)⟩,
        ⟨some 18, none, .ld (.t 17)⟩,
        ⟨some 19, none, .mv (.t 1)⟩,
        ⟨some 20, none, .call 33 [(.t 18), (.t 19)]⟩,
        ⟨some 1, none, .mv (.t 20)⟩]) (
  .seq (
  .seq (
  .reg [⟨some 21, none, .mv (.t 1)⟩,
        ⟨some 22, none, .bin .lss (.t 21) (.c (.d (.int 0)))⟩]) (
  .cond (.t 22) (
    .seq (
    .reg [⟨some 4, none, .mv (.c (.d (.int (-1))))⟩]) (
    .ret)) (
    .skip))) (
  .seq (
  .reg [⟨some 23, none, .mv (.t 1)⟩,
        ⟨some 4, none, .mv (.t 23)⟩]) (
  .ret)))))))),
  [.t 4]⟩

theorem k_laws_szTensor : cFun Try.prog Try.f7 = some C_laws_szTensor.erase := by kernel_rfl

def L0_laws_eqIntS : C :=
      .seq (
      .seq (
      .reg [⟨some 11, none, .mv (.t 5)⟩,
            ⟨some 12, none, .mv (.t 0)⟩,
            ⟨some 13, none, .len (.t 12)⟩,
            ⟨some 14, none, .bin .lss (.t 11) (.t 13)⟩]) (
      .cond (.t 14) (
        .skip) (
        .exit 0))) (
      .seq (
      .block 1 (
        .seq (
        .draw [⟨some 17, none, .mv (.t 0)⟩,
               ⟨some 18, none, .mv (.t 5)⟩,
               ⟨some 19, none, .idx 1 (.t 17) (.t 18)⟩,
               ⟨some 20, none, .ld (.t 19)⟩,
               ⟨some 21, none, .mv (.t 1)⟩,
               ⟨some 22, none, .mv (.t 5)⟩,
               ⟨some 23, none, .idx 1 (.t 21) (.t 22)⟩,
               ⟨some 24, none, .ld (.t 23)⟩]
          [⟨some 25, none, .bin .neq (.t 20) (.t 24)⟩]) (
        .cond (.t 25) (
          .seq (
          .reg [⟨some 4, none, .mv (.c (.d (.bool false)))⟩]) (
          .ret)) (
          .skip)))) (
      .reg [⟨some 15, none, .mv (.t 5)⟩,
            ⟨some 16, none, .bin .add (.t 15) (.c (.d (.int 1)))⟩,
            ⟨some 5, none, .mv (.t 16)⟩]))

def C_laws_eqIntS : Fun := ⟨2, 26,
  .seq (
  .reg [⟨some 4, none, .mv (.c (.d (.bool false)))⟩]) (
  .seq (
  .seq (
  .reg [⟨some 6, none, .mv (.t 0)⟩,
        ⟨some 7, none, .len (.t 6)⟩,
        ⟨some 8, none, .mv (.t 1)⟩,
        ⟨some 9, none, .len (.t 8)⟩,
        ⟨some 10, none, .bin .neq (.t 7) (.t 9)⟩]) (
  .cond (.t 10) (
    .seq (
    .reg [⟨some 4, none, .mv (.c (.d (.bool false)))⟩]) (
    .ret)) (
    .skip))) (
  .seq (
  .seq (
  .reg [⟨some 5, none, .mv (.c (.d (.int 0)))⟩]) (
  .block 0 (
    .loop L0_laws_eqIntS))) (
  .seq (
  .reg [⟨some 4, none, .mv (.c (.d (.bool true)))⟩]) (
  .ret)))),
  [.t 4]⟩

theorem k_laws_eqIntS : cFun Try.prog Try.f14 = some C_laws_eqIntS.erase := by kernel_rfl

def C_laws_eqTensor : Fun := ⟨2, 23,
  .seq (
  .reg [⟨some 2, none, .box (.t 0)⟩,
        ⟨some 3, none, .box (.t 1)⟩,
        ⟨some 4, none, .mv (.c (.d (.bool false)))⟩]) (
  .seq (
  .seq (
  .reg [⟨some 5, none, .fld 0 (.t 2)⟩,
        ⟨some 6, none, .ld (.t 5)⟩,
        ⟨some 7, none, .fld 0 (.t 3)⟩,
        ⟨some 8, none, .ld (.t 7)⟩,
        ⟨some 9, none, .call 14 [(.t 6), (.t 8)]⟩,
        ⟨some 10, none, .not (.t 9)⟩]) (
  .cond (.t 10) (
    .seq (
    .reg [⟨some 4, none, .mv (.c (.d (.bool false)))⟩]) (
    .ret)) (
    .skip))) (
  .seq (
  .seq (
  .reg [⟨some 11, none, .fld 1 (.t 2)⟩,
        ⟨some 12, none, .ld (.t 11)⟩,
        ⟨some 13, none, .fld 1 (.t 3)⟩,
        ⟨some 14, none, .ld (.t 13)⟩,
        ⟨some 15, none, .call 14 [(.t 12), (.t 14)]⟩,
        ⟨some 16, none, .not (.t 15)⟩]) (
  .cond (.t 16) (
    .seq (
    .reg [⟨some 4, none, .mv (.c (.d (.bool false)))⟩]) (
    .ret)) (
    .skip))) (
  .seq (
  .seq (
  .reg [⟨some 17, none, .fld 2 (.t 2)⟩,
        ⟨some 18, none, .ld (.t 17)⟩,
        ⟨some 19, none, .fld 2 (.t 3)⟩,
        ⟨some 20, none, .ld (.t 19)⟩,
        ⟨some 21, none, .call 14 [(.t 18), (.t 20)]⟩,
        ⟨some 22, none, .not (.t 21)⟩]) (
  .cond (.t 22) (
    .seq (
    .reg [⟨some 4, none, .mv (.c (.d (.bool false)))⟩]) (
    .ret)) (
    .skip))) (
  .seq (
  .reg [⟨some 4, none, .mv (.c (.d (.bool true)))⟩]) (
  .ret))))),
  [.t 4]⟩

theorem k_laws_eqTensor : cFun Try.prog Try.f13 = some C_laws_eqTensor.erase := by kernel_rfl

def L0_laws_markIntS : C :=
      .seq (
      .seq (
      .reg [⟨some 6, none, .mv (.t 5)⟩,
            ⟨some 7, none, .mv (.t 0)⟩,
            ⟨some 8, none, .len (.t 7)⟩,
            ⟨some 9, none, .bin .lss (.t 6) (.t 8)⟩]) (
      .cond (.t 9) (
        .skip) (
        .exit 0))) (
      .seq (
      .block 1 (
        .seq (
        .reg [⟨some 12, none, .mv (.t 0)⟩,
              ⟨some 13, none, .mv (.t 5)⟩,
              ⟨some 14, none, .mv (.t 1)⟩,
              ⟨some 15, none, .idx 1 (.t 12) (.t 13)⟩,
              ⟨none, none, .st 1 (.t 15) (.t 14)⟩]) (
        .reg [⟨some 16, none, .mv (.t 1)⟩,
              ⟨some 17, none, .bin .add (.t 16) (.c (.d (.int 1)))⟩,
              ⟨some 1, none, .mv (.t 17)⟩]))) (
      .reg [⟨some 10, none, .mv (.t 5)⟩,
            ⟨some 11, none, .bin .add (.t 10) (.c (.d (.int 1)))⟩,
            ⟨some 5, none, .mv (.t 11)⟩]))

def C_laws_markIntS : Fun := ⟨2, 19,
  .seq (
  .reg [⟨some 4, none, .mv (.c (.d (.int 0)))⟩]) (
  .seq (
  .seq (
  .reg [⟨some 5, none, .mv (.c (.d (.int 0)))⟩]) (
  .block 0 (
    .loop L0_laws_markIntS))) (
  .seq (
  .reg [⟨some 18, none, .mv (.t 1)⟩,
        ⟨some 4, none, .mv (.t 18)⟩]) (
  .ret))),
  [.t 4]⟩

theorem k_laws_markIntS : cFun Try.prog Try.f16 = some C_laws_markIntS.erase := by kernel_rfl

def C_laws_markTensor : Fun := ⟨2, 18,
  .seq (
  .reg [⟨some 2, none, .box (.t 0)⟩,
        ⟨some 4, none, .mv (.c (.d (.int 0)))⟩]) (
  .seq (
  .reg [⟨some 5, none, .fld 0 (.t 2)⟩,
        ⟨some 6, none, .ld (.t 5)⟩,
        ⟨some 7, none, .mv (.t 1)⟩,
        ⟨some 8, none, .call 16 [(.t 6), (.t 7)]⟩,
        ⟨some 1, none, .mv (.t 8)⟩]) (
  .seq (
  .reg [⟨some 9, none, .fld 1 (.t 2)⟩,
        ⟨some 10, none, .ld (.t 9)⟩,
        ⟨some 11, none, .mv (.t 1)⟩,
        ⟨some 12, none, .call 16 [(.t 10), (.t 11)]⟩,
        ⟨some 1, none, .mv (.t 12)⟩]) (
  .seq (
  .reg [⟨some 13, none, .fld 2 (.t 2)⟩,
        ⟨some 14, none, .ld (.t 13)⟩,
        ⟨some 15, none, .mv (.t 1)⟩,
        ⟨some 16, none, .call 16 [(.t 14), (.t 15)]⟩,
        ⟨some 1, none, .mv (.t 16)⟩]) (
  .seq (
  .reg [⟨some 17, none, .mv (.t 1)⟩,
        ⟨some 4, none, .mv (.t 17)⟩]) (
  .ret))))),
  [.t 4]⟩

theorem k_laws_markTensor : cFun Try.prog Try.f15 = some C_laws_markTensor.erase := by kernel_rfl

def L0_laws_heldIntS : C :=
      .seq (
      .seq (
      .reg [⟨some 6, none, .mv (.t 5)⟩,
            ⟨some 7, none, .mv (.t 0)⟩,
            ⟨some 8, none, .len (.t 7)⟩,
            ⟨some 9, none, .bin .lss (.t 6) (.t 8)⟩]) (
      .cond (.t 9) (
        .skip) (
        .exit 0))) (
      .seq (
      .block 1 (
        .seq (
        .seq (
        .reg [⟨some 12, none, .mv (.t 0)⟩,
              ⟨some 13, none, .mv (.t 5)⟩,
              ⟨some 14, none, .idx 1 (.t 12) (.t 13)⟩,
              ⟨some 15, none, .ld (.t 14)⟩,
              ⟨some 16, none, .mv (.t 1)⟩,
              ⟨some 17, none, .bin .neq (.t 15) (.t 16)⟩]) (
        .cond (.t 17) (
          .seq (
          .reg [⟨some 4, none, .mv (.c (.d (.int (-1))))⟩]) (
          .ret)) (
          .skip))) (
        .reg [⟨some 18, none, .mv (.t 1)⟩,
              ⟨some 19, none, .bin .add (.t 18) (.c (.d (.int 1)))⟩,
              ⟨some 1, none, .mv (.t 19)⟩]))) (
      .reg [⟨some 10, none, .mv (.t 5)⟩,
            ⟨some 11, none, .bin .add (.t 10) (.c (.d (.int 1)))⟩,
            ⟨some 5, none, .mv (.t 11)⟩]))

def C_laws_heldIntS : Fun := ⟨2, 21,
  .seq (
  .reg [⟨some 4, none, .mv (.c (.d (.int 0)))⟩]) (
  .seq (
  .seq (
  .reg [⟨some 5, none, .mv (.c (.d (.int 0)))⟩]) (
  .block 0 (
    .loop L0_laws_heldIntS))) (
  .seq (
  .reg [⟨some 20, none, .mv (.t 1)⟩,
        ⟨some 4, none, .mv (.t 20)⟩]) (
  .ret))),
  [.t 4]⟩

theorem k_laws_heldIntS : cFun Try.prog Try.f48 = some C_laws_heldIntS.erase := by kernel_rfl

def C_impl_copyInts : Fun := ⟨1, 5,
  .seq (
  .reg [⟨some 2, none, .mv (.c (.nil))⟩]) (
  .seq (
  .reg [⟨some 3, none, .mv (.t 0)⟩,
        ⟨some 4, none, .app 1 8 [.d (.int 0)] (.c (.nil)) (.t 3)⟩,
        ⟨some 2, none, .mv (.t 4)⟩]) (
  .ret)),
  [.t 2]⟩

theorem k_impl_copyInts : cFun Try.prog Try.f47 = some C_impl_copyInts.erase := by kernel_rfl

def C_impl_rawElem : Fun := ⟨3, 20,
  .seq (
  .reg [⟨some 3, none, .box (.t 0)⟩,
        ⟨some 4, none, .box (.t 1)⟩,
        ⟨some 6, none, .mv (.c (.nil))⟩]) (
  .seq (
  .reg [⟨some 8, none, .ldn 3 (.t 3)⟩,
        ⟨some 9, none, .call 72 [(.t 8)]⟩,
        ⟨some 7, none, .mv (.t 9)⟩]) (
  .seq (
  .reg [⟨some 10, none, .fld 2 (.t 4)⟩,
        ⟨some 11, none, .ld (.t 10)⟩,
        ⟨some 12, none, .mv (.t 2)⟩,
        ⟨some 13, none, .mv (.t 7)⟩,
        ⟨some 14, none, .bin .mul (.t 12) (.t 13)⟩,
        ⟨some 15, none, .mv (.t 2)⟩,
        ⟨some 16, none, .bin .add (.t 15) (.c (.d (.int 1)))⟩,
        ⟨some 17, none, .mv (.t 7)⟩,
        ⟨some 18, none, .bin .mul (.t 16) (.t 17)⟩,
        ⟨some 19, none, .slc 1 (.t 11) (some (.t 14)) (some (.t 18))⟩,
        ⟨some 6, none, .mv (.t 19)⟩]) (
  .ret))),
  [.t 6]⟩

theorem k_impl_rawElem : cFun Try.prog Try.f57 = some C_impl_rawElem.erase := by kernel_rfl

def C_spec_l05Get : Fun := ⟨3, 23,
  .seq (
  .reg [⟨some 3, none, .box (.t 0)⟩,
        ⟨some 4, none, .box (.t 1)⟩,
        ⟨some 6, none, .mv (.c (.nil))⟩]) (
  .seq (
  .reg [⟨some 8, none, .ldn 3 (.t 3)⟩,
        ⟨some 9, none, .call 68 [(.t 8)]⟩,
        ⟨some 7, none, .mv (.t 9)⟩]) (
  .seq (
  .reg [⟨some 10, none, .mksl 1 0 [.d (.int 0)] []⟩,
        ⟨some 11, none, .fld 2 (.t 4)⟩,
        ⟨some 12, none, .ld (.t 11)⟩,
        ⟨some 13, none, .mv (.t 2)⟩,
        ⟨some 14, none, .mv (.t 7)⟩,
        ⟨some 15, none, .bin .mul (.t 13) (.t 14)⟩,
        ⟨some 16, none, .mv (.t 2)⟩,
        ⟨some 17, none, .mv (.t 7)⟩,
        ⟨some 18, none, .bin .mul (.t 16) (.t 17)⟩,
        ⟨some 19, none, .mv (.t 7)⟩,
        ⟨some 20, none, .bin .add (.t 18) (.t 19)⟩,
        ⟨some 21, none, .slc 1 (.t 12) (some (.t 15)) (some (.t 20))⟩,
        ⟨some 22, none, .app 1 8 [.d (.int 0)] (.t 10) (.t 21)⟩,
        ⟨some 6, none, .mv (.t 22)⟩]) (
  .ret))),
  [.t 6]⟩

theorem k_spec_l05Get : cFun Try.prog Try.f54 = some C_spec_l05Get.erase := by kernel_rfl

end Go.Proofs.Ytlijfhfhonalgaa

/-
  The compiled code of functions of the seat (written by mkcode.py). No condition.
-/
namespace Go.Proofs.Ytlijfhfhonalgaa
open Go.Lift

def C_laws_heldTensor : Fun := ⟨2, 24,
 .seq (
 .reg [⟨some 2, none, .box (.t 0)⟩,
 ⟨some 4, none, .mv (.c (.d (.int 0)))⟩]) (
 .seq (
 .reg [⟨some 5, none, .fld 0 (.t 2)⟩,
 ⟨some 6, none, .ld (.t 5)⟩,
 ⟨some 7, none, .mv (.t 1)⟩,
 ⟨some 8, none, .call 48 [(.t 6), (.t 7)]⟩,
 ⟨some 1, none, .mv (.t 8)⟩]) (
 .seq (
 .seq (
 .reg [⟨some 9, none, .mv (.t 1)⟩,
 ⟨some 10, none, .bin .lss (.t 9) (.c (.d (.int 0)))⟩]) (
 .cond (.t 10) (
 .seq (
 .reg [⟨some 4, none, .mv (.c (.d (.int (-1))))⟩]) (
 .ret)) (
 .skip))) (
 .seq (
 .reg [⟨some 11, none, .fld 1 (.t 2)⟩,
 ⟨some 12, none, .ld (.t 11)⟩,
 ⟨some 13, none, .mv (.t 1)⟩,
 ⟨some 14, none, .call 48 [(.t 12), (.t 13)]⟩,
 ⟨some 1, none, .mv (.t 14)⟩]) (
 .seq (
 .seq (
 .reg [⟨some 15, none, .mv (.t 1)⟩,
 ⟨some 16, none, .bin .lss (.t 15) (.c (.d (.int 0)))⟩]) (
 .cond (.t 16) (
 .seq (
 .reg [⟨some 4, none, .mv (.c (.d (.int (-1))))⟩]) (
 .ret)) (
 .skip))) (
 .seq (
 .reg [⟨some 17, none, .fld 2 (.t 2)⟩,
 ⟨some 18, none, .ld (.t 17)⟩,
 ⟨some 19, none, .mv (.t 1)⟩,
 ⟨some 20, none, .call 48 [(.t 18), (.t 19)]⟩,
 ⟨some 1, none, .mv (.t 20)⟩]) (
 .seq (
 .seq (
 .reg [⟨some 21, none, .mv (.t 1)⟩,
 ⟨some 22, none, .bin .lss (.t 21) (.c (.d (.int 0)))⟩]) (
 .cond (.t 22) (
 .seq (
 .reg [⟨some 4, none, .mv (.c (.d (.int (-1))))⟩]) (
 .ret)) (
 .skip))) (
 .seq (
 .reg [⟨some 23, none, .mv (.t 1)⟩,
 ⟨some 4, none, .mv (.t 23)⟩]) (
 .ret)))))))),
 [.t 4]⟩

theorem k_laws_heldTensor : cFun Try.prog Try.f17 = some C_laws_heldTensor.erase := by kernel_rfl

def L0_spec_l05Product : C :=
 .seq (
 .reg [⟨some 11, none, .bin .lss (.t 10) (.t 9)⟩]) (
 .seq (
 .cond (.t 11) (
 .skip) (
 .exit 0)) (
 .seq (
 .block 1 (
 .seq (
 .reg [⟨some 12, none, .idx 1 (.t 8) (.t 10)⟩,
 ⟨some 13, none, .ld (.t 12)⟩,
 ⟨some 7, none, .mv (.t 13)⟩]) (
 .reg [⟨some 14, none, .mv (.t 5)⟩,
 ⟨some 15, none, .mv (.t 7)⟩,
 ⟨some 16, none, .bin .mul (.t 14) (.t 15)⟩,
 ⟨some 17, none, .mv (.t 1)⟩,
 ⟨some 18, none, .bin .add (.t 17) (.c (.d (.int 1)))⟩,
 ⟨some 19, none, .mnx false (.t 16) (.t 18)⟩,
 ⟨some 5, none, .mv (.t 19)⟩]))) (
 .reg [⟨some 20, none, .bin .add (.t 10) (.c (.d (.int 1)))⟩,
 ⟨some 10, none, .mv (.t 20)⟩])))

def C_spec_l05Product : Fun := ⟨2, 22,
 .seq (
 .reg [⟨some 4, none, .mv (.c (.d (.int 0)))⟩]) (
 .seq (
 .reg [⟨some 5, none, .mv (.c (.d (.int 1)))⟩]) (
 .seq (
 .seq (
 .reg [⟨some 8, none, .mv (.t 0)⟩,
 ⟨some 9, none, .len (.t 8)⟩,
 ⟨some 10, none, .mv (.c (.d (.int 0)))⟩]) (
 .block 0 (
 .loop L0_spec_l05Product))) (
 .seq (
 .reg [⟨some 21, none, .mv (.t 5)⟩,
 ⟨some 4, none, .mv (.t 21)⟩]) (
 .ret)))),
 [.t 4]⟩

theorem k_spec_l05Product : cFun Try.prog Try.f37 = some C_spec_l05Product.erase := by kernel_rfl

def L0_impl_hasInt : C :=
 .seq (
 .reg [⟨some 10, none, .bin .lss (.t 9) (.t 8)⟩]) (
 .seq (
 .cond (.t 10) (
 .skip) (
 .exit 0)) (
 .seq (
 .block 1 (
 .seq (
 .reg [⟨some 11, none, .idx 1 (.t 7) (.t 9)⟩,
 ⟨some 12, none, .ld (.t 11)⟩,
 ⟨some 6, none, .mv (.t 12)⟩]) (
 .seq (
 .reg [⟨some 13, none, .mv (.t 1)⟩,
 ⟨some 14, none, .mv (.t 6)⟩,
 ⟨some 15, none, .bin .eql (.t 13) (.t 14)⟩]) (
 .cond (.t 15) (
 .seq (
 .reg [⟨some 4, none, .mv (.c (.d (.bool true)))⟩]) (
 .ret)) (
 .skip))))) (
 .reg [⟨some 16, none, .bin .add (.t 9) (.c (.d (.int 1)))⟩,
 ⟨some 9, none, .mv (.t 16)⟩])))

def C_impl_hasInt : Fun := ⟨2, 17,
 .seq (
 .reg [⟨some 4, none, .mv (.c (.d (.bool false)))⟩]) (
 .seq (
 .seq (
 .reg [⟨some 7, none, .mv (.t 0)⟩,
 ⟨some 8, none, .len (.t 7)⟩,
 ⟨some 9, none, .mv (.c (.d (.int 0)))⟩]) (
 .block 0 (
 .loop L0_impl_hasInt))) (
 .seq (
 .reg [⟨some 4, none, .mv (.c (.d (.bool false)))⟩]) (
 .ret))),
 [.t 4]⟩

theorem k_impl_hasInt : cFun Try.prog Try.f49 = some C_impl_hasInt.erase := by kernel_rfl

def L0_spec_l05Index : C :=
 .seq (
 .seq (
 .reg [⟨some 13, none, .mv (.t 6)⟩,
 ⟨some 14, none, .bin .geq (.t 13) (.c (.d (.int 0)))⟩]) (
 .cond (.t 14) (
 .skip) (
 .exit 0))) (
 .seq (
 .block 1 (
 .seq (
 .reg [⟨some 17, none, .mv (.t 5)⟩,
 ⟨some 18, none, .mv (.t 6)⟩,
 ⟨some 19, none, .mv (.t 1)⟩,
 ⟨some 20, none, .mv (.t 0)⟩,
 ⟨some 21, none, .mv (.t 6)⟩,
 ⟨some 22, none, .idx 1 (.t 20) (.t 21)⟩,
 ⟨some 23, none, .ld (.t 22)⟩,
 ⟨some 24, none, .bin .rem (.t 19) (.t 23)⟩,
 ⟨some 25, none, .idx 1 (.t 17) (.t 18)⟩,
 ⟨none, none, .st 1 (.t 25) (.t 24)⟩]) (
 .reg [⟨some 26, none, .mv (.t 1)⟩,
 ⟨some 27, none, .mv (.t 0)⟩,
 ⟨some 28, none, .mv (.t 6)⟩,
 ⟨some 29, none, .idx 1 (.t 27) (.t 28)⟩,
 ⟨some 30, none, .ld (.t 29)⟩,
 ⟨some 31, none, .bin .quo (.t 26) (.t 30)⟩,
 ⟨some 1, none, .mv (.t 31)⟩]))) (
 .reg [⟨some 15, none, .mv (.t 6)⟩,
 ⟨some 16, none, .bin .sub (.t 15) (.c (.d (.int 1)))⟩,
 ⟨some 6, none, .mv (.t 16)⟩]))

def C_spec_l05Index : Fun := ⟨2, 33,
 .seq (
 .reg [⟨some 4, none, .mv (.c (.nil))⟩]) (
 .seq (
 .reg [⟨some 7, none, .mv (.t 0)⟩,
 ⟨some 8, none, .len (.t 7)⟩,
 ⟨some 9, none, .make 1 8 [.d (.int 0)] (.t 8) (.t 8)⟩,
 ⟨some 5, none, .mv (.t 9)⟩]) (
 .seq (
 .seq (
 .reg [⟨some 10, none, .mv (.t 0)⟩,
 ⟨some 11, none, .len (.t 10)⟩,
 ⟨some 12, none, .bin .sub (.t 11) (.c (.d (.int 1)))⟩,
 ⟨some 6, none, .mv (.t 12)⟩]) (
 .block 0 (
 .loop L0_spec_l05Index))) (
 .seq (
 .reg [⟨some 32, none, .mv (.t 5)⟩,
 ⟨some 4, none, .mv (.t 32)⟩]) (
 .ret)))),
 [.t 4]⟩

theorem k_spec_l05Index : cFun Try.prog Try.f70 = some C_spec_l05Index.erase := by kernel_rfl

def L0_impl_productOf : C :=
 .seq (
 .reg [⟨some 9, none, .bin .lss (.t 8) (.t 7)⟩]) (
 .seq (
 .cond (.t 9) (
 .skip) (
 .exit 0)) (
 .seq (
 .block 1 (
 .seq (
 .reg [⟨some 10, none, .idx 1 (.t 6) (.t 8)⟩,
 ⟨some 11, none, .ld (.t 10)⟩,
 ⟨some 5, none, .mv (.t 11)⟩]) (
 .reg [⟨some 12, none, .mv (.t 3)⟩,
 ⟨some 13, none, .mv (.t 5)⟩,
 ⟨some 14, none, .bin .mul (.t 12) (.t 13)⟩,
 ⟨some 3, none, .mv (.t 14)⟩]))) (
 .reg [⟨some 15, none, .bin .add (.t 8) (.c (.d (.int 1)))⟩,
 ⟨some 8, none, .mv (.t 15)⟩])))

def C_impl_productOf : Fun := ⟨1, 17,
 .seq (
 .reg [⟨some 2, none, .mv (.c (.d (.int 0)))⟩]) (
 .seq (
 .reg [⟨some 3, none, .mv (.c (.d (.int 1)))⟩]) (
 .seq (
 .seq (
 .reg [⟨some 6, none, .mv (.t 0)⟩,
 ⟨some 7, none, .len (.t 6)⟩,
 ⟨some 8, none, .mv (.c (.d (.int 0)))⟩]) (
 .block 0 (
 .loop L0_impl_productOf))) (
 .seq (
 .reg [⟨some 16, none, .mv (.t 3)⟩,
 ⟨some 2, none, .mv (.t 16)⟩]) (
 .ret)))),
 [.t 2]⟩

theorem k_impl_productOf : cFun Try.prog Try.f50 = some C_impl_productOf.erase := by kernel_rfl

def L0_spec_l05Find : C :=
 .seq (
 .reg [⟨some 10, none, .bin .lss (.t 9) (.t 8)⟩]) (
 .seq (
 .cond (.t 10) (
 .skip) (
 .exit 0)) (
 .seq (
 .block 1 (
 .seq (
 .reg [⟨some 11, none, .mv (.t 9)⟩,
 ⟨some 12, none, .idx 1 (.t 7) (.t 9)⟩,
 ⟨some 13, none, .ld (.t 12)⟩,
 ⟨some 5, none, .mv (.t 11)⟩,
 ⟨some 6, none, .mv (.t 13)⟩]) (
 .seq (
 .reg [⟨some 14, none, .mv (.t 6)⟩,
 ⟨some 15, none, .mv (.t 1)⟩,
 ⟨some 16, none, .bin .eql (.t 14) (.t 15)⟩]) (
 .cond (.t 16) (
 .seq (
 .reg [⟨some 17, none, .mv (.t 5)⟩,
 ⟨some 4, none, .mv (.t 17)⟩]) (
 .ret)) (
 .skip))))) (
 .reg [⟨some 18, none, .bin .add (.t 9) (.c (.d (.int 1)))⟩,
 ⟨some 9, none, .mv (.t 18)⟩])))

def C_spec_l05Find : Fun := ⟨2, 19,
 .seq (
 .reg [⟨some 4, none, .mv (.c (.d (.int 0)))⟩]) (
 .seq (
 .seq (
 .reg [⟨some 7, none, .mv (.t 0)⟩,
 ⟨some 8, none, .len (.t 7)⟩,
 ⟨some 9, none, .mv (.c (.d (.int 0)))⟩]) (
 .block 0 (
 .loop L0_spec_l05Find))) (
 .seq (
 .reg [⟨some 4, none, .mv (.c (.d (.int (-1))))⟩]) (
 .ret))),
 [.t 4]⟩

theorem k_spec_l05Find : cFun Try.prog Try.f34 = some C_spec_l05Find.erase := by kernel_rfl

def L0_impl_axisOf : C :=
 .seq (
 .reg [⟨some 11, none, .bin .lss (.t 10) (.t 9)⟩]) (
 .seq (
 .cond (.t 11) (
 .skip) (
 .exit 0)) (
 .seq (
 .block 1 (
 .seq (
 .reg [⟨some 12, none, .mv (.t 10)⟩,
 ⟨some 13, none, .idx 1 (.t 8) (.t 10)⟩,
 ⟨some 14, none, .ld (.t 13)⟩,
 ⟨some 5, none, .mv (.t 12)⟩,
 ⟨some 6, none, .mv (.t 14)⟩]) (
 .seq (
 .reg [⟨some 15, none, .mv (.t 6)⟩,
 ⟨some 16, none, .mv (.t 1)⟩,
 ⟨some 17, none, .bin .eql (.t 15) (.t 16)⟩]) (
 .cond (.t 17) (
 .seq (
 .reg [⟨some 18, none, .mv (.t 5)⟩,
 ⟨some 4, none, .mv (.t 18)⟩]) (
 .ret)) (
 .skip))))) (
 .reg [⟨some 19, none, .bin .add (.t 10) (.c (.d (.int 1)))⟩,
 ⟨some 10, none, .mv (.t 19)⟩])))

def C_impl_axisOf : Fun := ⟨2, 20,
 .seq (
 .reg [⟨some 2, none, .box (.t 0)⟩,
 ⟨some 4, none, .mv (.c (.d (.int 0)))⟩]) (
 .seq (
 .seq (
 .reg [⟨some 7, none, .fld 0 (.t 2)⟩,
 ⟨some 8, none, .ld (.t 7)⟩,
 ⟨some 9, none, .len (.t 8)⟩,
 ⟨some 10, none, .mv (.c (.d (.int 0)))⟩]) (
 .block 0 (
 .loop L0_impl_axisOf))) (
 .seq (
 .reg [⟨some 4, none, .mv (.c (.d (.int (-1))))⟩]) (
 .ret))),
 [.t 4]⟩

theorem k_impl_axisOf : cFun Try.prog Try.f43 = some C_impl_axisOf.erase := by kernel_rfl

def L0_impl_withoutInt : C :=
 .seq (
 .reg [⟨some 11, none, .bin .lss (.t 10) (.t 9)⟩]) (
 .seq (
 .cond (.t 11) (
 .skip) (
 .exit 0)) (
 .seq (
 .block 1 (
 .seq (
 .reg [⟨some 12, none, .idx 1 (.t 8) (.t 10)⟩,
 ⟨some 13, none, .ld (.t 12)⟩,
 ⟨some 7, none, .mv (.t 13)⟩]) (
 .seq (
 .reg [⟨some 14, none, .mv (.t 7)⟩,
 ⟨some 15, none, .mv (.t 1)⟩,
 ⟨some 16, none, .bin .neq (.t 14) (.t 15)⟩]) (
 .cond (.t 16) (
 .reg [⟨some 17, none, .mv (.t 5)⟩,
 ⟨some 18, none, .mv (.t 7)⟩,
 ⟨some 19, none, .mksl 1 1 [.d (.int 0)] [(0, 1, (.t 18))]⟩,
 ⟨some 20, none, .app 1 8 [.d (.int 0)] (.t 17) (.t 19)⟩,
 ⟨some 5, none, .mv (.t 20)⟩]) (
 .skip))))) (
 .reg [⟨some 21, none, .bin .add (.t 10) (.c (.d (.int 1)))⟩,
 ⟨some 10, none, .mv (.t 21)⟩])))

def C_impl_withoutInt : Fun := ⟨2, 23,
 .seq (
 .reg [⟨some 4, none, .mv (.c (.nil))⟩]) (
 .seq (
 .reg [⟨some 5, none, .mv (.c (.nil))⟩]) (
 .seq (
 .seq (
 .reg [⟨some 8, none, .mv (.t 0)⟩,
 ⟨some 9, none, .len (.t 8)⟩,
 ⟨some 10, none, .mv (.c (.d (.int 0)))⟩]) (
 .block 0 (
 .loop L0_impl_withoutInt))) (
 .seq (
 .reg [⟨some 22, none, .mv (.t 5)⟩,
 ⟨some 4, none, .mv (.t 22)⟩]) (
 .ret)))),
 [.t 4]⟩

theorem k_impl_withoutInt : cFun Try.prog Try.f45 = some C_impl_withoutInt.erase := by kernel_rfl

def L0_impl_stridesOf : C :=
 .seq (
 .reg [⟨some 24, none, .bin .lss (.t 23) (.t 22)⟩]) (
 .seq (
 .cond (.t 24) (
 .skip) (
 .exit 2)) (
 .seq (
 .block 3 (
 .seq (
 .reg [⟨some 25, none, .mv (.t 23)⟩,
 ⟨some 26, none, .idx 1 (.t 21) (.t 23)⟩,
 ⟨some 27, none, .ld (.t 26)⟩,
 ⟨some 8, none, .mv (.t 25)⟩,
 ⟨some 9, none, .mv (.t 27)⟩]) (
 .seq (
 .reg [⟨some 28, none, .mv (.t 9)⟩,
 ⟨some 29, none, .fld 0 (.t 2)⟩,
 ⟨some 30, none, .ld (.t 29)⟩,
 ⟨some 31, none, .mv (.t 7)⟩,
 ⟨some 32, none, .idx 1 (.t 30) (.t 31)⟩,
 ⟨some 33, none, .ld (.t 32)⟩,
 ⟨some 34, none, .bin .eql (.t 28) (.t 33)⟩]) (
 .cond (.t 34) (
 .reg [⟨some 35, none, .mv (.t 5)⟩,
 ⟨some 36, none, .mv (.t 8)⟩,
 ⟨some 37, none, .mv (.t 6)⟩,
 ⟨some 38, none, .idx 1 (.t 35) (.t 36)⟩,
 ⟨none, none, .st 1 (.t 38) (.t 37)⟩]) (
 .skip))))) (
 .reg [⟨some 39, none, .bin .add (.t 23) (.c (.d (.int 1)))⟩,
 ⟨some 23, none, .mv (.t 39)⟩])))

def L1_impl_stridesOf : C :=
 .seq (
 .seq (
 .reg [⟨some 17, none, .mv (.t 7)⟩,
 ⟨some 18, none, .bin .geq (.t 17) (.c (.d (.int 0)))⟩]) (
 .cond (.t 18) (
 .skip) (
 .exit 0))) (
 .seq (
 .block 1 (
 .seq (
 .seq (
 .reg [⟨some 21, none, .mv (.t 1)⟩,
 ⟨some 22, none, .len (.t 21)⟩,
 ⟨some 23, none, .mv (.c (.d (.int 0)))⟩]) (
 .block 2 (
 .loop L0_impl_stridesOf))) (
 .reg [⟨some 40, none, .mv (.t 6)⟩,
 ⟨some 41, none, .fld 1 (.t 2)⟩,
 ⟨some 42, none, .ld (.t 41)⟩,
 ⟨some 43, none, .mv (.t 7)⟩,
 ⟨some 44, none, .idx 1 (.t 42) (.t 43)⟩,
 ⟨some 45, none, .ld (.t 44)⟩,
 ⟨some 46, none, .bin .mul (.t 40) (.t 45)⟩,
 ⟨some 6, none, .mv (.t 46)⟩]))) (
 .reg [⟨some 19, none, .mv (.t 7)⟩,
 ⟨some 20, none, .bin .sub (.t 19) (.c (.d (.int 1)))⟩,
 ⟨some 7, none, .mv (.t 20)⟩]))

def C_impl_stridesOf : Fun := ⟨2, 48,
 .seq (
 .reg [⟨some 2, none, .box (.t 0)⟩,
 ⟨some 4, none, .mv (.c (.nil))⟩]) (
 .seq (
 .reg [⟨some 10, none, .mv (.t 1)⟩,
 ⟨some 11, none, .len (.t 10)⟩,
 ⟨some 12, none, .make 1 8 [.d (.int 0)] (.t 11) (.t 11)⟩,
 ⟨some 5, none, .mv (.t 12)⟩]) (
 .seq (
 .reg [⟨some 6, none, .mv (.c (.d (.int 1)))⟩]) (
 .seq (
 .seq (
 .reg [⟨some 13, none, .fld 1 (.t 2)⟩,
 ⟨some 14, none, .ld (.t 13)⟩,
 ⟨some 15, none, .len (.t 14)⟩,
 ⟨some 16, none, .bin .sub (.t 15) (.c (.d (.int 1)))⟩,
 ⟨some 7, none, .mv (.t 16)⟩]) (
 .block 0 (
 .loop L1_impl_stridesOf))) (
 .seq (
 .reg [⟨some 47, none, .mv (.t 5)⟩,
 ⟨some 4, none, .mv (.t 47)⟩]) (
 .ret))))),
 [.t 4]⟩

theorem k_impl_stridesOf : cFun Try.prog Try.f74 = some C_impl_stridesOf.erase := by kernel_rfl

def L0_impl_dotOf : C :=
 .seq (
 .reg [⟨some 10, none, .bin .lss (.t 9) (.t 8)⟩]) (
 .seq (
 .cond (.t 10) (
 .skip) (
 .exit 0)) (
 .seq (
 .block 1 (
 .seq (
 .reg [⟨some 11, none, .mv (.t 9)⟩,
 ⟨some 6, none, .mv (.t 11)⟩]) (
 .draw [⟨some 12, none, .mv (.t 5)⟩,
 ⟨some 13, none, .mv (.t 0)⟩,
 ⟨some 14, none, .mv (.t 6)⟩,
 ⟨some 15, none, .idx 1 (.t 13) (.t 14)⟩,
 ⟨some 16, none, .ld (.t 15)⟩,
 ⟨some 17, none, .mv (.t 1)⟩,
 ⟨some 18, none, .mv (.t 6)⟩,
 ⟨some 19, none, .idx 1 (.t 17) (.t 18)⟩,
 ⟨some 20, none, .ld (.t 19)⟩,
 ⟨some 21, none, .bin .mul (.t 16) (.t 20)⟩]
 [⟨some 22, none, .bin .add (.t 12) (.t 21)⟩,
 ⟨some 5, none, .mv (.t 22)⟩]))) (
 .reg [⟨some 23, none, .bin .add (.t 9) (.c (.d (.int 1)))⟩,
 ⟨some 9, none, .mv (.t 23)⟩])))

def C_impl_dotOf : Fun := ⟨2, 25,
 .seq (
 .reg [⟨some 4, none, .mv (.c (.d (.int 0)))⟩]) (
 .seq (
 .reg [⟨some 5, none, .mv (.c (.d (.int 0)))⟩]) (
 .seq (
 .seq (
 .reg [⟨some 7, none, .mv (.t 0)⟩,
 ⟨some 8, none, .len (.t 7)⟩,
 ⟨some 9, none, .mv (.c (.d (.int 0)))⟩]) (
 .block 0 (
 .loop L0_impl_dotOf))) (
 .seq (
 .reg [⟨some 24, none, .mv (.t 5)⟩,
 ⟨some 4, none, .mv (.t 24)⟩]) (
 .ret)))),
 [.t 4]⟩

theorem k_impl_dotOf : cFun Try.prog Try.f75 = some C_impl_dotOf.erase := by kernel_rfl

def L0_impl_nextIndex : C :=
 .seq (
 .seq (
 .reg [⟨some 9, none, .mv (.t 5)⟩,
 ⟨some 10, none, .bin .geq (.t 9) (.c (.d (.int 0)))⟩]) (
 .cond (.t 10) (
 .skip) (
 .exit 0))) (
 .seq (
 .block 1 (
 .seq (
 .reg [⟨some 13, none, .mv (.t 1)⟩,
 ⟨some 14, none, .mv (.t 5)⟩,
 ⟨some 15, none, .idx 1 (.t 13) (.t 14)⟩,
 ⟨some 16, none, .ld (.t 15)⟩,
 ⟨some 17, none, .bin .add (.t 16) (.c (.d (.int 1)))⟩,
 ⟨some 18, none, .idx 1 (.t 13) (.t 14)⟩,
 ⟨none, none, .st 1 (.t 18) (.t 17)⟩]) (
 .seq (
 .seq (
 .draw [⟨some 19, none, .mv (.t 1)⟩,
 ⟨some 20, none, .mv (.t 5)⟩,
 ⟨some 21, none, .idx 1 (.t 19) (.t 20)⟩,
 ⟨some 22, none, .ld (.t 21)⟩,
 ⟨some 23, none, .mv (.t 0)⟩,
 ⟨some 24, none, .mv (.t 5)⟩,
 ⟨some 25, none, .idx 1 (.t 23) (.t 24)⟩,
 ⟨some 26, none, .ld (.t 25)⟩]
 [⟨some 27, none, .bin .lss (.t 22) (.t 26)⟩]) (
 .cond (.t 27) (
 .seq (
 .reg [⟨some 4, none, .mv (.c (.d (.bool true)))⟩]) (
 .ret)) (
 .skip))) (
 .reg [⟨some 28, none, .mv (.t 1)⟩,
 ⟨some 29, none, .mv (.t 5)⟩,
 ⟨some 30, none, .idx 1 (.t 28) (.t 29)⟩,
 ⟨none, none, .st 1 (.t 30) (.c (.d (.int 0)))⟩])))) (
 .reg [⟨some 11, none, .mv (.t 5)⟩,
 ⟨some 12, none, .bin .sub (.t 11) (.c (.d (.int 1)))⟩,
 ⟨some 5, none, .mv (.t 12)⟩]))

def C_impl_nextIndex : Fun := ⟨2, 31,
 .seq (
 .reg [⟨some 4, none, .mv (.c (.d (.bool false)))⟩]) (
 .seq (
 .seq (
 .reg [⟨some 6, none, .mv (.t 0)⟩,
 ⟨some 7, none, .len (.t 6)⟩,
 ⟨some 8, none, .bin .sub (.t 7) (.c (.d (.int 1)))⟩,
 ⟨some 5, none, .mv (.t 8)⟩]) (
 .block 0 (
 .loop L0_impl_nextIndex))) (
 .seq (
 .reg [⟨some 4, none, .mv (.c (.d (.bool false)))⟩]) (
 .ret))),
 [.t 4]⟩

theorem k_impl_nextIndex : cFun Try.prog Try.f76 = some C_impl_nextIndex.erase := by kernel_rfl

def L0_spec_l06Permute : C :=
 .seq (
 .reg [⟨some 60, none, .bin .lss (.t 59) (.t 58)⟩]) (
 .seq (
 .cond (.t 60) (
 .skip) (
 .exit 4)) (
 .seq (
 .block 5 (
 .seq (
 .reg [⟨some 61, none, .mv (.t 59)⟩,
 ⟨some 62, none, .idx 1 (.t 57) (.t 59)⟩,
 ⟨some 63, none, .ld (.t 62)⟩,
 ⟨some 15, none, .mv (.t 61)⟩,
 ⟨some 16, none, .mv (.t 63)⟩]) (
 .reg [⟨some 64, none, .mv (.t 13)⟩,
 ⟨some 65, none, .mv (.t 8)⟩,
 ⟨some 66, none, .mv (.t 15)⟩,
 ⟨some 67, none, .idx 1 (.t 65) (.t 66)⟩,
 ⟨some 68, none, .ld (.t 67)⟩,
 ⟨some 69, none, .mv (.t 16)⟩,
 ⟨some 70, none, .idx 1 (.t 64) (.t 68)⟩,
 ⟨none, none, .st 1 (.t 70) (.t 69)⟩]))) (
 .reg [⟨some 71, none, .bin .add (.t 59) (.c (.d (.int 1)))⟩,
 ⟨some 59, none, .mv (.t 71)⟩])))

def L1_spec_l06Permute : C :=
 .seq (
 .seq (
 .reg [⟨some 49, none, .mv (.t 14)⟩,
 ⟨some 50, none, .mv (.t 7)⟩,
 ⟨some 51, none, .call 37 [(.t 50), (.c (.d (.int 4096)))]⟩,
 ⟨some 52, none, .bin .lss (.t 49) (.t 51)⟩]) (
 .cond (.t 52) (
 .skip) (
 .exit 2))) (
 .seq (
 .block 3 (
 .seq (
 .seq (
 .reg [⟨some 55, none, .mv (.t 7)⟩,
 ⟨some 56, none, .mv (.t 14)⟩,
 ⟨some 57, none, .call 70 [(.t 55), (.t 56)]⟩,
 ⟨some 58, none, .len (.t 57)⟩,
 ⟨some 59, none, .mv (.c (.d (.int 0)))⟩]) (
 .block 4 (
 .loop L0_spec_l06Permute))) (
 .draw [⟨some 72, none, .fld 2 (.t 12)⟩,
 ⟨some 73, none, .ld (.t 72)⟩,
 ⟨some 74, none, .ldn 3 (.t 3)⟩,
 ⟨some 75, none, .ldn 3 (.t 4)⟩,
 ⟨some 76, none, .fld 1 (.t 4)⟩,
 ⟨some 77, none, .ld (.t 76)⟩,
 ⟨some 78, none, .mv (.t 13)⟩,
 ⟨some 79, none, .call 71 [(.t 77), (.t 78)]⟩,
 ⟨some 80, none, .call 54 [(.t 74), (.t 75), (.t 79)]⟩]
 [⟨some 81, none, .app 1 8 [.d (.int 0)] (.t 73) (.t 80)⟩,
 ⟨some 82, none, .fld 2 (.t 12)⟩,
 ⟨none, none, .st 1 (.t 82) (.t 81)⟩]))) (
 .reg [⟨some 53, none, .mv (.t 14)⟩,
 ⟨some 54, none, .bin .add (.t 53) (.c (.d (.int 1)))⟩,
 ⟨some 14, none, .mv (.t 54)⟩]))

def L2_spec_l06Permute : C :=
 .seq (
 .reg [⟨some 22, none, .bin .lss (.t 21) (.t 20)⟩]) (
 .seq (
 .cond (.t 22) (
 .skip) (
 .exit 0)) (
 .seq (
 .block 1 (
 .seq (
 .reg [⟨some 23, none, .idx 1 (.t 19) (.t 21)⟩,
 ⟨some 24, none, .ld (.t 23)⟩,
 ⟨some 10, none, .mv (.t 24)⟩]) (
 .seq (
 .reg [⟨some 25, none, .fld 0 (.t 4)⟩,
 ⟨some 26, none, .ld (.t 25)⟩,
 ⟨some 27, none, .mv (.t 10)⟩,
 ⟨some 28, none, .call 34 [(.t 26), (.t 27)]⟩,
 ⟨some 11, none, .mv (.t 28)⟩]) (
 .seq (
 .reg [⟨some 29, none, .mv (.t 8)⟩,
 ⟨some 30, none, .mv (.t 11)⟩,
 ⟨some 31, none, .mksl 1 1 [.d (.int 0)] [(0, 1, (.t 30))]⟩,
 ⟨some 32, none, .app 1 8 [.d (.int 0)] (.t 29) (.t 31)⟩,
 ⟨some 8, none, .mv (.t 32)⟩]) (
 .reg [⟨some 33, none, .mv (.t 7)⟩,
 ⟨some 34, none, .fld 1 (.t 4)⟩,
 ⟨some 35, none, .ld (.t 34)⟩,
 ⟨some 36, none, .mv (.t 11)⟩,
 ⟨some 37, none, .idx 1 (.t 35) (.t 36)⟩,
 ⟨some 38, none, .ld (.t 37)⟩,
 ⟨some 39, none, .mksl 1 1 [.d (.int 0)] [(0, 1, (.t 38))]⟩,
 ⟨some 40, none, .app 1 8 [.d (.int 0)] (.t 33) (.t 39)⟩,
 ⟨some 7, none, .mv (.t 40)⟩]))))) (
 .reg [⟨some 41, none, .bin .add (.t 21) (.c (.d (.int 1)))⟩,
 ⟨some 21, none, .mv (.t 41)⟩])))

def C_spec_l06Permute : Fun := ⟨3, 84,
 .seq (
 .reg [⟨some 3, none, .box (.t 0)⟩,
 ⟨some 4, none, .box (.t 1)⟩,
 ⟨some 6, none, .zer [.nil, .nil, .nil]⟩]) (
 .seq (
 .reg [⟨some 17, none, .mksl 1 0 [.d (.int 0)] []⟩,
 ⟨some 7, none, .mv (.t 17)⟩]) (
 .seq (
 .reg [⟨some 18, none, .mksl 1 0 [.d (.int 0)] []⟩,
 ⟨some 8, none, .mv (.t 18)⟩]) (
 .seq (
 .seq (
 .reg [⟨some 19, none, .mv (.t 2)⟩,
 ⟨some 20, none, .len (.t 19)⟩,
 ⟨some 21, none, .mv (.c (.d (.int 0)))⟩]) (
 .block 0 (
 .loop L2_spec_l06Permute))) (
 .seq (
 .reg [⟨some 42, none, .mv (.t 2)⟩,
 ⟨some 43, none, .call 40 [(.t 42)]⟩,
 ⟨some 44, none, .mv (.t 7)⟩,
 ⟨some 45, none, .agg [.nil, .nil, .nil] [(0, 1, (.t 43)), (1, 1, (.t 44))]⟩,
 ⟨some 12, none, .zer [.nil, .nil, .nil]⟩,
 ⟨none, none, .st 3 (.t 12) (.t 45)⟩]) (
 .seq (
 .reg [⟨some 46, none, .mv (.t 8)⟩,
 ⟨some 47, none, .len (.t 46)⟩,
 ⟨some 48, none, .make 1 8 [.d (.int 0)] (.t 47) (.t 47)⟩,
 ⟨some 13, none, .mv (.t 48)⟩]) (
 .seq (
 .seq (
 .reg [⟨some 14, none, .mv (.c (.d (.int 0)))⟩]) (
 .block 2 (
 .loop L1_spec_l06Permute))) (
 .seq (
 .reg [⟨some 83, none, .ldn 3 (.t 12)⟩,
 ⟨none, none, .st 3 (.t 6) (.t 83)⟩]) (
 .ret)))))))),
 [.cell 6 3]⟩

theorem k_spec_l06Permute : cFun Try.prog Try.f39 = some C_spec_l06Permute.erase := by kernel_rfl

def L0_impl_rawPermute : C :=
 .block 3 (
 .seq (
 .draw [⟨some 43, none, .fld 2 (.t 7)⟩,
 ⟨some 44, none, .ld (.t 43)⟩,
 ⟨some 45, none, .ldn 3 (.t 3)⟩,
 ⟨some 46, none, .ldn 3 (.t 4)⟩,
 ⟨some 47, none, .mv (.t 10)⟩,
 ⟨some 48, none, .mv (.t 11)⟩,
 ⟨some 49, none, .call 75 [(.t 47), (.t 48)]⟩,
 ⟨some 50, none, .call 57 [(.t 45), (.t 46), (.t 49)]⟩]
 [⟨some 51, none, .app 1 8 [.d (.int 0)] (.t 44) (.t 50)⟩,
 ⟨some 52, none, .fld 2 (.t 7)⟩,
 ⟨none, none, .st 1 (.t 52) (.t 51)⟩]) (
 .seq (
 .reg [⟨some 53, none, .fld 1 (.t 7)⟩,
 ⟨some 54, none, .ld (.t 53)⟩,
 ⟨some 55, none, .mv (.t 11)⟩,
 ⟨some 56, none, .call 76 [(.t 54), (.t 55)]⟩,
 ⟨some 57, none, .not (.t 56)⟩]) (
 .cond (.t 57) (
 .seq (
 .reg [⟨some 58, none, .ldn 3 (.t 7)⟩,
 ⟨none, none, .st 3 (.t 6) (.t 58)⟩]) (
 .ret)) (
 .skip))))

def L1_impl_rawPermute : C :=
 .seq (
 .reg [⟨some 21, none, .bin .lss (.t 20) (.t 19)⟩]) (
 .seq (
 .cond (.t 21) (
 .skip) (
 .exit 0)) (
 .seq (
 .block 1 (
 .seq (
 .reg [⟨some 22, none, .mv (.t 20)⟩,
 ⟨some 23, none, .idx 1 (.t 18) (.t 20)⟩,
 ⟨some 24, none, .ld (.t 23)⟩,
 ⟨some 8, none, .mv (.t 22)⟩,
 ⟨some 9, none, .mv (.t 24)⟩]) (
 .draw [⟨some 25, none, .fld 1 (.t 7)⟩,
 ⟨some 26, none, .ld (.t 25)⟩,
 ⟨some 27, none, .mv (.t 8)⟩,
 ⟨some 28, none, .fld 1 (.t 4)⟩,
 ⟨some 29, none, .ld (.t 28)⟩,
 ⟨some 30, none, .ldn 3 (.t 4)⟩,
 ⟨some 31, none, .mv (.t 9)⟩,
 ⟨some 32, none, .call 43 [(.t 30), (.t 31)]⟩,
 ⟨some 33, none, .idx 1 (.t 29) (.t 32)⟩,
 ⟨some 34, none, .ld (.t 33)⟩]
 [⟨some 35, none, .idx 1 (.t 26) (.t 27)⟩,
 ⟨none, none, .st 1 (.t 35) (.t 34)⟩]))) (
 .reg [⟨some 36, none, .bin .add (.t 20) (.c (.d (.int 1)))⟩,
 ⟨some 20, none, .mv (.t 36)⟩])))

def C_impl_rawPermute : Fun := ⟨3, 59,
 .seq (
 .reg [⟨some 3, none, .box (.t 0)⟩,
 ⟨some 4, none, .box (.t 1)⟩,
 ⟨some 6, none, .zer [.nil, .nil, .nil]⟩]) (
 .seq (
 .draw [⟨some 12, none, .mv (.t 2)⟩,
 ⟨some 13, none, .call 47 [(.t 12)]⟩,
 ⟨some 14, none, .mv (.t 2)⟩,
 ⟨some 15, none, .len (.t 14)⟩,
 ⟨some 16, none, .make 1 8 [.d (.int 0)] (.t 15) (.t 15)⟩,
 ⟨some 17, none, .agg [.nil, .nil, .nil] [(0, 1, (.t 13)), (1, 1, (.t 16))]⟩,
 ⟨some 7, none, .zer [.nil, .nil, .nil]⟩]
 [⟨none, none, .st 3 (.t 7) (.t 17)⟩]) (
 .seq (
 .seq (
 .reg [⟨some 18, none, .mv (.t 2)⟩,
 ⟨some 19, none, .len (.t 18)⟩,
 ⟨some 20, none, .mv (.c (.d (.int 0)))⟩]) (
 .block 0 (
 .loop L1_impl_rawPermute))) (
 .seq (
 .reg [⟨some 37, none, .ldn 3 (.t 4)⟩,
 ⟨some 38, none, .mv (.t 2)⟩,
 ⟨some 39, none, .call 74 [(.t 37), (.t 38)]⟩,
 ⟨some 10, none, .mv (.t 39)⟩]) (
 .seq (
 .reg [⟨some 40, none, .mv (.t 2)⟩,
 ⟨some 41, none, .len (.t 40)⟩,
 ⟨some 42, none, .make 1 8 [.d (.int 0)] (.t 41) (.t 41)⟩,
 ⟨some 11, none, .mv (.t 42)⟩]) (
 .block 2 (
 .loop L0_impl_rawPermute)))))),
 [.cell 6 3]⟩

theorem k_impl_rawPermute : cFun Try.prog Try.f46 = some C_impl_rawPermute.erase := by kernel_rfl

def C_spec_l05Ints : Fun := ⟨1, 6,
 .seq (
 .reg [⟨some 2, none, .mv (.c (.nil))⟩]) (
 .seq (
 .reg [⟨some 3, none, .mksl 1 0 [.d (.int 0)] []⟩,
 ⟨some 4, none, .mv (.t 0)⟩,
 ⟨some 5, none, .app 1 8 [.d (.int 0)] (.t 3) (.t 4)⟩,
 ⟨some 2, none, .mv (.t 5)⟩]) (
 .ret)),
 [.t 2]⟩

theorem k_spec_l05Ints : cFun Try.prog Try.f40 = some C_spec_l05Ints.erase := by kernel_rfl

end Go.Proofs.Ytlijfhfhonalgaa
