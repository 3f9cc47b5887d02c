/-
  The compiled code of functions of the seat (written by mkcode.py). No condition.
-/
import Derived.Test.YtcgnehacihjnkaaLiftE
import Derived.Test.YtcgnehacihjnkaaProg
import Derived.KernelRfl
namespace Go.Proofs.Ytcgnehacihjnkaa
open Go.Lift

def C_laws_FnExactMultiplyTensors : Fun := ⟨3, 127,
 .seq (
 .reg [⟨some 3, none, .box (.t 0)⟩,
 ⟨some 4, none, .box (.t 1)⟩,
 ⟨some 5, none, .box (.t 2)⟩,
 ⟨some 6, none, .mv (.c (.d (.bool false)))⟩]) (
 .seq (
 .reg [⟨some 7, none, .mv (.c (.d (.int 1048576)))⟩]) (
 .seq (
 .reg [⟨some 19, none, .ldn 3 (.t 4)⟩,
 ⟨some 20, none, .mv (.t 7)⟩,
 ⟨some 21, none, .call 28 [(.t 19), (.t 20)]⟩,
 ⟨some 7, none, .mv (.t 21)⟩]) (
 .seq (
 .seq (
 .reg [⟨some 22, none, .mv (.t 7)⟩,
 ⟨some 23, none, .bin .lss (.t 22) (.c (.d (.int 0)))⟩]) (
 .cond (.t 23) (
 .seq (
 .reg [⟨some 6, none, .mv (.c (.d (.bool true)))⟩]) (
 .ret)) (
 .skip))) (
 .seq (
 .reg [⟨some 24, none, .ldn 3 (.t 5)⟩,
 ⟨some 25, none, .mv (.t 7)⟩,
 ⟨some 26, none, .call 28 [(.t 24), (.t 25)]⟩,
 ⟨some 7, none, .mv (.t 26)⟩]) (
 .seq (
 .seq (
 .reg [⟨some 27, none, .mv (.t 7)⟩,
 ⟨some 28, none, .bin .lss (.t 27) (.c (.d (.int 0)))⟩]) (
 .cond (.t 28) (
 .seq (
 .reg [⟨some 6, none, .mv (.c (.d (.bool true)))⟩]) (
 .ret)) (
 .skip))) (
 .seq (
 .draw [⟨some 30, none, .ldn 3 (.t 3)⟩,
 ⟨some 31, none, .call 30 [(.t 30)]⟩,
 ⟨some 32, none, .ldn 3 (.t 4)⟩,
 ⟨some 33, none, .call 31 [(.t 32)]⟩,
 ⟨some 34, none, .ldn 3 (.t 5)⟩,
 ⟨some 35, none, .call 31 [(.t 34)]⟩,
 ⟨some 36, none, .call 29 [(.t 31), (.t 33), (.t 35)]⟩,
 ⟨some 29, none, .mv (.t 36)⟩,
 ⟨some 37, none, .ext 0 (.t 29)⟩,
 ⟨some 38, none, .ext 1 (.t 29)⟩,
 ⟨some 8, none, .zer [.nil, .nil, .nil]⟩]
 [⟨none, none, .st 3 (.t 8) (.t 37)⟩,
 ⟨some 9, none, .mv (.t 38)⟩]) (
 .seq (
 .reg [⟨some 39, none, .ldn 3 (.t 4)⟩,
 ⟨some 40, none, .call 31 [(.t 39)]⟩,
 ⟨some 10, none, .zer [.nil, .nil, .nil]⟩,
 ⟨none, none, .st 3 (.t 10) (.t 40)⟩]) (
 .seq (
 .reg [⟨some 41, none, .ldn 3 (.t 5)⟩,
 ⟨some 42, none, .call 31 [(.t 41)]⟩,
 ⟨some 11, none, .zer [.nil, .nil, .nil]⟩,
 ⟨none, none, .st 3 (.t 11) (.t 42)⟩]) (
 .seq (
 .draw [⟨some 44, none, .ldn 3 (.t 3)⟩,
 ⟨some 45, none, .call 30 [(.t 44)]⟩,
 ⟨some 46, none, .ldn 3 (.t 10)⟩,
 ⟨some 47, none, .ldn 3 (.t 11)⟩,
 ⟨some 48, none, .call 32 [(.t 45), (.t 46), (.t 47)]⟩,
 ⟨some 43, none, .mv (.t 48)⟩,
 ⟨some 49, none, .ext 0 (.t 43)⟩,
 ⟨some 50, none, .ext 1 (.t 43)⟩,
 ⟨some 12, none, .zer [.nil, .nil, .nil]⟩]
 [⟨none, none, .st 3 (.t 12) (.t 49)⟩,
 ⟨some 13, none, .mv (.t 50)⟩]) (
 .seq (
 .seq (
 .reg [⟨some 51, none, .ldn 3 (.t 12)⟩,
 ⟨some 52, none, .ldn 3 (.t 8)⟩,
 ⟨some 53, none, .call 33 [(.t 51), (.t 52)]⟩,
 ⟨some 54, none, .not (.t 53)⟩,
 ⟨some 55, none, .mv (.t 54)⟩,
 ⟨some 56, some (55, false), .mv (.t 13)⟩,
 ⟨some 57, some (55, false), .mv (.t 9)⟩,
 ⟨some 58, some (55, false), .binb true (.t 56) (.t 57)⟩,
 ⟨some 59, none, .pick (.t 55) (.c (.d (.bool true))) (.t 58)⟩]) (
 .cond (.t 59) (
 .seq (
 .reg [⟨some 6, none, .mv (.c (.d (.bool false)))⟩]) (
 .ret)) (
 .skip))) (
 .seq (
 .seq (
 .draw [⟨some 60, none, .ldn 3 (.t 10)⟩,
 ⟨some 61, none, .ldn 3 (.t 4)⟩,
 ⟨some 62, none, .call 31 [(.t 61)]⟩]
 [⟨some 63, none, .call 33 [(.t 60), (.t 62)]⟩,
 ⟨some 64, none, .not (.t 63)⟩]) (
 .cond (.t 64) (
 .seq (
 .reg [⟨some 6, none, .mv (.c (.d (.bool false)))⟩]) (
 .ret)) (
 .skip))) (
 .seq (
 .seq (
 .draw [⟨some 65, none, .ldn 3 (.t 11)⟩,
 ⟨some 66, none, .ldn 3 (.t 5)⟩,
 ⟨some 67, none, .call 31 [(.t 66)]⟩]
 [⟨some 68, none, .call 33 [(.t 65), (.t 67)]⟩,
 ⟨some 69, none, .not (.t 68)⟩]) (
 .cond (.t 69) (
 .seq (
 .reg [⟨some 6, none, .mv (.c (.d (.bool false)))⟩]) (
 .ret)) (
 .skip))) (
 .seq (
 .reg [⟨some 14, none, .mv (.c (.d (.int 1)))⟩]) (
 .seq (
 .reg [⟨some 70, none, .ldn 3 (.t 10)⟩,
 ⟨some 71, none, .mv (.t 14)⟩,
 ⟨some 72, none, .call 34 [(.t 70), (.t 71)]⟩,
 ⟨some 14, none, .mv (.t 72)⟩]) (
 .seq (
 .reg [⟨some 73, none, .ldn 3 (.t 11)⟩,
 ⟨some 74, none, .mv (.t 14)⟩,
 ⟨some 75, none, .call 34 [(.t 73), (.t 74)]⟩,
 ⟨some 14, none, .mv (.t 75)⟩]) (
 .seq (
 .seq (
 .reg [⟨some 76, none, .mv (.t 14)⟩,
 ⟨some 77, none, .bin .lss (.t 76) (.c (.d (.int 0)))⟩,
 ⟨some 78, none, .mv (.t 77)⟩,
 ⟨some 79, some (78, false), .ldn 3 (.t 12)⟩,
 ⟨some 80, some (78, false), .ldn 3 (.t 8)⟩,
 ⟨some 81, some (78, false), .call 33 [(.t 79), (.t 80)]⟩,
 ⟨some 82, some (78, false), .not (.t 81)⟩,
 ⟨some 83, none, .pick (.t 78) (.c (.d (.bool true))) (.t 82)⟩,
 ⟨some 84, none, .mv (.t 83)⟩,
 ⟨some 85, some (84, false), .mv (.t 13)⟩,
 ⟨some 86, some (84, false), .mv (.t 9)⟩,
 ⟨some 87, some (84, false), .binb true (.t 85) (.t 86)⟩,
 ⟨some 88, none, .pick (.t 84) (.c (.d (.bool true))) (.t 87)⟩]) (
 .cond (.t 88) (
 .seq (
 .reg [⟨some 6, none, .mv (.c (.d (.bool false)))⟩]) (
 .ret)) (
 .skip))) (
 .seq (
 .reg [⟨some 15, none, .mv (.c (.d (.int 1)))⟩]) (
 .seq (
 .reg [⟨some 89, none, .ldn 3 (.t 12)⟩,
 ⟨some 90, none, .mv (.t 15)⟩,
 ⟨some 91, none, .call 34 [(.t 89), (.t 90)]⟩,
 ⟨some 15, none, .mv (.t 91)⟩]) (
 .seq (
 .reg [⟨some 16, none, .mv (.c (.d (.int 1)))⟩]) (
 .seq (
 .reg [⟨some 92, none, .ldn 3 (.t 12)⟩,
 ⟨some 93, none, .mv (.t 16)⟩,
 ⟨some 94, none, .call 35 [(.t 92), (.t 93)]⟩,
 ⟨some 16, none, .mv (.t 94)⟩]) (
 .seq (
 .seq (
 .reg [⟨some 95, none, .mv (.t 16)⟩,
 ⟨some 96, none, .bin .lss (.t 95) (.c (.d (.int 0)))⟩]) (
 .cond (.t 96) (
 .seq (
 .reg [⟨some 6, none, .mv (.c (.d (.bool false)))⟩]) (
 .ret)) (
 .skip))) (
 .seq (
 .seq (
 .reg [⟨some 97, none, .mv (.t 16)⟩,
 ⟨some 98, none, .mv (.t 15)⟩,
 ⟨some 99, none, .bin .neq (.t 97) (.t 98)⟩]) (
 .cond (.t 99) (
 .seq (
 .reg [⟨some 6, none, .mv (.c (.d (.bool false)))⟩]) (
 .ret)) (
 .skip))) (
 .seq (
 .draw [⟨some 101, none, .ldn 3 (.t 3)⟩,
 ⟨some 102, none, .call 30 [(.t 101)]⟩,
 ⟨some 103, none, .ldn 3 (.t 4)⟩,
 ⟨some 104, none, .call 31 [(.t 103)]⟩,
 ⟨some 105, none, .ldn 3 (.t 5)⟩,
 ⟨some 106, none, .call 31 [(.t 105)]⟩,
 ⟨some 107, none, .call 32 [(.t 102), (.t 104), (.t 106)]⟩,
 ⟨some 100, none, .mv (.t 107)⟩,
 ⟨some 108, none, .ext 0 (.t 100)⟩,
 ⟨some 109, none, .ext 1 (.t 100)⟩,
 ⟨some 17, none, .zer [.nil, .nil, .nil]⟩]
 [⟨none, none, .st 3 (.t 17) (.t 108)⟩,
 ⟨some 18, none, .mv (.t 109)⟩]) (
 .seq (
 .seq (
 .reg [⟨some 110, none, .ldn 3 (.t 17)⟩,
 ⟨some 111, none, .ldn 3 (.t 8)⟩,
 ⟨some 112, none, .call 33 [(.t 110), (.t 111)]⟩,
 ⟨some 113, none, .not (.t 112)⟩,
 ⟨some 114, none, .mv (.t 113)⟩,
 ⟨some 115, some (114, false), .mv (.t 18)⟩,
 ⟨some 116, some (114, false), .mv (.t 9)⟩,
 ⟨some 117, some (114, false), .binb true (.t 115) (.t 116)⟩,
 ⟨some 118, none, .pick (.t 114) (.c (.d (.bool true))) (.t 117)⟩]) (
 .cond (.t 118) (
 .seq (
 .reg [⟨some 6, none, .mv (.c (.d (.bool false)))⟩]) (
 .ret)) (
 .skip))) (
 .seq (
 .reg [⟨some 16, none, .mv (.c (.d (.int 1)))⟩]) (
 .seq (
 .reg [⟨some 119, none, .ldn 3 (.t 12)⟩,
 ⟨some 120, none, .mv (.t 16)⟩,
 ⟨some 121, none, .call 35 [(.t 119), (.t 120)]⟩,
 ⟨some 16, none, .mv (.t 121)⟩]) (
 .seq (
 .seq (
 .reg [⟨some 122, none, .mv (.t 16)⟩,
 ⟨some 123, none, .bin .lss (.t 122) (.c (.d (.int 0)))⟩]) (
 .cond (.t 123) (
 .seq (
 .reg [⟨some 6, none, .mv (.c (.d (.bool false)))⟩]) (
 .ret)) (
 .skip))) (
 .seq (
 .seq (
 .reg [⟨some 124, none, .mv (.t 16)⟩,
 ⟨some 125, none, .mv (.t 15)⟩,
 ⟨some 126, none, .bin .neq (.t 124) (.t 125)⟩]) (
 .cond (.t 126) (
 .seq (
 .reg [⟨some 6, none, .mv (.c (.d (.bool false)))⟩]) (
 .ret)) (
 .skip))) (
 .seq (
 .reg [⟨some 6, none, .mv (.c (.d (.bool true)))⟩]) (
 .ret)))))))))))))))))))))))))))))),
 [.t 6]⟩

theorem k_laws_FnExactMultiplyTensors : cFun Try.prog Try.f6 = some C_laws_FnExactMultiplyTensors.erase := by kernel_rfl
end Go.Proofs.Ytcgnehacihjnkaa
