/-
  The compiled code of functions of the seat (written by mkcode.py). No condition.
-/
import Derived.Test.YtmgifmgdfldheaaLiftE
import Derived.Test.YtmgifmgdfldheaaProg
import Derived.KernelRfl
namespace Go.Proofs.Ytmgifmgdfldheaa
open Go.Lift

def C_laws_FnExactDiagonalTensor : Fun := ⟨4, 114,
 .seq (
 .reg [⟨some 4, none, .box (.t 0)⟩,
 ⟨some 5, none, .box (.t 1)⟩,
 ⟨some 8, none, .mv (.c (.d (.bool false)))⟩]) (
 .seq (
 .reg [⟨some 9, none, .mv (.c (.d (.int 1048576)))⟩]) (
 .seq (
 .reg [⟨some 20, none, .ldn 3 (.t 5)⟩,
 ⟨some 21, none, .mv (.t 9)⟩,
 ⟨some 22, none, .call 15 [(.t 20), (.t 21)]⟩,
 ⟨some 9, none, .mv (.t 22)⟩]) (
 .seq (
 .seq (
 .reg [⟨some 23, none, .mv (.t 9)⟩,
 ⟨some 24, none, .bin .lss (.t 23) (.c (.d (.int 0)))⟩]) (
 .cond (.t 24) (
 .seq (
 .reg [⟨some 8, none, .mv (.c (.d (.bool true)))⟩]) (
 .ret)) (
 .skip))) (
 .seq (
 .draw [⟨some 26, none, .ldn 3 (.t 4)⟩,
 ⟨some 27, none, .call 32 [(.t 26)]⟩,
 ⟨some 28, none, .ldn 3 (.t 5)⟩,
 ⟨some 29, none, .call 17 [(.t 28)]⟩,
 ⟨some 30, none, .mv (.t 2)⟩,
 ⟨some 31, none, .mv (.t 3)⟩,
 ⟨some 32, none, .call 45 [(.t 27), (.t 29), (.t 30), (.t 31)]⟩,
 ⟨some 25, none, .mv (.t 32)⟩,
 ⟨some 33, none, .ext 0 (.t 25)⟩,
 ⟨some 34, none, .ext 1 (.t 25)⟩,
 ⟨some 10, none, .zer [.nil, .nil, .nil]⟩]
 [⟨none, none, .st 3 (.t 10) (.t 33)⟩,
 ⟨some 11, none, .mv (.t 34)⟩]) (
 .seq (
 .reg [⟨some 35, none, .ldn 3 (.t 5)⟩,
 ⟨some 36, none, .call 17 [(.t 35)]⟩,
 ⟨some 12, none, .zer [.nil, .nil, .nil]⟩,
 ⟨none, none, .st 3 (.t 12) (.t 36)⟩]) (
 .seq (
 .draw [⟨some 38, none, .ldn 3 (.t 4)⟩,
 ⟨some 39, none, .call 32 [(.t 38)]⟩,
 ⟨some 40, none, .ldn 3 (.t 12)⟩,
 ⟨some 41, none, .mv (.t 2)⟩,
 ⟨some 42, none, .mv (.t 3)⟩,
 ⟨some 43, none, .call 46 [(.t 39), (.t 40), (.t 41), (.t 42)]⟩,
 ⟨some 37, none, .mv (.t 43)⟩,
 ⟨some 44, none, .ext 0 (.t 37)⟩,
 ⟨some 45, none, .ext 1 (.t 37)⟩,
 ⟨some 13, none, .zer [.nil, .nil, .nil]⟩]
 [⟨none, none, .st 3 (.t 13) (.t 44)⟩,
 ⟨some 14, none, .mv (.t 45)⟩]) (
 .seq (
 .seq (
 .reg [⟨some 46, none, .ldn 3 (.t 13)⟩,
 ⟨some 47, none, .ldn 3 (.t 10)⟩,
 ⟨some 48, none, .call 19 [(.t 46), (.t 47)]⟩,
 ⟨some 49, none, .not (.t 48)⟩,
 ⟨some 50, none, .mv (.t 49)⟩,
 ⟨some 51, some (50, false), .mv (.t 14)⟩,
 ⟨some 52, some (50, false), .mv (.t 11)⟩,
 ⟨some 53, some (50, false), .binb true (.t 51) (.t 52)⟩,
 ⟨some 54, none, .pick (.t 50) (.c (.d (.bool true))) (.t 53)⟩]) (
 .cond (.t 54) (
 .seq (
 .reg [⟨some 8, none, .mv (.c (.d (.bool false)))⟩]) (
 .ret)) (
 .skip))) (
 .seq (
 .seq (
 .draw [⟨some 55, none, .ldn 3 (.t 12)⟩,
 ⟨some 56, none, .ldn 3 (.t 5)⟩,
 ⟨some 57, none, .call 17 [(.t 56)]⟩]
 [⟨some 58, none, .call 19 [(.t 55), (.t 57)]⟩,
 ⟨some 59, none, .not (.t 58)⟩]) (
 .cond (.t 59) (
 .seq (
 .reg [⟨some 8, none, .mv (.c (.d (.bool false)))⟩]) (
 .ret)) (
 .skip))) (
 .seq (
 .reg [⟨some 15, none, .mv (.c (.d (.int 1)))⟩]) (
 .seq (
 .reg [⟨some 60, none, .ldn 3 (.t 12)⟩,
 ⟨some 61, none, .mv (.t 15)⟩,
 ⟨some 62, none, .call 26 [(.t 60), (.t 61)]⟩,
 ⟨some 15, none, .mv (.t 62)⟩]) (
 .seq (
 .seq (
 .reg [⟨some 63, none, .mv (.t 15)⟩,
 ⟨some 64, none, .bin .lss (.t 63) (.c (.d (.int 0)))⟩,
 ⟨some 65, none, .mv (.t 64)⟩,
 ⟨some 66, some (65, false), .ldn 3 (.t 13)⟩,
 ⟨some 67, some (65, false), .ldn 3 (.t 10)⟩,
 ⟨some 68, some (65, false), .call 19 [(.t 66), (.t 67)]⟩,
 ⟨some 69, some (65, false), .not (.t 68)⟩,
 ⟨some 70, none, .pick (.t 65) (.c (.d (.bool true))) (.t 69)⟩,
 ⟨some 71, none, .mv (.t 70)⟩,
 ⟨some 72, some (71, false), .mv (.t 14)⟩,
 ⟨some 73, some (71, false), .mv (.t 11)⟩,
 ⟨some 74, some (71, false), .binb true (.t 72) (.t 73)⟩,
 ⟨some 75, none, .pick (.t 71) (.c (.d (.bool true))) (.t 74)⟩]) (
 .cond (.t 75) (
 .seq (
 .reg [⟨some 8, none, .mv (.c (.d (.bool false)))⟩]) (
 .ret)) (
 .skip))) (
 .seq (
 .reg [⟨some 16, none, .mv (.c (.d (.int 1)))⟩]) (
 .seq (
 .reg [⟨some 76, none, .ldn 3 (.t 13)⟩,
 ⟨some 77, none, .mv (.t 16)⟩,
 ⟨some 78, none, .call 26 [(.t 76), (.t 77)]⟩,
 ⟨some 16, none, .mv (.t 78)⟩]) (
 .seq (
 .reg [⟨some 17, none, .mv (.c (.d (.int 1)))⟩]) (
 .seq (
 .reg [⟨some 79, none, .ldn 3 (.t 13)⟩,
 ⟨some 80, none, .mv (.t 17)⟩,
 ⟨some 81, none, .call 38 [(.t 79), (.t 80)]⟩,
 ⟨some 17, none, .mv (.t 81)⟩]) (
 .seq (
 .seq (
 .reg [⟨some 82, none, .mv (.t 17)⟩,
 ⟨some 83, none, .bin .lss (.t 82) (.c (.d (.int 0)))⟩]) (
 .cond (.t 83) (
 .seq (
 .reg [⟨some 8, none, .mv (.c (.d (.bool false)))⟩]) (
 .ret)) (
 .skip))) (
 .seq (
 .seq (
 .reg [⟨some 84, none, .mv (.t 17)⟩,
 ⟨some 85, none, .mv (.t 16)⟩,
 ⟨some 86, none, .bin .neq (.t 84) (.t 85)⟩]) (
 .cond (.t 86) (
 .seq (
 .reg [⟨some 8, none, .mv (.c (.d (.bool false)))⟩]) (
 .ret)) (
 .skip))) (
 .seq (
 .draw [⟨some 88, none, .ldn 3 (.t 4)⟩,
 ⟨some 89, none, .call 32 [(.t 88)]⟩,
 ⟨some 90, none, .ldn 3 (.t 5)⟩,
 ⟨some 91, none, .call 17 [(.t 90)]⟩,
 ⟨some 92, none, .mv (.t 2)⟩,
 ⟨some 93, none, .mv (.t 3)⟩,
 ⟨some 94, none, .call 46 [(.t 89), (.t 91), (.t 92), (.t 93)]⟩,
 ⟨some 87, none, .mv (.t 94)⟩,
 ⟨some 95, none, .ext 0 (.t 87)⟩,
 ⟨some 96, none, .ext 1 (.t 87)⟩,
 ⟨some 18, none, .zer [.nil, .nil, .nil]⟩]
 [⟨none, none, .st 3 (.t 18) (.t 95)⟩,
 ⟨some 19, none, .mv (.t 96)⟩]) (
 .seq (
 .seq (
 .reg [⟨some 97, none, .ldn 3 (.t 18)⟩,
 ⟨some 98, none, .ldn 3 (.t 10)⟩,
 ⟨some 99, none, .call 19 [(.t 97), (.t 98)]⟩,
 ⟨some 100, none, .not (.t 99)⟩,
 ⟨some 101, none, .mv (.t 100)⟩,
 ⟨some 102, some (101, false), .mv (.t 19)⟩,
 ⟨some 103, some (101, false), .mv (.t 11)⟩,
 ⟨some 104, some (101, false), .binb true (.t 102) (.t 103)⟩,
 ⟨some 105, none, .pick (.t 101) (.c (.d (.bool true))) (.t 104)⟩]) (
 .cond (.t 105) (
 .seq (
 .reg [⟨some 8, none, .mv (.c (.d (.bool false)))⟩]) (
 .ret)) (
 .skip))) (
 .seq (
 .reg [⟨some 17, none, .mv (.c (.d (.int 1)))⟩]) (
 .seq (
 .reg [⟨some 106, none, .ldn 3 (.t 13)⟩,
 ⟨some 107, none, .mv (.t 17)⟩,
 ⟨some 108, none, .call 38 [(.t 106), (.t 107)]⟩,
 ⟨some 17, none, .mv (.t 108)⟩]) (
 .seq (
 .seq (
 .reg [⟨some 109, none, .mv (.t 17)⟩,
 ⟨some 110, none, .bin .lss (.t 109) (.c (.d (.int 0)))⟩]) (
 .cond (.t 110) (
 .seq (
 .reg [⟨some 8, none, .mv (.c (.d (.bool false)))⟩]) (
 .ret)) (
 .skip))) (
 .seq (
 .seq (
 .reg [⟨some 111, none, .mv (.t 17)⟩,
 ⟨some 112, none, .mv (.t 16)⟩,
 ⟨some 113, none, .bin .neq (.t 111) (.t 112)⟩]) (
 .cond (.t 113) (
 .seq (
 .reg [⟨some 8, none, .mv (.c (.d (.bool false)))⟩]) (
 .ret)) (
 .skip))) (
 .seq (
 .reg [⟨some 8, none, .mv (.c (.d (.bool true)))⟩]) (
 .ret))))))))))))))))))))))))),
 [.t 8]⟩

theorem k_laws_FnExactDiagonalTensor : cFun Try.prog Try.f13 = some C_laws_FnExactDiagonalTensor.erase := by kernel_rfl

end Go.Proofs.Ytmgifmgdfldheaa
