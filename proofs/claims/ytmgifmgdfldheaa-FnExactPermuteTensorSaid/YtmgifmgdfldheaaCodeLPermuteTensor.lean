/-
  The compiled code of functions of the seat (written by mkcode.py). No condition.
-/
import Derived.Test.YtmgifmgdfldheaaLiftE
import Derived.Test.YtmgifmgdfldheaaProg
import Derived.KernelRfl
namespace Go.Proofs.Ytmgifmgdfldheaa
open Go.Lift

def C_laws_FnExactPermuteTensor : Fun := ⟨3, 125,
 .seq (
 .reg [⟨some 3, none, .box (.t 0)⟩,
 ⟨some 4, none, .box (.t 1)⟩,
 ⟨some 6, none, .mv (.c (.d (.bool false)))⟩]) (
 .seq (
 .seq (
 .reg [⟨some 19, none, .mv (.t 2)⟩,
 ⟨some 20, none, .len (.t 19)⟩,
 ⟨some 21, none, .bin .gtr (.t 20) (.c (.d (.int 1048576)))⟩]) (
 .cond (.t 21) (
 .seq (
 .reg [⟨some 6, none, .mv (.c (.d (.bool true)))⟩]) (
 .ret)) (
 .skip))) (
 .seq (
 .reg [⟨some 7, none, .mv (.c (.d (.int 1048576)))⟩]) (
 .seq (
 .reg [⟨some 22, none, .ldn 3 (.t 4)⟩,
 ⟨some 23, none, .mv (.t 7)⟩,
 ⟨some 24, none, .call 15 [(.t 22), (.t 23)]⟩,
 ⟨some 7, none, .mv (.t 24)⟩]) (
 .seq (
 .seq (
 .reg [⟨some 25, none, .mv (.t 7)⟩,
 ⟨some 26, none, .bin .lss (.t 25) (.c (.d (.int 0)))⟩]) (
 .cond (.t 26) (
 .seq (
 .reg [⟨some 6, none, .mv (.c (.d (.bool true)))⟩]) (
 .ret)) (
 .skip))) (
 .seq (
 .draw [⟨some 28, none, .ldn 3 (.t 3)⟩,
 ⟨some 29, none, .call 32 [(.t 28)]⟩,
 ⟨some 30, none, .ldn 3 (.t 4)⟩,
 ⟨some 31, none, .call 17 [(.t 30)]⟩,
 ⟨some 32, none, .mv (.t 2)⟩,
 ⟨some 33, none, .call 21 [(.t 32)]⟩,
 ⟨some 34, none, .call 47 [(.t 29), (.t 31), (.t 33)]⟩,
 ⟨some 27, none, .mv (.t 34)⟩,
 ⟨some 35, none, .ext 0 (.t 27)⟩,
 ⟨some 36, none, .ext 1 (.t 27)⟩,
 ⟨some 8, none, .zer [.nil, .nil, .nil]⟩]
 [⟨none, none, .st 3 (.t 8) (.t 35)⟩,
 ⟨some 9, none, .mv (.t 36)⟩]) (
 .seq (
 .reg [⟨some 37, none, .ldn 3 (.t 4)⟩,
 ⟨some 38, none, .call 17 [(.t 37)]⟩,
 ⟨some 10, none, .zer [.nil, .nil, .nil]⟩,
 ⟨none, none, .st 3 (.t 10) (.t 38)⟩]) (
 .seq (
 .reg [⟨some 39, none, .mv (.t 2)⟩,
 ⟨some 40, none, .call 21 [(.t 39)]⟩,
 ⟨some 11, none, .mv (.t 40)⟩]) (
 .seq (
 .draw [⟨some 42, none, .ldn 3 (.t 3)⟩,
 ⟨some 43, none, .call 32 [(.t 42)]⟩,
 ⟨some 44, none, .ldn 3 (.t 10)⟩,
 ⟨some 45, none, .mv (.t 11)⟩,
 ⟨some 46, none, .call 48 [(.t 43), (.t 44), (.t 45)]⟩,
 ⟨some 41, none, .mv (.t 46)⟩,
 ⟨some 47, none, .ext 0 (.t 41)⟩,
 ⟨some 48, none, .ext 1 (.t 41)⟩,
 ⟨some 12, none, .zer [.nil, .nil, .nil]⟩]
 [⟨none, none, .st 3 (.t 12) (.t 47)⟩,
 ⟨some 13, none, .mv (.t 48)⟩]) (
 .seq (
 .seq (
 .reg [⟨some 49, none, .ldn 3 (.t 12)⟩,
 ⟨some 50, none, .ldn 3 (.t 8)⟩,
 ⟨some 51, none, .call 19 [(.t 49), (.t 50)]⟩,
 ⟨some 52, none, .not (.t 51)⟩,
 ⟨some 53, none, .mv (.t 52)⟩,
 ⟨some 54, some (53, false), .mv (.t 13)⟩,
 ⟨some 55, some (53, false), .mv (.t 9)⟩,
 ⟨some 56, some (53, false), .binb true (.t 54) (.t 55)⟩,
 ⟨some 57, none, .pick (.t 53) (.c (.d (.bool true))) (.t 56)⟩]) (
 .cond (.t 57) (
 .seq (
 .reg [⟨some 6, none, .mv (.c (.d (.bool false)))⟩]) (
 .ret)) (
 .skip))) (
 .seq (
 .seq (
 .draw [⟨some 58, none, .ldn 3 (.t 10)⟩,
 ⟨some 59, none, .ldn 3 (.t 4)⟩,
 ⟨some 60, none, .call 17 [(.t 59)]⟩]
 [⟨some 61, none, .call 19 [(.t 58), (.t 60)]⟩,
 ⟨some 62, none, .not (.t 61)⟩]) (
 .cond (.t 62) (
 .seq (
 .reg [⟨some 6, none, .mv (.c (.d (.bool false)))⟩]) (
 .ret)) (
 .skip))) (
 .seq (
 .seq (
 .reg [⟨some 63, none, .mv (.t 11)⟩,
 ⟨some 64, none, .mv (.t 2)⟩,
 ⟨some 65, none, .call 21 [(.t 64)]⟩,
 ⟨some 66, none, .call 23 [(.t 63), (.t 65)]⟩,
 ⟨some 67, none, .not (.t 66)⟩]) (
 .cond (.t 67) (
 .seq (
 .reg [⟨some 6, none, .mv (.c (.d (.bool false)))⟩]) (
 .ret)) (
 .skip))) (
 .seq (
 .reg [⟨some 14, none, .mv (.c (.d (.int 1)))⟩]) (
 .seq (
 .reg [⟨some 68, none, .ldn 3 (.t 10)⟩,
 ⟨some 69, none, .mv (.t 14)⟩,
 ⟨some 70, none, .call 26 [(.t 68), (.t 69)]⟩,
 ⟨some 14, none, .mv (.t 70)⟩]) (
 .seq (
 .reg [⟨some 71, none, .mv (.t 11)⟩,
 ⟨some 72, none, .mv (.t 14)⟩,
 ⟨some 73, none, .call 27 [(.t 71), (.t 72)]⟩,
 ⟨some 14, none, .mv (.t 73)⟩]) (
 .seq (
 .seq (
 .reg [⟨some 74, none, .mv (.t 14)⟩,
 ⟨some 75, none, .bin .lss (.t 74) (.c (.d (.int 0)))⟩,
 ⟨some 76, none, .mv (.t 75)⟩,
 ⟨some 77, some (76, false), .ldn 3 (.t 12)⟩,
 ⟨some 78, some (76, false), .ldn 3 (.t 8)⟩,
 ⟨some 79, some (76, false), .call 19 [(.t 77), (.t 78)]⟩,
 ⟨some 80, some (76, false), .not (.t 79)⟩,
 ⟨some 81, none, .pick (.t 76) (.c (.d (.bool true))) (.t 80)⟩,
 ⟨some 82, none, .mv (.t 81)⟩,
 ⟨some 83, some (82, false), .mv (.t 13)⟩,
 ⟨some 84, some (82, false), .mv (.t 9)⟩,
 ⟨some 85, some (82, false), .binb true (.t 83) (.t 84)⟩,
 ⟨some 86, none, .pick (.t 82) (.c (.d (.bool true))) (.t 85)⟩]) (
 .cond (.t 86) (
 .seq (
 .reg [⟨some 6, none, .mv (.c (.d (.bool false)))⟩]) (
 .ret)) (
 .skip))) (
 .seq (
 .reg [⟨some 15, none, .mv (.c (.d (.int 1)))⟩]) (
 .seq (
 .reg [⟨some 87, none, .ldn 3 (.t 12)⟩,
 ⟨some 88, none, .mv (.t 15)⟩,
 ⟨some 89, none, .call 26 [(.t 87), (.t 88)]⟩,
 ⟨some 15, none, .mv (.t 89)⟩]) (
 .seq (
 .reg [⟨some 16, none, .mv (.c (.d (.int 1)))⟩]) (
 .seq (
 .reg [⟨some 90, none, .ldn 3 (.t 12)⟩,
 ⟨some 91, none, .mv (.t 16)⟩,
 ⟨some 92, none, .call 38 [(.t 90), (.t 91)]⟩,
 ⟨some 16, none, .mv (.t 92)⟩]) (
 .seq (
 .seq (
 .reg [⟨some 93, none, .mv (.t 16)⟩,
 ⟨some 94, none, .bin .lss (.t 93) (.c (.d (.int 0)))⟩]) (
 .cond (.t 94) (
 .seq (
 .reg [⟨some 6, none, .mv (.c (.d (.bool false)))⟩]) (
 .ret)) (
 .skip))) (
 .seq (
 .seq (
 .reg [⟨some 95, none, .mv (.t 16)⟩,
 ⟨some 96, none, .mv (.t 15)⟩,
 ⟨some 97, none, .bin .neq (.t 95) (.t 96)⟩]) (
 .cond (.t 97) (
 .seq (
 .reg [⟨some 6, none, .mv (.c (.d (.bool false)))⟩]) (
 .ret)) (
 .skip))) (
 .seq (
 .draw [⟨some 99, none, .ldn 3 (.t 3)⟩,
 ⟨some 100, none, .call 32 [(.t 99)]⟩,
 ⟨some 101, none, .ldn 3 (.t 4)⟩,
 ⟨some 102, none, .call 17 [(.t 101)]⟩,
 ⟨some 103, none, .mv (.t 2)⟩,
 ⟨some 104, none, .call 21 [(.t 103)]⟩,
 ⟨some 105, none, .call 48 [(.t 100), (.t 102), (.t 104)]⟩,
 ⟨some 98, none, .mv (.t 105)⟩,
 ⟨some 106, none, .ext 0 (.t 98)⟩,
 ⟨some 107, none, .ext 1 (.t 98)⟩,
 ⟨some 17, none, .zer [.nil, .nil, .nil]⟩]
 [⟨none, none, .st 3 (.t 17) (.t 106)⟩,
 ⟨some 18, none, .mv (.t 107)⟩]) (
 .seq (
 .seq (
 .reg [⟨some 108, none, .ldn 3 (.t 17)⟩,
 ⟨some 109, none, .ldn 3 (.t 8)⟩,
 ⟨some 110, none, .call 19 [(.t 108), (.t 109)]⟩,
 ⟨some 111, none, .not (.t 110)⟩,
 ⟨some 112, none, .mv (.t 111)⟩,
 ⟨some 113, some (112, false), .mv (.t 18)⟩,
 ⟨some 114, some (112, false), .mv (.t 9)⟩,
 ⟨some 115, some (112, false), .binb true (.t 113) (.t 114)⟩,
 ⟨some 116, none, .pick (.t 112) (.c (.d (.bool true))) (.t 115)⟩]) (
 .cond (.t 116) (
 .seq (
 .reg [⟨some 6, none, .mv (.c (.d (.bool false)))⟩]) (
 .ret)) (
 .skip))) (
 .seq (
 .reg [⟨some 16, none, .mv (.c (.d (.int 1)))⟩]) (
 .seq (
 .reg [⟨some 117, none, .ldn 3 (.t 12)⟩,
 ⟨some 118, none, .mv (.t 16)⟩,
 ⟨some 119, none, .call 38 [(.t 117), (.t 118)]⟩,
 ⟨some 16, none, .mv (.t 119)⟩]) (
 .seq (
 .seq (
 .reg [⟨some 120, none, .mv (.t 16)⟩,
 ⟨some 121, none, .bin .lss (.t 120) (.c (.d (.int 0)))⟩]) (
 .cond (.t 121) (
 .seq (
 .reg [⟨some 6, none, .mv (.c (.d (.bool false)))⟩]) (
 .ret)) (
 .skip))) (
 .seq (
 .seq (
 .reg [⟨some 122, none, .mv (.t 16)⟩,
 ⟨some 123, none, .mv (.t 15)⟩,
 ⟨some 124, none, .bin .neq (.t 122) (.t 123)⟩]) (
 .cond (.t 124) (
 .seq (
 .reg [⟨some 6, none, .mv (.c (.d (.bool false)))⟩]) (
 .ret)) (
 .skip))) (
 .seq (
 .reg [⟨some 6, none, .mv (.c (.d (.bool true)))⟩]) (
 .ret))))))))))))))))))))))))))))),
 [.t 6]⟩

theorem k_laws_FnExactPermuteTensor : cFun Try.prog Try.f14 = some C_laws_FnExactPermuteTensor.erase := by kernel_rfl

end Go.Proofs.Ytmgifmgdfldheaa
