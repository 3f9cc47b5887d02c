/-
  The compiled code of functions of the seat (written by mkcode.py). No condition.
-/
import Derived.Test.YtjncdanegoileaaLiftE
import Derived.Test.YtjncdanegoileaaProg
import Derived.KernelRfl
namespace Go.Proofs.Ytjncdanegoileaa
open Go.Lift

def C_laws_FnExactSliceNetwork : Fun := ⟨3, 106,
 .seq (
 .reg [⟨some 3, none, .box (.t 0)⟩,
 ⟨some 6, none, .mv (.c (.d (.bool false)))⟩]) (
 .seq (
 .reg [⟨some 7, none, .mv (.c (.d (.int 1048576)))⟩]) (
 .seq (
 .reg [⟨some 18, none, .ldn 5 (.t 3)⟩,
 ⟨some 19, none, .mv (.t 7)⟩,
 ⟨some 20, none, .call 18 [(.t 18), (.t 19)]⟩,
 ⟨some 7, none, .mv (.t 20)⟩]) (
 .seq (
 .seq (
 .reg [⟨some 21, none, .mv (.t 7)⟩,
 ⟨some 22, none, .bin .lss (.t 21) (.c (.d (.int 0)))⟩]) (
 .cond (.t 22) (
 .seq (
 .reg [⟨some 6, none, .mv (.c (.d (.bool true)))⟩]) (
 .ret)) (
 .skip))) (
 .seq (
 .reg [⟨some 24, none, .ldn 5 (.t 3)⟩,
 ⟨some 25, none, .call 20 [(.t 24)]⟩,
 ⟨some 26, none, .mv (.t 1)⟩,
 ⟨some 27, none, .mv (.t 2)⟩,
 ⟨some 28, none, .call 19 [(.t 25), (.t 26), (.t 27)]⟩,
 ⟨some 23, none, .mv (.t 28)⟩,
 ⟨some 29, none, .ext 0 (.t 23)⟩,
 ⟨some 30, none, .ext 1 (.t 23)⟩,
 ⟨some 8, none, .zer [.d (.int 0), .d (.int 0), .d (.int 0), .nil, .nil]⟩,
 ⟨none, none, .st 5 (.t 8) (.t 29)⟩,
 ⟨some 9, none, .mv (.t 30)⟩]) (
 .seq (
 .reg [⟨some 31, none, .ldn 5 (.t 3)⟩,
 ⟨some 32, none, .call 20 [(.t 31)]⟩,
 ⟨some 10, none, .zer [.d (.int 0), .d (.int 0), .d (.int 0), .nil, .nil]⟩,
 ⟨none, none, .st 5 (.t 10) (.t 32)⟩]) (
 .seq (
 .reg [⟨some 34, none, .ldn 5 (.t 10)⟩,
 ⟨some 35, none, .mv (.t 1)⟩,
 ⟨some 36, none, .mv (.t 2)⟩,
 ⟨some 37, none, .call 21 [(.t 34), (.t 35), (.t 36)]⟩,
 ⟨some 33, none, .mv (.t 37)⟩,
 ⟨some 38, none, .ext 0 (.t 33)⟩,
 ⟨some 39, none, .ext 1 (.t 33)⟩,
 ⟨some 11, none, .zer [.d (.int 0), .d (.int 0), .d (.int 0), .nil, .nil]⟩,
 ⟨none, none, .st 5 (.t 11) (.t 38)⟩,
 ⟨some 12, none, .mv (.t 39)⟩]) (
 .seq (
 .seq (
 .reg [⟨some 40, none, .ldn 5 (.t 11)⟩,
 ⟨some 41, none, .ldn 5 (.t 8)⟩,
 ⟨some 42, none, .call 22 [(.t 40), (.t 41)]⟩,
 ⟨some 43, none, .not (.t 42)⟩,
 ⟨some 44, none, .mv (.t 43)⟩,
 ⟨some 45, some (44, false), .mv (.t 12)⟩,
 ⟨some 46, some (44, false), .mv (.t 9)⟩,
 ⟨some 47, some (44, false), .binb true (.t 45) (.t 46)⟩,
 ⟨some 48, none, .pick (.t 44) (.c (.d (.bool true))) (.t 47)⟩]) (
 .cond (.t 48) (
 .seq (
 .reg [⟨some 6, none, .mv (.c (.d (.bool false)))⟩]) (
 .ret)) (
 .skip))) (
 .seq (
 .seq (
 .draw [⟨some 49, none, .ldn 5 (.t 10)⟩,
 ⟨some 50, none, .ldn 5 (.t 3)⟩,
 ⟨some 51, none, .call 20 [(.t 50)]⟩]
 [⟨some 52, none, .call 22 [(.t 49), (.t 51)]⟩,
 ⟨some 53, none, .not (.t 52)⟩]) (
 .cond (.t 53) (
 .seq (
 .reg [⟨some 6, none, .mv (.c (.d (.bool false)))⟩]) (
 .ret)) (
 .skip))) (
 .seq (
 .reg [⟨some 13, none, .mv (.c (.d (.int 1)))⟩]) (
 .seq (
 .reg [⟨some 54, none, .ldn 5 (.t 10)⟩,
 ⟨some 55, none, .mv (.t 13)⟩,
 ⟨some 56, none, .call 23 [(.t 54), (.t 55)]⟩,
 ⟨some 13, none, .mv (.t 56)⟩]) (
 .seq (
 .seq (
 .reg [⟨some 57, none, .mv (.t 13)⟩,
 ⟨some 58, none, .bin .lss (.t 57) (.c (.d (.int 0)))⟩,
 ⟨some 59, none, .mv (.t 58)⟩,
 ⟨some 60, some (59, false), .ldn 5 (.t 11)⟩,
 ⟨some 61, some (59, false), .ldn 5 (.t 8)⟩,
 ⟨some 62, some (59, false), .call 22 [(.t 60), (.t 61)]⟩,
 ⟨some 63, some (59, false), .not (.t 62)⟩,
 ⟨some 64, none, .pick (.t 59) (.c (.d (.bool true))) (.t 63)⟩,
 ⟨some 65, none, .mv (.t 64)⟩,
 ⟨some 66, some (65, false), .mv (.t 12)⟩,
 ⟨some 67, some (65, false), .mv (.t 9)⟩,
 ⟨some 68, some (65, false), .binb true (.t 66) (.t 67)⟩,
 ⟨some 69, none, .pick (.t 65) (.c (.d (.bool true))) (.t 68)⟩]) (
 .cond (.t 69) (
 .seq (
 .reg [⟨some 6, none, .mv (.c (.d (.bool false)))⟩]) (
 .ret)) (
 .skip))) (
 .seq (
 .reg [⟨some 14, none, .mv (.c (.d (.int 1)))⟩]) (
 .seq (
 .reg [⟨some 70, none, .ldn 5 (.t 11)⟩,
 ⟨some 71, none, .mv (.t 14)⟩,
 ⟨some 72, none, .call 23 [(.t 70), (.t 71)]⟩,
 ⟨some 14, none, .mv (.t 72)⟩]) (
 .seq (
 .reg [⟨some 15, none, .mv (.c (.d (.int 1)))⟩]) (
 .seq (
 .reg [⟨some 73, none, .ldn 5 (.t 11)⟩,
 ⟨some 74, none, .mv (.t 15)⟩,
 ⟨some 75, none, .call 24 [(.t 73), (.t 74)]⟩,
 ⟨some 15, none, .mv (.t 75)⟩]) (
 .seq (
 .seq (
 .reg [⟨some 76, none, .mv (.t 15)⟩,
 ⟨some 77, none, .bin .lss (.t 76) (.c (.d (.int 0)))⟩]) (
 .cond (.t 77) (
 .seq (
 .reg [⟨some 6, none, .mv (.c (.d (.bool false)))⟩]) (
 .ret)) (
 .skip))) (
 .seq (
 .seq (
 .reg [⟨some 78, none, .mv (.t 15)⟩,
 ⟨some 79, none, .mv (.t 14)⟩,
 ⟨some 80, none, .bin .neq (.t 78) (.t 79)⟩]) (
 .cond (.t 80) (
 .seq (
 .reg [⟨some 6, none, .mv (.c (.d (.bool false)))⟩]) (
 .ret)) (
 .skip))) (
 .seq (
 .reg [⟨some 82, none, .ldn 5 (.t 3)⟩,
 ⟨some 83, none, .call 20 [(.t 82)]⟩,
 ⟨some 84, none, .mv (.t 1)⟩,
 ⟨some 85, none, .mv (.t 2)⟩,
 ⟨some 86, none, .call 21 [(.t 83), (.t 84), (.t 85)]⟩,
 ⟨some 81, none, .mv (.t 86)⟩,
 ⟨some 87, none, .ext 0 (.t 81)⟩,
 ⟨some 88, none, .ext 1 (.t 81)⟩,
 ⟨some 16, none, .zer [.d (.int 0), .d (.int 0), .d (.int 0), .nil, .nil]⟩,
 ⟨none, none, .st 5 (.t 16) (.t 87)⟩,
 ⟨some 17, none, .mv (.t 88)⟩]) (
 .seq (
 .seq (
 .reg [⟨some 89, none, .ldn 5 (.t 16)⟩,
 ⟨some 90, none, .ldn 5 (.t 8)⟩,
 ⟨some 91, none, .call 22 [(.t 89), (.t 90)]⟩,
 ⟨some 92, none, .not (.t 91)⟩,
 ⟨some 93, none, .mv (.t 92)⟩,
 ⟨some 94, some (93, false), .mv (.t 17)⟩,
 ⟨some 95, some (93, false), .mv (.t 9)⟩,
 ⟨some 96, some (93, false), .binb true (.t 94) (.t 95)⟩,
 ⟨some 97, none, .pick (.t 93) (.c (.d (.bool true))) (.t 96)⟩]) (
 .cond (.t 97) (
 .seq (
 .reg [⟨some 6, none, .mv (.c (.d (.bool false)))⟩]) (
 .ret)) (
 .skip))) (
 .seq (
 .reg [⟨some 15, none, .mv (.c (.d (.int 1)))⟩]) (
 .seq (
 .reg [⟨some 98, none, .ldn 5 (.t 11)⟩,
 ⟨some 99, none, .mv (.t 15)⟩,
 ⟨some 100, none, .call 24 [(.t 98), (.t 99)]⟩,
 ⟨some 15, none, .mv (.t 100)⟩]) (
 .seq (
 .seq (
 .reg [⟨some 101, none, .mv (.t 15)⟩,
 ⟨some 102, none, .bin .lss (.t 101) (.c (.d (.int 0)))⟩]) (
 .cond (.t 102) (
 .seq (
 .reg [⟨some 6, none, .mv (.c (.d (.bool false)))⟩]) (
 .ret)) (
 .skip))) (
 .seq (
 .seq (
 .reg [⟨some 103, none, .mv (.t 15)⟩,
 ⟨some 104, none, .mv (.t 14)⟩,
 ⟨some 105, none, .bin .neq (.t 103) (.t 104)⟩]) (
 .cond (.t 105) (
 .seq (
 .reg [⟨some 6, none, .mv (.c (.d (.bool false)))⟩]) (
 .ret)) (
 .skip))) (
 .seq (
 .reg [⟨some 6, none, .mv (.c (.d (.bool true)))⟩]) (
 .ret))))))))))))))))))))))))),
 [.t 6]⟩

theorem k_laws_FnExactSliceNetwork : cFun Try.prog Try.f4 = some C_laws_FnExactSliceNetwork.erase := by kernel_rfl
end Go.Proofs.Ytjncdanegoileaa
