/-
  The compiled code of functions of the seat (written by mkcode.py). No condition.
-/
import Derived.Test.YtbebaoibniajpaaLiftE
import Derived.Test.YtbebaoibniajpaaProg
import Derived.KernelRfl
namespace Go.Proofs.Ytbebaoibniajpaa
open Go.Lift

def C_laws_FnExactFixLabels : Fun := ⟨4, 146,
 .seq (
 .reg [⟨some 4, none, .box (.t 0)⟩,
 ⟨some 5, none, .box (.t 1)⟩,
 ⟨some 8, none, .mv (.c (.d (.bool false)))⟩]) (
 .seq (
 .seq (
 .reg [⟨some 22, none, .mv (.t 2)⟩,
 ⟨some 23, none, .len (.t 22)⟩,
 ⟨some 24, none, .bin .gtr (.t 23) (.c (.d (.int 1048576)))⟩]) (
 .cond (.t 24) (
 .seq (
 .reg [⟨some 8, none, .mv (.c (.d (.bool true)))⟩]) (
 .ret)) (
 .skip))) (
 .seq (
 .seq (
 .reg [⟨some 25, none, .mv (.t 3)⟩,
 ⟨some 26, none, .len (.t 25)⟩,
 ⟨some 27, none, .bin .gtr (.t 26) (.c (.d (.int 1048576)))⟩]) (
 .cond (.t 27) (
 .seq (
 .reg [⟨some 8, none, .mv (.c (.d (.bool true)))⟩]) (
 .ret)) (
 .skip))) (
 .seq (
 .reg [⟨some 9, none, .mv (.c (.d (.int 1048576)))⟩]) (
 .seq (
 .reg [⟨some 28, none, .ldn 3 (.t 5)⟩,
 ⟨some 29, none, .mv (.t 9)⟩,
 ⟨some 30, none, .call 24 [(.t 28), (.t 29)]⟩,
 ⟨some 9, none, .mv (.t 30)⟩]) (
 .seq (
 .seq (
 .reg [⟨some 31, none, .mv (.t 9)⟩,
 ⟨some 32, none, .bin .lss (.t 31) (.c (.d (.int 0)))⟩]) (
 .cond (.t 32) (
 .seq (
 .reg [⟨some 8, none, .mv (.c (.d (.bool true)))⟩]) (
 .ret)) (
 .skip))) (
 .seq (
 .draw [⟨some 34, none, .ldn 3 (.t 4)⟩,
 ⟨some 35, none, .call 26 [(.t 34)]⟩,
 ⟨some 36, none, .ldn 3 (.t 5)⟩,
 ⟨some 37, none, .call 27 [(.t 36)]⟩,
 ⟨some 38, none, .mv (.t 2)⟩,
 ⟨some 39, none, .call 28 [(.t 38)]⟩,
 ⟨some 40, none, .mv (.t 3)⟩,
 ⟨some 41, none, .call 28 [(.t 40)]⟩,
 ⟨some 42, none, .call 35 [(.t 35), (.t 37), (.t 39), (.t 41)]⟩,
 ⟨some 33, none, .mv (.t 42)⟩,
 ⟨some 43, none, .ext 0 (.t 33)⟩,
 ⟨some 44, none, .ext 1 (.t 33)⟩,
 ⟨some 10, none, .zer [.nil, .nil, .nil]⟩]
 [⟨none, none, .st 3 (.t 10) (.t 43)⟩,
 ⟨some 11, none, .mv (.t 44)⟩]) (
 .seq (
 .reg [⟨some 45, none, .ldn 3 (.t 5)⟩,
 ⟨some 46, none, .call 27 [(.t 45)]⟩,
 ⟨some 12, none, .zer [.nil, .nil, .nil]⟩,
 ⟨none, none, .st 3 (.t 12) (.t 46)⟩]) (
 .seq (
 .reg [⟨some 47, none, .mv (.t 2)⟩,
 ⟨some 48, none, .call 28 [(.t 47)]⟩,
 ⟨some 13, none, .mv (.t 48)⟩]) (
 .seq (
 .reg [⟨some 49, none, .mv (.t 3)⟩,
 ⟨some 50, none, .call 28 [(.t 49)]⟩,
 ⟨some 14, none, .mv (.t 50)⟩]) (
 .seq (
 .draw [⟨some 52, none, .ldn 3 (.t 4)⟩,
 ⟨some 53, none, .call 26 [(.t 52)]⟩,
 ⟨some 54, none, .ldn 3 (.t 12)⟩,
 ⟨some 55, none, .mv (.t 13)⟩,
 ⟨some 56, none, .mv (.t 14)⟩,
 ⟨some 57, none, .call 36 [(.t 53), (.t 54), (.t 55), (.t 56)]⟩,
 ⟨some 51, none, .mv (.t 57)⟩,
 ⟨some 58, none, .ext 0 (.t 51)⟩,
 ⟨some 59, none, .ext 1 (.t 51)⟩,
 ⟨some 15, none, .zer [.nil, .nil, .nil]⟩]
 [⟨none, none, .st 3 (.t 15) (.t 58)⟩,
 ⟨some 16, none, .mv (.t 59)⟩]) (
 .seq (
 .seq (
 .reg [⟨some 60, none, .ldn 3 (.t 15)⟩,
 ⟨some 61, none, .ldn 3 (.t 10)⟩,
 ⟨some 62, none, .call 30 [(.t 60), (.t 61)]⟩,
 ⟨some 63, none, .not (.t 62)⟩,
 ⟨some 64, none, .mv (.t 63)⟩,
 ⟨some 65, some (64, false), .mv (.t 16)⟩,
 ⟨some 66, some (64, false), .mv (.t 11)⟩,
 ⟨some 67, some (64, false), .binb true (.t 65) (.t 66)⟩,
 ⟨some 68, none, .pick (.t 64) (.c (.d (.bool true))) (.t 67)⟩]) (
 .cond (.t 68) (
 .seq (
 .reg [⟨some 8, none, .mv (.c (.d (.bool false)))⟩]) (
 .ret)) (
 .skip))) (
 .seq (
 .seq (
 .draw [⟨some 69, none, .ldn 3 (.t 12)⟩,
 ⟨some 70, none, .ldn 3 (.t 5)⟩,
 ⟨some 71, none, .call 27 [(.t 70)]⟩]
 [⟨some 72, none, .call 30 [(.t 69), (.t 71)]⟩,
 ⟨some 73, none, .not (.t 72)⟩]) (
 .cond (.t 73) (
 .seq (
 .reg [⟨some 8, none, .mv (.c (.d (.bool false)))⟩]) (
 .ret)) (
 .skip))) (
 .seq (
 .seq (
 .reg [⟨some 74, none, .mv (.t 13)⟩,
 ⟨some 75, none, .mv (.t 2)⟩,
 ⟨some 76, none, .call 28 [(.t 75)]⟩,
 ⟨some 77, none, .call 31 [(.t 74), (.t 76)]⟩,
 ⟨some 78, none, .not (.t 77)⟩]) (
 .cond (.t 78) (
 .seq (
 .reg [⟨some 8, none, .mv (.c (.d (.bool false)))⟩]) (
 .ret)) (
 .skip))) (
 .seq (
 .seq (
 .reg [⟨some 79, none, .mv (.t 14)⟩,
 ⟨some 80, none, .mv (.t 3)⟩,
 ⟨some 81, none, .call 28 [(.t 80)]⟩,
 ⟨some 82, none, .call 31 [(.t 79), (.t 81)]⟩,
 ⟨some 83, none, .not (.t 82)⟩]) (
 .cond (.t 83) (
 .seq (
 .reg [⟨some 8, none, .mv (.c (.d (.bool false)))⟩]) (
 .ret)) (
 .skip))) (
 .seq (
 .reg [⟨some 17, none, .mv (.c (.d (.int 1)))⟩]) (
 .seq (
 .reg [⟨some 84, none, .ldn 3 (.t 12)⟩,
 ⟨some 85, none, .mv (.t 17)⟩,
 ⟨some 86, none, .call 32 [(.t 84), (.t 85)]⟩,
 ⟨some 17, none, .mv (.t 86)⟩]) (
 .seq (
 .reg [⟨some 87, none, .mv (.t 13)⟩,
 ⟨some 88, none, .mv (.t 17)⟩,
 ⟨some 89, none, .call 33 [(.t 87), (.t 88)]⟩,
 ⟨some 17, none, .mv (.t 89)⟩]) (
 .seq (
 .reg [⟨some 90, none, .mv (.t 14)⟩,
 ⟨some 91, none, .mv (.t 17)⟩,
 ⟨some 92, none, .call 33 [(.t 90), (.t 91)]⟩,
 ⟨some 17, none, .mv (.t 92)⟩]) (
 .seq (
 .seq (
 .reg [⟨some 93, none, .mv (.t 17)⟩,
 ⟨some 94, none, .bin .lss (.t 93) (.c (.d (.int 0)))⟩,
 ⟨some 95, none, .mv (.t 94)⟩,
 ⟨some 96, some (95, false), .ldn 3 (.t 15)⟩,
 ⟨some 97, some (95, false), .ldn 3 (.t 10)⟩,
 ⟨some 98, some (95, false), .call 30 [(.t 96), (.t 97)]⟩,
 ⟨some 99, some (95, false), .not (.t 98)⟩,
 ⟨some 100, none, .pick (.t 95) (.c (.d (.bool true))) (.t 99)⟩,
 ⟨some 101, none, .mv (.t 100)⟩,
 ⟨some 102, some (101, false), .mv (.t 16)⟩,
 ⟨some 103, some (101, false), .mv (.t 11)⟩,
 ⟨some 104, some (101, false), .binb true (.t 102) (.t 103)⟩,
 ⟨some 105, none, .pick (.t 101) (.c (.d (.bool true))) (.t 104)⟩]) (
 .cond (.t 105) (
 .seq (
 .reg [⟨some 8, none, .mv (.c (.d (.bool false)))⟩]) (
 .ret)) (
 .skip))) (
 .seq (
 .reg [⟨some 18, none, .mv (.c (.d (.int 1)))⟩]) (
 .seq (
 .reg [⟨some 106, none, .ldn 3 (.t 15)⟩,
 ⟨some 107, none, .mv (.t 18)⟩,
 ⟨some 108, none, .call 32 [(.t 106), (.t 107)]⟩,
 ⟨some 18, none, .mv (.t 108)⟩]) (
 .seq (
 .reg [⟨some 19, none, .mv (.c (.d (.int 1)))⟩]) (
 .seq (
 .reg [⟨some 109, none, .ldn 3 (.t 15)⟩,
 ⟨some 110, none, .mv (.t 19)⟩,
 ⟨some 111, none, .call 34 [(.t 109), (.t 110)]⟩,
 ⟨some 19, none, .mv (.t 111)⟩]) (
 .seq (
 .seq (
 .reg [⟨some 112, none, .mv (.t 19)⟩,
 ⟨some 113, none, .bin .lss (.t 112) (.c (.d (.int 0)))⟩]) (
 .cond (.t 113) (
 .seq (
 .reg [⟨some 8, none, .mv (.c (.d (.bool false)))⟩]) (
 .ret)) (
 .skip))) (
 .seq (
 .seq (
 .reg [⟨some 114, none, .mv (.t 19)⟩,
 ⟨some 115, none, .mv (.t 18)⟩,
 ⟨some 116, none, .bin .neq (.t 114) (.t 115)⟩]) (
 .cond (.t 116) (
 .seq (
 .reg [⟨some 8, none, .mv (.c (.d (.bool false)))⟩]) (
 .ret)) (
 .skip))) (
 .seq (
 .draw [⟨some 118, none, .ldn 3 (.t 4)⟩,
 ⟨some 119, none, .call 26 [(.t 118)]⟩,
 ⟨some 120, none, .ldn 3 (.t 5)⟩,
 ⟨some 121, none, .call 27 [(.t 120)]⟩,
 ⟨some 122, none, .mv (.t 2)⟩,
 ⟨some 123, none, .call 28 [(.t 122)]⟩,
 ⟨some 124, none, .mv (.t 3)⟩,
 ⟨some 125, none, .call 28 [(.t 124)]⟩,
 ⟨some 126, none, .call 36 [(.t 119), (.t 121), (.t 123), (.t 125)]⟩,
 ⟨some 117, none, .mv (.t 126)⟩,
 ⟨some 127, none, .ext 0 (.t 117)⟩,
 ⟨some 128, none, .ext 1 (.t 117)⟩,
 ⟨some 20, none, .zer [.nil, .nil, .nil]⟩]
 [⟨none, none, .st 3 (.t 20) (.t 127)⟩,
 ⟨some 21, none, .mv (.t 128)⟩]) (
 .seq (
 .seq (
 .reg [⟨some 129, none, .ldn 3 (.t 20)⟩,
 ⟨some 130, none, .ldn 3 (.t 10)⟩,
 ⟨some 131, none, .call 30 [(.t 129), (.t 130)]⟩,
 ⟨some 132, none, .not (.t 131)⟩,
 ⟨some 133, none, .mv (.t 132)⟩,
 ⟨some 134, some (133, false), .mv (.t 21)⟩,
 ⟨some 135, some (133, false), .mv (.t 11)⟩,
 ⟨some 136, some (133, false), .binb true (.t 134) (.t 135)⟩,
 ⟨some 137, none, .pick (.t 133) (.c (.d (.bool true))) (.t 136)⟩]) (
 .cond (.t 137) (
 .seq (
 .reg [⟨some 8, none, .mv (.c (.d (.bool false)))⟩]) (
 .ret)) (
 .skip))) (
 .seq (
 .reg [⟨some 19, none, .mv (.c (.d (.int 1)))⟩]) (
 .seq (
 .reg [⟨some 138, none, .ldn 3 (.t 15)⟩,
 ⟨some 139, none, .mv (.t 19)⟩,
 ⟨some 140, none, .call 34 [(.t 138), (.t 139)]⟩,
 ⟨some 19, none, .mv (.t 140)⟩]) (
 .seq (
 .seq (
 .reg [⟨some 141, none, .mv (.t 19)⟩,
 ⟨some 142, none, .bin .lss (.t 141) (.c (.d (.int 0)))⟩]) (
 .cond (.t 142) (
 .seq (
 .reg [⟨some 8, none, .mv (.c (.d (.bool false)))⟩]) (
 .ret)) (
 .skip))) (
 .seq (
 .seq (
 .reg [⟨some 143, none, .mv (.t 19)⟩,
 ⟨some 144, none, .mv (.t 18)⟩,
 ⟨some 145, none, .bin .neq (.t 143) (.t 144)⟩]) (
 .cond (.t 145) (
 .seq (
 .reg [⟨some 8, none, .mv (.c (.d (.bool false)))⟩]) (
 .ret)) (
 .skip))) (
 .seq (
 .reg [⟨some 8, none, .mv (.c (.d (.bool true)))⟩]) (
 .ret))))))))))))))))))))))))))))))))),
 [.t 8]⟩

theorem k_laws_FnExactFixLabels : cFun Try.prog Try.f7 = some C_laws_FnExactFixLabels.erase := by kernel_rfl

end Go.Proofs.Ytbebaoibniajpaa
