/-
  The compiled code of functions of the seat (written by mkcode.py). No condition.
-/
import Derived.Test.YtcgnehacihjnkaaLiftE
import Derived.Test.YtcgnehacihjnkaaProg
import Derived.KernelRfl
namespace Go.Proofs.Ytcgnehacihjnkaa
open Go.Lift

def C_laws_FnExactEliminationWidths : Fun := ⟨2, 90,
 .seq (
 .reg [⟨some 2, none, .box (.t 0)⟩,
 ⟨some 4, none, .mv (.c (.d (.bool false)))⟩]) (
 .seq (
 .seq (
 .reg [⟨some 14, none, .mv (.t 1)⟩,
 ⟨some 15, none, .len (.t 14)⟩,
 ⟨some 16, none, .bin .gtr (.t 15) (.c (.d (.int 1048576)))⟩]) (
 .cond (.t 16) (
 .seq (
 .reg [⟨some 4, none, .mv (.c (.d (.bool true)))⟩]) (
 .ret)) (
 .skip))) (
 .seq (
 .reg [⟨some 5, none, .mv (.c (.d (.int 1048576)))⟩]) (
 .seq (
 .reg [⟨some 17, none, .ldn 5 (.t 2)⟩,
 ⟨some 18, none, .mv (.t 5)⟩,
 ⟨some 19, none, .call 14 [(.t 17), (.t 18)]⟩,
 ⟨some 5, none, .mv (.t 19)⟩]) (
 .seq (
 .seq (
 .reg [⟨some 20, none, .mv (.t 5)⟩,
 ⟨some 21, none, .bin .lss (.t 20) (.c (.d (.int 0)))⟩]) (
 .cond (.t 21) (
 .seq (
 .reg [⟨some 4, none, .mv (.c (.d (.bool true)))⟩]) (
 .ret)) (
 .skip))) (
 .seq (
 .reg [⟨some 22, none, .ldn 5 (.t 2)⟩,
 ⟨some 23, none, .call 16 [(.t 22)]⟩,
 ⟨some 24, none, .mv (.t 1)⟩,
 ⟨some 25, none, .call 17 [(.t 24)]⟩,
 ⟨some 26, none, .call 46 [(.t 23), (.t 25)]⟩,
 ⟨some 6, none, .mv (.t 26)⟩]) (
 .seq (
 .reg [⟨some 27, none, .ldn 5 (.t 2)⟩,
 ⟨some 28, none, .call 16 [(.t 27)]⟩,
 ⟨some 7, none, .zer [.d (.int 0), .d (.int 0), .d (.int 0), .nil, .nil]⟩,
 ⟨none, none, .st 5 (.t 7) (.t 28)⟩]) (
 .seq (
 .reg [⟨some 29, none, .mv (.t 1)⟩,
 ⟨some 30, none, .call 17 [(.t 29)]⟩,
 ⟨some 8, none, .mv (.t 30)⟩]) (
 .seq (
 .reg [⟨some 31, none, .ldn 5 (.t 7)⟩,
 ⟨some 32, none, .mv (.t 8)⟩,
 ⟨some 33, none, .call 47 [(.t 31), (.t 32)]⟩,
 ⟨some 9, none, .mv (.t 33)⟩]) (
 .seq (
 .seq (
 .reg [⟨some 34, none, .mv (.t 9)⟩,
 ⟨some 35, none, .mv (.t 6)⟩,
 ⟨some 36, none, .call 20 [(.t 34), (.t 35)]⟩,
 ⟨some 37, none, .not (.t 36)⟩]) (
 .cond (.t 37) (
 .seq (
 .reg [⟨some 4, none, .mv (.c (.d (.bool false)))⟩]) (
 .ret)) (
 .skip))) (
 .seq (
 .seq (
 .draw [⟨some 38, none, .ldn 5 (.t 7)⟩,
 ⟨some 39, none, .ldn 5 (.t 2)⟩,
 ⟨some 40, none, .call 16 [(.t 39)]⟩]
 [⟨some 41, none, .call 19 [(.t 38), (.t 40)]⟩,
 ⟨some 42, none, .not (.t 41)⟩]) (
 .cond (.t 42) (
 .seq (
 .reg [⟨some 4, none, .mv (.c (.d (.bool false)))⟩]) (
 .ret)) (
 .skip))) (
 .seq (
 .seq (
 .reg [⟨some 43, none, .mv (.t 8)⟩,
 ⟨some 44, none, .mv (.t 1)⟩,
 ⟨some 45, none, .call 17 [(.t 44)]⟩,
 ⟨some 46, none, .call 20 [(.t 43), (.t 45)]⟩,
 ⟨some 47, none, .not (.t 46)⟩]) (
 .cond (.t 47) (
 .seq (
 .reg [⟨some 4, none, .mv (.c (.d (.bool false)))⟩]) (
 .ret)) (
 .skip))) (
 .seq (
 .reg [⟨some 10, none, .mv (.c (.d (.int 1)))⟩]) (
 .seq (
 .reg [⟨some 48, none, .ldn 5 (.t 7)⟩,
 ⟨some 49, none, .mv (.t 10)⟩,
 ⟨some 50, none, .call 21 [(.t 48), (.t 49)]⟩,
 ⟨some 10, none, .mv (.t 50)⟩]) (
 .seq (
 .reg [⟨some 51, none, .mv (.t 8)⟩,
 ⟨some 52, none, .mv (.t 10)⟩,
 ⟨some 53, none, .call 22 [(.t 51), (.t 52)]⟩,
 ⟨some 10, none, .mv (.t 53)⟩]) (
 .seq (
 .seq (
 .reg [⟨some 54, none, .mv (.t 10)⟩,
 ⟨some 55, none, .bin .lss (.t 54) (.c (.d (.int 0)))⟩,
 ⟨some 56, none, .mv (.t 55)⟩,
 ⟨some 57, some (56, false), .mv (.t 9)⟩,
 ⟨some 58, some (56, false), .mv (.t 6)⟩,
 ⟨some 59, some (56, false), .call 20 [(.t 57), (.t 58)]⟩,
 ⟨some 60, some (56, false), .not (.t 59)⟩,
 ⟨some 61, none, .pick (.t 56) (.c (.d (.bool true))) (.t 60)⟩]) (
 .cond (.t 61) (
 .seq (
 .reg [⟨some 4, none, .mv (.c (.d (.bool false)))⟩]) (
 .ret)) (
 .skip))) (
 .seq (
 .reg [⟨some 11, none, .mv (.c (.d (.int 1)))⟩]) (
 .seq (
 .reg [⟨some 62, none, .mv (.t 9)⟩,
 ⟨some 63, none, .mv (.t 11)⟩,
 ⟨some 64, none, .call 22 [(.t 62), (.t 63)]⟩,
 ⟨some 11, none, .mv (.t 64)⟩]) (
 .seq (
 .reg [⟨some 12, none, .mv (.c (.d (.int 1)))⟩]) (
 .seq (
 .reg [⟨some 65, none, .mv (.t 9)⟩,
 ⟨some 66, none, .mv (.t 12)⟩,
 ⟨some 67, none, .call 45 [(.t 65), (.t 66)]⟩,
 ⟨some 12, none, .mv (.t 67)⟩]) (
 .seq (
 .seq (
 .reg [⟨some 68, none, .mv (.t 12)⟩,
 ⟨some 69, none, .bin .lss (.t 68) (.c (.d (.int 0)))⟩]) (
 .cond (.t 69) (
 .seq (
 .reg [⟨some 4, none, .mv (.c (.d (.bool false)))⟩]) (
 .ret)) (
 .skip))) (
 .seq (
 .seq (
 .reg [⟨some 70, none, .mv (.t 12)⟩,
 ⟨some 71, none, .mv (.t 11)⟩,
 ⟨some 72, none, .bin .neq (.t 70) (.t 71)⟩]) (
 .cond (.t 72) (
 .seq (
 .reg [⟨some 4, none, .mv (.c (.d (.bool false)))⟩]) (
 .ret)) (
 .skip))) (
 .seq (
 .reg [⟨some 73, none, .ldn 5 (.t 2)⟩,
 ⟨some 74, none, .call 16 [(.t 73)]⟩,
 ⟨some 75, none, .mv (.t 1)⟩,
 ⟨some 76, none, .call 17 [(.t 75)]⟩,
 ⟨some 77, none, .call 47 [(.t 74), (.t 76)]⟩,
 ⟨some 13, none, .mv (.t 77)⟩]) (
 .seq (
 .seq (
 .reg [⟨some 78, none, .mv (.t 13)⟩,
 ⟨some 79, none, .mv (.t 6)⟩,
 ⟨some 80, none, .call 20 [(.t 78), (.t 79)]⟩,
 ⟨some 81, none, .not (.t 80)⟩]) (
 .cond (.t 81) (
 .seq (
 .reg [⟨some 4, none, .mv (.c (.d (.bool false)))⟩]) (
 .ret)) (
 .skip))) (
 .seq (
 .reg [⟨some 12, none, .mv (.c (.d (.int 1)))⟩]) (
 .seq (
 .reg [⟨some 82, none, .mv (.t 9)⟩,
 ⟨some 83, none, .mv (.t 12)⟩,
 ⟨some 84, none, .call 45 [(.t 82), (.t 83)]⟩,
 ⟨some 12, none, .mv (.t 84)⟩]) (
 .seq (
 .seq (
 .reg [⟨some 85, none, .mv (.t 12)⟩,
 ⟨some 86, none, .bin .lss (.t 85) (.c (.d (.int 0)))⟩]) (
 .cond (.t 86) (
 .seq (
 .reg [⟨some 4, none, .mv (.c (.d (.bool false)))⟩]) (
 .ret)) (
 .skip))) (
 .seq (
 .seq (
 .reg [⟨some 87, none, .mv (.t 12)⟩,
 ⟨some 88, none, .mv (.t 11)⟩,
 ⟨some 89, none, .bin .neq (.t 87) (.t 88)⟩]) (
 .cond (.t 89) (
 .seq (
 .reg [⟨some 4, none, .mv (.c (.d (.bool false)))⟩]) (
 .ret)) (
 .skip))) (
 .seq (
 .reg [⟨some 4, none, .mv (.c (.d (.bool true)))⟩]) (
 .ret))))))))))))))))))))))))))))),
 [.t 4]⟩

theorem k_laws_FnExactEliminationWidths : cFun Try.prog Try.f10 = some C_laws_FnExactEliminationWidths.erase := by kernel_rfl

end Go.Proofs.Ytcgnehacihjnkaa
