/-
  The compiled code of functions of the seat (written by mkcode.py). No condition.
-/
import Derived.Test.YtcgnehacihjnkaaLiftE
import Derived.Test.YtcgnehacihjnkaaProg
import Derived.KernelRfl
namespace Go.Proofs.Ytcgnehacihjnkaa
open Go.Lift

def C_laws_FnExactMinDegreeOrder : Fun := ⟨1, 69,
 .seq (
 .reg [⟨some 1, none, .box (.t 0)⟩,
 ⟨some 2, none, .mv (.c (.d (.bool false)))⟩]) (
 .seq (
 .reg [⟨some 3, none, .mv (.c (.d (.int 1048576)))⟩]) (
 .seq (
 .reg [⟨some 11, none, .ldn 5 (.t 1)⟩,
 ⟨some 12, none, .mv (.t 3)⟩,
 ⟨some 13, none, .call 14 [(.t 11), (.t 12)]⟩,
 ⟨some 3, none, .mv (.t 13)⟩]) (
 .seq (
 .seq (
 .reg [⟨some 14, none, .mv (.t 3)⟩,
 ⟨some 15, none, .bin .lss (.t 14) (.c (.d (.int 0)))⟩]) (
 .cond (.t 15) (
 .seq (
 .reg [⟨some 2, none, .mv (.c (.d (.bool true)))⟩]) (
 .ret)) (
 .skip))) (
 .seq (
 .reg [⟨some 16, none, .ldn 5 (.t 1)⟩,
 ⟨some 17, none, .call 16 [(.t 16)]⟩,
 ⟨some 18, none, .call 43 [(.t 17)]⟩,
 ⟨some 4, none, .mv (.t 18)⟩]) (
 .seq (
 .reg [⟨some 19, none, .ldn 5 (.t 1)⟩,
 ⟨some 20, none, .call 16 [(.t 19)]⟩,
 ⟨some 5, none, .zer [.d (.int 0), .d (.int 0), .d (.int 0), .nil, .nil]⟩,
 ⟨none, none, .st 5 (.t 5) (.t 20)⟩]) (
 .seq (
 .reg [⟨some 21, none, .ldn 5 (.t 5)⟩,
 ⟨some 22, none, .call 44 [(.t 21)]⟩,
 ⟨some 6, none, .mv (.t 22)⟩]) (
 .seq (
 .seq (
 .reg [⟨some 23, none, .mv (.t 6)⟩,
 ⟨some 24, none, .mv (.t 4)⟩,
 ⟨some 25, none, .call 20 [(.t 23), (.t 24)]⟩,
 ⟨some 26, none, .not (.t 25)⟩]) (
 .cond (.t 26) (
 .seq (
 .reg [⟨some 2, none, .mv (.c (.d (.bool false)))⟩]) (
 .ret)) (
 .skip))) (
 .seq (
 .seq (
 .draw [⟨some 27, none, .ldn 5 (.t 5)⟩,
 ⟨some 28, none, .ldn 5 (.t 1)⟩,
 ⟨some 29, none, .call 16 [(.t 28)]⟩]
 [⟨some 30, none, .call 19 [(.t 27), (.t 29)]⟩,
 ⟨some 31, none, .not (.t 30)⟩]) (
 .cond (.t 31) (
 .seq (
 .reg [⟨some 2, none, .mv (.c (.d (.bool false)))⟩]) (
 .ret)) (
 .skip))) (
 .seq (
 .reg [⟨some 7, none, .mv (.c (.d (.int 1)))⟩]) (
 .seq (
 .reg [⟨some 32, none, .ldn 5 (.t 5)⟩,
 ⟨some 33, none, .mv (.t 7)⟩,
 ⟨some 34, none, .call 21 [(.t 32), (.t 33)]⟩,
 ⟨some 7, none, .mv (.t 34)⟩]) (
 .seq (
 .seq (
 .reg [⟨some 35, none, .mv (.t 7)⟩,
 ⟨some 36, none, .bin .lss (.t 35) (.c (.d (.int 0)))⟩,
 ⟨some 37, none, .mv (.t 36)⟩,
 ⟨some 38, some (37, false), .mv (.t 6)⟩,
 ⟨some 39, some (37, false), .mv (.t 4)⟩,
 ⟨some 40, some (37, false), .call 20 [(.t 38), (.t 39)]⟩,
 ⟨some 41, some (37, false), .not (.t 40)⟩,
 ⟨some 42, none, .pick (.t 37) (.c (.d (.bool true))) (.t 41)⟩]) (
 .cond (.t 42) (
 .seq (
 .reg [⟨some 2, none, .mv (.c (.d (.bool false)))⟩]) (
 .ret)) (
 .skip))) (
 .seq (
 .reg [⟨some 8, none, .mv (.c (.d (.int 1)))⟩]) (
 .seq (
 .reg [⟨some 43, none, .mv (.t 6)⟩,
 ⟨some 44, none, .mv (.t 8)⟩,
 ⟨some 45, none, .call 22 [(.t 43), (.t 44)]⟩,
 ⟨some 8, none, .mv (.t 45)⟩]) (
 .seq (
 .reg [⟨some 9, none, .mv (.c (.d (.int 1)))⟩]) (
 .seq (
 .reg [⟨some 46, none, .mv (.t 6)⟩,
 ⟨some 47, none, .mv (.t 9)⟩,
 ⟨some 48, none, .call 45 [(.t 46), (.t 47)]⟩,
 ⟨some 9, none, .mv (.t 48)⟩]) (
 .seq (
 .seq (
 .reg [⟨some 49, none, .mv (.t 9)⟩,
 ⟨some 50, none, .bin .lss (.t 49) (.c (.d (.int 0)))⟩]) (
 .cond (.t 50) (
 .seq (
 .reg [⟨some 2, none, .mv (.c (.d (.bool false)))⟩]) (
 .ret)) (
 .skip))) (
 .seq (
 .seq (
 .reg [⟨some 51, none, .mv (.t 9)⟩,
 ⟨some 52, none, .mv (.t 8)⟩,
 ⟨some 53, none, .bin .neq (.t 51) (.t 52)⟩]) (
 .cond (.t 53) (
 .seq (
 .reg [⟨some 2, none, .mv (.c (.d (.bool false)))⟩]) (
 .ret)) (
 .skip))) (
 .seq (
 .reg [⟨some 54, none, .ldn 5 (.t 1)⟩,
 ⟨some 55, none, .call 16 [(.t 54)]⟩,
 ⟨some 56, none, .call 44 [(.t 55)]⟩,
 ⟨some 10, none, .mv (.t 56)⟩]) (
 .seq (
 .seq (
 .reg [⟨some 57, none, .mv (.t 10)⟩,
 ⟨some 58, none, .mv (.t 4)⟩,
 ⟨some 59, none, .call 20 [(.t 57), (.t 58)]⟩,
 ⟨some 60, none, .not (.t 59)⟩]) (
 .cond (.t 60) (
 .seq (
 .reg [⟨some 2, none, .mv (.c (.d (.bool false)))⟩]) (
 .ret)) (
 .skip))) (
 .seq (
 .reg [⟨some 9, none, .mv (.c (.d (.int 1)))⟩]) (
 .seq (
 .reg [⟨some 61, none, .mv (.t 6)⟩,
 ⟨some 62, none, .mv (.t 9)⟩,
 ⟨some 63, none, .call 45 [(.t 61), (.t 62)]⟩,
 ⟨some 9, none, .mv (.t 63)⟩]) (
 .seq (
 .seq (
 .reg [⟨some 64, none, .mv (.t 9)⟩,
 ⟨some 65, none, .bin .lss (.t 64) (.c (.d (.int 0)))⟩]) (
 .cond (.t 65) (
 .seq (
 .reg [⟨some 2, none, .mv (.c (.d (.bool false)))⟩]) (
 .ret)) (
 .skip))) (
 .seq (
 .seq (
 .reg [⟨some 66, none, .mv (.t 9)⟩,
 ⟨some 67, none, .mv (.t 8)⟩,
 ⟨some 68, none, .bin .neq (.t 66) (.t 67)⟩]) (
 .cond (.t 68) (
 .seq (
 .reg [⟨some 2, none, .mv (.c (.d (.bool false)))⟩]) (
 .ret)) (
 .skip))) (
 .seq (
 .reg [⟨some 2, none, .mv (.c (.d (.bool true)))⟩]) (
 .ret))))))))))))))))))))))))),
 [.t 2]⟩

theorem k_laws_FnExactMinDegreeOrder : cFun Try.prog Try.f9 = some C_laws_FnExactMinDegreeOrder.erase := by kernel_rfl

end Go.Proofs.Ytcgnehacihjnkaa
