/-
  The compiled code of functions of the seat (written by mkcode.py). No condition.
-/
import Derived.Test.YtjoopfojiiklnaaLiftE
import Derived.Test.YtjoopfojiiklnaaProg
import Derived.KernelRfl
namespace Go.Proofs.Ytjoopfojiiklnaa
open Go.Lift

def C_laws_FnExactSetLabels : Fun := ⟨2, 74,
 .seq (
 .reg [⟨some 2, none, .box (.t 0)⟩,
 ⟨some 4, none, .mv (.c (.d (.bool false)))⟩]) (
 .seq (
 .reg [⟨some 5, none, .mv (.c (.d (.int 1048576)))⟩]) (
 .seq (
 .reg [⟨some 13, none, .ldn 5 (.t 2)⟩,
 ⟨some 14, none, .mv (.t 5)⟩,
 ⟨some 15, none, .call 15 [(.t 13), (.t 14)]⟩,
 ⟨some 5, none, .mv (.t 15)⟩]) (
 .seq (
 .seq (
 .reg [⟨some 16, none, .mv (.t 5)⟩,
 ⟨some 17, none, .bin .lss (.t 16) (.c (.d (.int 0)))⟩]) (
 .cond (.t 17) (
 .seq (
 .reg [⟨some 4, none, .mv (.c (.d (.bool true)))⟩]) (
 .ret)) (
 .skip))) (
 .seq (
 .reg [⟨some 18, none, .ldn 5 (.t 2)⟩,
 ⟨some 19, none, .call 17 [(.t 18)]⟩,
 ⟨some 20, none, .mv (.t 1)⟩,
 ⟨some 21, none, .call 20 [(.t 19), (.t 20)]⟩,
 ⟨some 6, none, .mv (.t 21)⟩]) (
 .seq (
 .reg [⟨some 22, none, .ldn 5 (.t 2)⟩,
 ⟨some 23, none, .call 17 [(.t 22)]⟩,
 ⟨some 7, none, .zer [.d (.int 0), .d (.int 0), .d (.int 0), .nil, .nil]⟩,
 ⟨none, none, .st 5 (.t 7) (.t 23)⟩]) (
 .seq (
 .reg [⟨some 24, none, .ldn 5 (.t 7)⟩,
 ⟨some 25, none, .mv (.t 1)⟩,
 ⟨some 26, none, .call 21 [(.t 24), (.t 25)]⟩,
 ⟨some 8, none, .mv (.t 26)⟩]) (
 .seq (
 .seq (
 .reg [⟨some 27, none, .mv (.t 8)⟩,
 ⟨some 28, none, .mv (.t 6)⟩,
 ⟨some 29, none, .call 22 [(.t 27), (.t 28)]⟩,
 ⟨some 30, none, .not (.t 29)⟩]) (
 .cond (.t 30) (
 .seq (
 .reg [⟨some 4, none, .mv (.c (.d (.bool false)))⟩]) (
 .ret)) (
 .skip))) (
 .seq (
 .seq (
 .draw [⟨some 31, none, .ldn 5 (.t 7)⟩,
 ⟨some 32, none, .ldn 5 (.t 2)⟩,
 ⟨some 33, none, .call 17 [(.t 32)]⟩]
 [⟨some 34, none, .call 19 [(.t 31), (.t 33)]⟩,
 ⟨some 35, none, .not (.t 34)⟩]) (
 .cond (.t 35) (
 .seq (
 .reg [⟨some 4, none, .mv (.c (.d (.bool false)))⟩]) (
 .ret)) (
 .skip))) (
 .seq (
 .reg [⟨some 9, none, .mv (.c (.d (.int 1)))⟩]) (
 .seq (
 .reg [⟨some 36, none, .ldn 5 (.t 7)⟩,
 ⟨some 37, none, .mv (.t 9)⟩,
 ⟨some 38, none, .call 23 [(.t 36), (.t 37)]⟩,
 ⟨some 9, none, .mv (.t 38)⟩]) (
 .seq (
 .seq (
 .reg [⟨some 39, none, .mv (.t 9)⟩,
 ⟨some 40, none, .bin .lss (.t 39) (.c (.d (.int 0)))⟩,
 ⟨some 41, none, .mv (.t 40)⟩,
 ⟨some 42, some (41, false), .mv (.t 8)⟩,
 ⟨some 43, some (41, false), .mv (.t 6)⟩,
 ⟨some 44, some (41, false), .call 22 [(.t 42), (.t 43)]⟩,
 ⟨some 45, some (41, false), .not (.t 44)⟩,
 ⟨some 46, none, .pick (.t 41) (.c (.d (.bool true))) (.t 45)⟩]) (
 .cond (.t 46) (
 .seq (
 .reg [⟨some 4, none, .mv (.c (.d (.bool false)))⟩]) (
 .ret)) (
 .skip))) (
 .seq (
 .reg [⟨some 10, none, .mv (.c (.d (.int 1)))⟩]) (
 .seq (
 .reg [⟨some 47, none, .mv (.t 8)⟩,
 ⟨some 48, none, .mv (.t 10)⟩,
 ⟨some 49, none, .call 24 [(.t 47), (.t 48)]⟩,
 ⟨some 10, none, .mv (.t 49)⟩]) (
 .seq (
 .reg [⟨some 11, none, .mv (.c (.d (.int 1)))⟩]) (
 .seq (
 .reg [⟨some 50, none, .mv (.t 8)⟩,
 ⟨some 51, none, .mv (.t 11)⟩,
 ⟨some 52, none, .call 25 [(.t 50), (.t 51)]⟩,
 ⟨some 11, none, .mv (.t 52)⟩]) (
 .seq (
 .seq (
 .reg [⟨some 53, none, .mv (.t 11)⟩,
 ⟨some 54, none, .bin .lss (.t 53) (.c (.d (.int 0)))⟩]) (
 .cond (.t 54) (
 .seq (
 .reg [⟨some 4, none, .mv (.c (.d (.bool false)))⟩]) (
 .ret)) (
 .skip))) (
 .seq (
 .seq (
 .reg [⟨some 55, none, .mv (.t 11)⟩,
 ⟨some 56, none, .mv (.t 10)⟩,
 ⟨some 57, none, .bin .neq (.t 55) (.t 56)⟩]) (
 .cond (.t 57) (
 .seq (
 .reg [⟨some 4, none, .mv (.c (.d (.bool false)))⟩]) (
 .ret)) (
 .skip))) (
 .seq (
 .reg [⟨some 58, none, .ldn 5 (.t 2)⟩,
 ⟨some 59, none, .call 17 [(.t 58)]⟩,
 ⟨some 60, none, .mv (.t 1)⟩,
 ⟨some 61, none, .call 21 [(.t 59), (.t 60)]⟩,
 ⟨some 12, none, .mv (.t 61)⟩]) (
 .seq (
 .seq (
 .reg [⟨some 62, none, .mv (.t 12)⟩,
 ⟨some 63, none, .mv (.t 6)⟩,
 ⟨some 64, none, .call 22 [(.t 62), (.t 63)]⟩,
 ⟨some 65, none, .not (.t 64)⟩]) (
 .cond (.t 65) (
 .seq (
 .reg [⟨some 4, none, .mv (.c (.d (.bool false)))⟩]) (
 .ret)) (
 .skip))) (
 .seq (
 .reg [⟨some 11, none, .mv (.c (.d (.int 1)))⟩]) (
 .seq (
 .reg [⟨some 66, none, .mv (.t 8)⟩,
 ⟨some 67, none, .mv (.t 11)⟩,
 ⟨some 68, none, .call 25 [(.t 66), (.t 67)]⟩,
 ⟨some 11, none, .mv (.t 68)⟩]) (
 .seq (
 .seq (
 .reg [⟨some 69, none, .mv (.t 11)⟩,
 ⟨some 70, none, .bin .lss (.t 69) (.c (.d (.int 0)))⟩]) (
 .cond (.t 70) (
 .seq (
 .reg [⟨some 4, none, .mv (.c (.d (.bool false)))⟩]) (
 .ret)) (
 .skip))) (
 .seq (
 .seq (
 .reg [⟨some 71, none, .mv (.t 11)⟩,
 ⟨some 72, none, .mv (.t 10)⟩,
 ⟨some 73, none, .bin .neq (.t 71) (.t 72)⟩]) (
 .cond (.t 73) (
 .seq (
 .reg [⟨some 4, none, .mv (.c (.d (.bool false)))⟩]) (
 .ret)) (
 .skip))) (
 .seq (
 .reg [⟨some 4, none, .mv (.c (.d (.bool true)))⟩]) (
 .ret))))))))))))))))))))))))),
 [.t 4]⟩

theorem k_laws_FnExactSetLabels : cFun Try.prog Try.f4 = some C_laws_FnExactSetLabels.erase := by kernel_rfl

end Go.Proofs.Ytjoopfojiiklnaa
