/-
  The compiled code of functions of the seat (written by mkcode.py). No condition.
-/
import Derived.Test.YtbebaoibniajpaaLiftE
import Derived.Test.YtbebaoibniajpaaProg
import Derived.KernelRfl
namespace Go.Proofs.Ytbebaoibniajpaa
open Go.Lift

def C_laws_FnExactDimOf : Fun := ⟨2, 31,
 .seq (
 .reg [⟨some 2, none, .box (.t 0)⟩,
 ⟨some 4, none, .mv (.c (.d (.bool false)))⟩]) (
 .seq (
 .reg [⟨some 5, none, .mv (.c (.d (.int 1048576)))⟩]) (
 .seq (
 .reg [⟨some 9, none, .ldn 5 (.t 2)⟩,
 ⟨some 10, none, .mv (.t 5)⟩,
 ⟨some 11, none, .call 15 [(.t 9), (.t 10)]⟩,
 ⟨some 5, none, .mv (.t 11)⟩]) (
 .seq (
 .seq (
 .reg [⟨some 12, none, .mv (.t 5)⟩,
 ⟨some 13, none, .bin .lss (.t 12) (.c (.d (.int 0)))⟩]) (
 .cond (.t 13) (
 .seq (
 .reg [⟨some 4, none, .mv (.c (.d (.bool true)))⟩]) (
 .ret)) (
 .skip))) (
 .seq (
 .reg [⟨some 14, none, .ldn 5 (.t 2)⟩,
 ⟨some 15, none, .call 17 [(.t 14)]⟩,
 ⟨some 16, none, .mv (.t 1)⟩,
 ⟨some 17, none, .call 20 [(.t 15), (.t 16)]⟩,
 ⟨some 6, none, .mv (.t 17)⟩]) (
 .seq (
 .reg [⟨some 18, none, .ldn 5 (.t 2)⟩,
 ⟨some 19, none, .call 17 [(.t 18)]⟩,
 ⟨some 7, none, .zer [.d (.int 0), .d (.int 0), .d (.int 0), .nil, .nil]⟩,
 ⟨none, none, .st 5 (.t 7) (.t 19)⟩]) (
 .seq (
 .reg [⟨some 20, none, .ldn 5 (.t 7)⟩,
 ⟨some 21, none, .mv (.t 1)⟩,
 ⟨some 22, none, .call 21 [(.t 20), (.t 21)]⟩,
 ⟨some 8, none, .mv (.t 22)⟩]) (
 .seq (
 .seq (
 .reg [⟨some 23, none, .mv (.t 8)⟩,
 ⟨some 24, none, .mv (.t 6)⟩,
 ⟨some 25, none, .bin .neq (.t 23) (.t 24)⟩]) (
 .cond (.t 25) (
 .seq (
 .reg [⟨some 4, none, .mv (.c (.d (.bool false)))⟩]) (
 .ret)) (
 .skip))) (
 .seq (
 .seq (
 .draw [⟨some 26, none, .ldn 5 (.t 7)⟩,
 ⟨some 27, none, .ldn 5 (.t 2)⟩,
 ⟨some 28, none, .call 17 [(.t 27)]⟩]
 [⟨some 29, none, .call 19 [(.t 26), (.t 28)]⟩,
 ⟨some 30, none, .not (.t 29)⟩]) (
 .cond (.t 30) (
 .seq (
 .reg [⟨some 4, none, .mv (.c (.d (.bool false)))⟩]) (
 .ret)) (
 .skip))) (
 .seq (
 .reg [⟨some 4, none, .mv (.c (.d (.bool true)))⟩]) (
 .ret)))))))))),
 [.t 4]⟩

theorem k_laws_FnExactDimOf : cFun Try.prog Try.f4 = some C_laws_FnExactDimOf.erase := by kernel_rfl

end Go.Proofs.Ytbebaoibniajpaa
