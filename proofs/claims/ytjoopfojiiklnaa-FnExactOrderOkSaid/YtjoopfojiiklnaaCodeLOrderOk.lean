/-
  The compiled code of functions of the seat (written by mkcode.py). No condition.
-/
import Derived.Test.YtjoopfojiiklnaaLiftE
import Derived.Test.YtjoopfojiiklnaaProg
import Derived.KernelRfl
namespace Go.Proofs.Ytjoopfojiiklnaa
open Go.Lift

def C_laws_FnExactOrderOk : Fun := ⟨2, 45,
 .seq (
 .reg [⟨some 2, none, .box (.t 0)⟩,
 ⟨some 4, none, .mv (.c (.d (.bool false)))⟩]) (
 .seq (
 .reg [⟨some 5, none, .mv (.c (.d (.int 1048576)))⟩]) (
 .seq (
 .reg [⟨some 10, none, .ldn 5 (.t 2)⟩,
 ⟨some 11, none, .mv (.t 5)⟩,
 ⟨some 12, none, .call 15 [(.t 10), (.t 11)]⟩,
 ⟨some 5, none, .mv (.t 12)⟩]) (
 .seq (
 .seq (
 .reg [⟨some 13, none, .mv (.t 5)⟩,
 ⟨some 14, none, .bin .lss (.t 13) (.c (.d (.int 0)))⟩]) (
 .cond (.t 14) (
 .seq (
 .reg [⟨some 4, none, .mv (.c (.d (.bool true)))⟩]) (
 .ret)) (
 .skip))) (
 .seq (
 .reg [⟨some 15, none, .mv (.t 1)⟩,
 ⟨some 16, none, .mv (.t 5)⟩,
 ⟨some 17, none, .call 39 [(.t 15), (.t 16)]⟩,
 ⟨some 5, none, .mv (.t 17)⟩]) (
 .seq (
 .seq (
 .reg [⟨some 18, none, .mv (.t 5)⟩,
 ⟨some 19, none, .bin .lss (.t 18) (.c (.d (.int 0)))⟩]) (
 .cond (.t 19) (
 .seq (
 .reg [⟨some 4, none, .mv (.c (.d (.bool true)))⟩]) (
 .ret)) (
 .skip))) (
 .seq (
 .reg [⟨some 20, none, .ldn 5 (.t 2)⟩,
 ⟨some 21, none, .call 17 [(.t 20)]⟩,
 ⟨some 22, none, .mv (.t 1)⟩,
 ⟨some 23, none, .call 41 [(.t 22)]⟩,
 ⟨some 24, none, .call 40 [(.t 21), (.t 23)]⟩,
 ⟨some 6, none, .mv (.t 24)⟩]) (
 .seq (
 .reg [⟨some 25, none, .ldn 5 (.t 2)⟩,
 ⟨some 26, none, .call 17 [(.t 25)]⟩,
 ⟨some 7, none, .zer [.d (.int 0), .d (.int 0), .d (.int 0), .nil, .nil]⟩,
 ⟨none, none, .st 5 (.t 7) (.t 26)⟩]) (
 .seq (
 .reg [⟨some 27, none, .mv (.t 1)⟩,
 ⟨some 28, none, .call 41 [(.t 27)]⟩,
 ⟨some 8, none, .mv (.t 28)⟩]) (
 .seq (
 .reg [⟨some 29, none, .ldn 5 (.t 7)⟩,
 ⟨some 30, none, .mv (.t 8)⟩,
 ⟨some 31, none, .call 42 [(.t 29), (.t 30)]⟩,
 ⟨some 9, none, .mv (.t 31)⟩]) (
 .seq (
 .seq (
 .reg [⟨some 32, none, .mv (.t 9)⟩,
 ⟨some 33, none, .mv (.t 6)⟩,
 ⟨some 34, none, .binb true (.t 32) (.t 33)⟩]) (
 .cond (.t 34) (
 .seq (
 .reg [⟨some 4, none, .mv (.c (.d (.bool false)))⟩]) (
 .ret)) (
 .skip))) (
 .seq (
 .seq (
 .draw [⟨some 35, none, .ldn 5 (.t 7)⟩,
 ⟨some 36, none, .ldn 5 (.t 2)⟩,
 ⟨some 37, none, .call 17 [(.t 36)]⟩]
 [⟨some 38, none, .call 19 [(.t 35), (.t 37)]⟩,
 ⟨some 39, none, .not (.t 38)⟩]) (
 .cond (.t 39) (
 .seq (
 .reg [⟨some 4, none, .mv (.c (.d (.bool false)))⟩]) (
 .ret)) (
 .skip))) (
 .seq (
 .seq (
 .reg [⟨some 40, none, .mv (.t 8)⟩,
 ⟨some 41, none, .mv (.t 1)⟩,
 ⟨some 42, none, .call 41 [(.t 41)]⟩,
 ⟨some 43, none, .call 28 [(.t 40), (.t 42)]⟩,
 ⟨some 44, none, .not (.t 43)⟩]) (
 .cond (.t 44) (
 .seq (
 .reg [⟨some 4, none, .mv (.c (.d (.bool false)))⟩]) (
 .ret)) (
 .skip))) (
 .seq (
 .reg [⟨some 4, none, .mv (.c (.d (.bool true)))⟩]) (
 .ret)))))))))))))),
 [.t 4]⟩

theorem k_laws_FnExactOrderOk : cFun Try.prog Try.f9 = some C_laws_FnExactOrderOk.erase := by kernel_rfl

end Go.Proofs.Ytjoopfojiiklnaa
