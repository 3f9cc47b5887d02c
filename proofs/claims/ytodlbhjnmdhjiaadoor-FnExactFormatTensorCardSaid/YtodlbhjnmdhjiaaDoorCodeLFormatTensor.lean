/-
  The compiled code of functions of the seat (written by mkcode.py). No condition.
-/
import Derived.Test.YtodlbhjnmdhjiaaDoorLiftK
import Derived.Test.YtodlbhjnmdhjiaaDoorProg
import Derived.KernelRfl
namespace Go.Proofs.YtodlbhjnmdhjiaaDoor
open Go.Lift

def C_laws_FnExactFormatTensor : Fun := ⟨2, 33,
 .seq (
 .reg [⟨some 2, none, .box (.t 0)⟩,
 ⟨some 3, none, .box (.t 1)⟩,
 ⟨some 4, none, .mv (.c (.d (.bool false)))⟩]) (
 .seq (
 .reg [⟨some 5, none, .mv (.c (.d (.int 1048576)))⟩]) (
 .seq (
 .reg [⟨some 9, none, .ldn 3 (.t 3)⟩,
 ⟨some 10, none, .mv (.t 5)⟩,
 ⟨some 11, none, .call 4 [(.t 9), (.t 10)]⟩,
 ⟨some 5, none, .mv (.t 11)⟩]) (
 .seq (
 .seq (
 .reg [⟨some 12, none, .mv (.t 5)⟩,
 ⟨some 13, none, .bin .lss (.t 12) (.c (.d (.int 0)))⟩]) (
 .cond (.t 13) (
 .seq (
 .reg [⟨some 4, none, .mv (.c (.d (.bool true)))⟩]) (
 .ret)) (
 .skip))) (
 .seq (
 .draw [⟨some 14, none, .ldn 3 (.t 2)⟩,
 ⟨some 15, none, .call 6 [(.t 14)]⟩,
 ⟨some 16, none, .ldn 3 (.t 3)⟩]
 [⟨some 17, none, .call 7 [(.t 16)]⟩,
 ⟨some 18, none, .call 5 [(.t 15), (.t 17)]⟩,
 ⟨some 6, none, .mv (.t 18)⟩]) (
 .seq (
 .reg [⟨some 19, none, .ldn 3 (.t 3)⟩,
 ⟨some 20, none, .call 7 [(.t 19)]⟩,
 ⟨some 7, none, .zer [.nil, .nil, .nil]⟩,
 ⟨none, none, .st 3 (.t 7) (.t 20)⟩]) (
 .seq (
 .draw [⟨some 21, none, .ldn 3 (.t 2)⟩,
 ⟨some 22, none, .call 6 [(.t 21)]⟩,
 ⟨some 23, none, .ldn 3 (.t 7)⟩]
 [⟨some 24, none, .call 8 [(.t 22), (.t 23)]⟩,
 ⟨some 8, none, .mv (.t 24)⟩]) (
 .seq (
 .seq (
 .reg [⟨some 25, none, .mv (.t 8)⟩,
 ⟨some 26, none, .mv (.t 6)⟩,
 ⟨some 27, none, .eqst true (.t 25) (.t 26)⟩]) (
 .cond (.t 27) (
 .seq (
 .reg [⟨some 4, none, .mv (.c (.d (.bool false)))⟩]) (
 .ret)) (
 .skip))) (
 .seq (
 .seq (
 .draw [⟨some 28, none, .ldn 3 (.t 7)⟩,
 ⟨some 29, none, .ldn 3 (.t 3)⟩,
 ⟨some 30, none, .call 7 [(.t 29)]⟩]
 [⟨some 31, none, .call 9 [(.t 28), (.t 30)]⟩,
 ⟨some 32, none, .not (.t 31)⟩]) (
 .cond (.t 32) (
 .seq (
 .reg [⟨some 4, none, .mv (.c (.d (.bool false)))⟩]) (
 .ret)) (
 .skip))) (
 .seq (
 .reg [⟨some 4, none, .mv (.c (.d (.bool true)))⟩]) (
 .ret)))))))))),
 [.t 4]⟩

theorem k_laws_FnExactFormatTensor : cFun Tryd.prog Tryd.f3 = some C_laws_FnExactFormatTensor.erase := by kernel_rfl

end Go.Proofs.YtodlbhjnmdhjiaaDoor
