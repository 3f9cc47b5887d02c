/-
  The compiled code of functions of the seat (written by mkcode.py). No condition.
-/
import Derived.Test.YtcgnehacihjnkaaLiftE
import Derived.Test.YtcgnehacihjnkaaProg
import Derived.KernelRfl
namespace Go.Proofs.Ytcgnehacihjnkaa
open Go.Lift

def C_laws_FnExactBestWidth : Fun := ⟨1, 27,
 .seq (
 .reg [⟨some 1, none, .box (.t 0)⟩,
 ⟨some 2, none, .mv (.c (.d (.bool false)))⟩]) (
 .seq (
 .reg [⟨some 3, none, .mv (.c (.d (.int 1048576)))⟩]) (
 .seq (
 .reg [⟨some 7, none, .ldn 5 (.t 1)⟩,
 ⟨some 8, none, .mv (.t 3)⟩,
 ⟨some 9, none, .call 14 [(.t 7), (.t 8)]⟩,
 ⟨some 3, none, .mv (.t 9)⟩]) (
 .seq (
 .seq (
 .reg [⟨some 10, none, .mv (.t 3)⟩,
 ⟨some 11, none, .bin .lss (.t 10) (.c (.d (.int 0)))⟩]) (
 .cond (.t 11) (
 .seq (
 .reg [⟨some 2, none, .mv (.c (.d (.bool true)))⟩]) (
 .ret)) (
 .skip))) (
 .seq (
 .reg [⟨some 12, none, .ldn 5 (.t 1)⟩,
 ⟨some 13, none, .call 16 [(.t 12)]⟩,
 ⟨some 14, none, .call 36 [(.t 13)]⟩,
 ⟨some 4, none, .mv (.t 14)⟩]) (
 .seq (
 .reg [⟨some 15, none, .ldn 5 (.t 1)⟩,
 ⟨some 16, none, .call 16 [(.t 15)]⟩,
 ⟨some 5, none, .zer [.d (.int 0), .d (.int 0), .d (.int 0), .nil, .nil]⟩,
 ⟨none, none, .st 5 (.t 5) (.t 16)⟩]) (
 .seq (
 .reg [⟨some 17, none, .ldn 5 (.t 5)⟩,
 ⟨some 18, none, .call 37 [(.t 17)]⟩,
 ⟨some 6, none, .mv (.t 18)⟩]) (
 .seq (
 .seq (
 .reg [⟨some 19, none, .mv (.t 6)⟩,
 ⟨some 20, none, .mv (.t 4)⟩,
 ⟨some 21, none, .bin .neq (.t 19) (.t 20)⟩]) (
 .cond (.t 21) (
 .seq (
 .reg [⟨some 2, none, .mv (.c (.d (.bool false)))⟩]) (
 .ret)) (
 .skip))) (
 .seq (
 .seq (
 .draw [⟨some 22, none, .ldn 5 (.t 5)⟩,
 ⟨some 23, none, .ldn 5 (.t 1)⟩,
 ⟨some 24, none, .call 16 [(.t 23)]⟩]
 [⟨some 25, none, .call 19 [(.t 22), (.t 24)]⟩,
 ⟨some 26, none, .not (.t 25)⟩]) (
 .cond (.t 26) (
 .seq (
 .reg [⟨some 2, none, .mv (.c (.d (.bool false)))⟩]) (
 .ret)) (
 .skip))) (
 .seq (
 .reg [⟨some 2, none, .mv (.c (.d (.bool true)))⟩]) (
 .ret)))))))))),
 [.t 2]⟩

theorem k_laws_FnExactBestWidth : cFun Try.prog Try.f7 = some C_laws_FnExactBestWidth.erase := by kernel_rfl

end Go.Proofs.Ytcgnehacihjnkaa
