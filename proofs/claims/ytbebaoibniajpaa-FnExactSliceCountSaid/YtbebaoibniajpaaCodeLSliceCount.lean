/-
  The compiled code of functions of the seat (written by mkcode.py). No condition.
-/
import Derived.Test.YtbebaoibniajpaaLiftE
import Derived.Test.YtbebaoibniajpaaProg
import Derived.KernelRfl
namespace Go.Proofs.Ytbebaoibniajpaa
open Go.Lift

def C_laws_FnExactSliceCount : Fun := ⟨2, 43,
 .seq (
 .reg [⟨some 2, none, .box (.t 0)⟩,
 ⟨some 4, none, .mv (.c (.d (.bool false)))⟩]) (
 .seq (
 .seq (
 .reg [⟨some 10, none, .mv (.t 1)⟩,
 ⟨some 11, none, .len (.t 10)⟩,
 ⟨some 12, none, .bin .gtr (.t 11) (.c (.d (.int 1048576)))⟩]) (
 .cond (.t 12) (
 .seq (
 .reg [⟨some 4, none, .mv (.c (.d (.bool true)))⟩]) (
 .ret)) (
 .skip))) (
 .seq (
 .reg [⟨some 5, none, .mv (.c (.d (.int 1048576)))⟩]) (
 .seq (
 .reg [⟨some 13, none, .ldn 5 (.t 2)⟩,
 ⟨some 14, none, .mv (.t 5)⟩,
 ⟨some 15, none, .call 15 [(.t 13), (.t 14)]⟩,
 ⟨some 5, none, .mv (.t 15)⟩]) (
 .seq (
 .seq (
 .reg [⟨some 16, none, .mv (.t 5)⟩,
 ⟨some 17, none, .bin .lss (.t 16) (.c (.d (.int 0)))⟩]) (
 .cond (.t 17) (
 .seq (
 .reg [⟨some 4, none, .mv (.c (.d (.bool true)))⟩]) (
 .ret)) (
 .skip))) (
 .seq (
 .reg [⟨some 18, none, .ldn 5 (.t 2)⟩,
 ⟨some 19, none, .call 17 [(.t 18)]⟩,
 ⟨some 20, none, .mv (.t 1)⟩,
 ⟨some 21, none, .call 28 [(.t 20)]⟩,
 ⟨some 22, none, .call 51 [(.t 19), (.t 21)]⟩,
 ⟨some 6, none, .mv (.t 22)⟩]) (
 .seq (
 .reg [⟨some 23, none, .ldn 5 (.t 2)⟩,
 ⟨some 24, none, .call 17 [(.t 23)]⟩,
 ⟨some 7, none, .zer [.d (.int 0), .d (.int 0), .d (.int 0), .nil, .nil]⟩,
 ⟨none, none, .st 5 (.t 7) (.t 24)⟩]) (
 .seq (
 .reg [⟨some 25, none, .mv (.t 1)⟩,
 ⟨some 26, none, .call 28 [(.t 25)]⟩,
 ⟨some 8, none, .mv (.t 26)⟩]) (
 .seq (
 .reg [⟨some 27, none, .ldn 5 (.t 7)⟩,
 ⟨some 28, none, .mv (.t 8)⟩,
 ⟨some 29, none, .call 52 [(.t 27), (.t 28)]⟩,
 ⟨some 9, none, .mv (.t 29)⟩]) (
 .seq (
 .seq (
 .reg [⟨some 30, none, .mv (.t 9)⟩,
 ⟨some 31, none, .mv (.t 6)⟩,
 ⟨some 32, none, .bin .neq (.t 30) (.t 31)⟩]) (
 .cond (.t 32) (
 .seq (
 .reg [⟨some 4, none, .mv (.c (.d (.bool false)))⟩]) (
 .ret)) (
 .skip))) (
 .seq (
 .seq (
 .draw [⟨some 33, none, .ldn 5 (.t 7)⟩,
 ⟨some 34, none, .ldn 5 (.t 2)⟩,
 ⟨some 35, none, .call 17 [(.t 34)]⟩]
 [⟨some 36, none, .call 19 [(.t 33), (.t 35)]⟩,
 ⟨some 37, none, .not (.t 36)⟩]) (
 .cond (.t 37) (
 .seq (
 .reg [⟨some 4, none, .mv (.c (.d (.bool false)))⟩]) (
 .ret)) (
 .skip))) (
 .seq (
 .seq (
 .reg [⟨some 38, none, .mv (.t 8)⟩,
 ⟨some 39, none, .mv (.t 1)⟩,
 ⟨some 40, none, .call 28 [(.t 39)]⟩,
 ⟨some 41, none, .call 31 [(.t 38), (.t 40)]⟩,
 ⟨some 42, none, .not (.t 41)⟩]) (
 .cond (.t 42) (
 .seq (
 .reg [⟨some 4, none, .mv (.c (.d (.bool false)))⟩]) (
 .ret)) (
 .skip))) (
 .seq (
 .reg [⟨some 4, none, .mv (.c (.d (.bool true)))⟩]) (
 .ret))))))))))))),
 [.t 4]⟩

theorem k_laws_FnExactSliceCount : cFun Try.prog Try.f14 = some C_laws_FnExactSliceCount.erase := by kernel_rfl

end Go.Proofs.Ytbebaoibniajpaa
