/-
  The compiled code of functions of the seat (written by mkcode.py). No condition.
-/
import Derived.Test.YtjoopfojiiklnaaLiftK
import Derived.Test.YtjoopfojiiklnaaProg
import Derived.KernelRfl
namespace Go.Proofs.Ytjoopfojiiklnaa
open Go.Lift

def L0_impl_startState : C :=
 .seq (
 .reg [⟨some 26, none, .bin .lss (.t 25) (.t 24)⟩]) (
 .seq (
 .cond (.t 26) (
 .skip) (
 .exit 0)) (
 .seq (
 .block 1 (
 .seq (
 .reg [⟨some 27, none, .mv (.t 25)⟩,
 ⟨some 28, none, .idx 3 (.t 23) (.t 25)⟩,
 ⟨some 29, none, .ldn 3 (.t 28)⟩,
 ⟨some 7, none, .zer [.nil, .nil, .nil]⟩,
 ⟨some 6, none, .mv (.t 27)⟩,
 ⟨none, none, .st 3 (.t 7) (.t 29)⟩]) (
 .draw [⟨some 30, none, .mv (.t 5)⟩,
 ⟨some 31, none, .mv (.t 5)⟩,
 ⟨some 32, none, .nck (.t 31)⟩,
 ⟨some 33, none, .fld 101 (.t 32)⟩,
 ⟨some 34, none, .ld (.t 33)⟩,
 ⟨some 35, none, .mv (.t 6)⟩,
 ⟨some 36, none, .fld 0 (.t 7)⟩,
 ⟨some 37, none, .ld (.t 36)⟩,
 ⟨some 38, none, .call 80 [(.t 37)]⟩,
 ⟨some 39, none, .agg [.d (.int 0), .nil] [(0, 1, (.t 35)), (1, 1, (.t 38))]⟩,
 ⟨some 40, none, .mksl 2 1 [.d (.int 0), .nil] [(0, 2, (.t 39))]⟩]
 [⟨some 41, none, .app 2 32 [.d (.int 0), .nil] (.t 34) (.t 40)⟩,
 ⟨some 42, none, .nck (.t 30)⟩,
 ⟨some 43, none, .fld 101 (.t 42)⟩,
 ⟨none, none, .st 1 (.t 43) (.t 41)⟩]))) (
 .reg [⟨some 44, none, .bin .add (.t 25) (.c (.d (.int 1)))⟩,
 ⟨some 25, none, .mv (.t 44)⟩])))

def C_impl_startState : Fun := ⟨1, 46,
 .seq (
 .reg [⟨some 1, none, .box (.t 0)⟩,
 ⟨some 2, none, .mv (.c (.any))⟩]) (
 .seq (
 .reg [⟨some 9, none, .fld 3 (.t 1)⟩,
 ⟨some 10, none, .ld (.t 9)⟩,
 ⟨some 11, none, .call 114 [(.t 10)]⟩,
 ⟨some 8, none, .mv (.t 11)⟩,
 ⟨some 12, none, .ext 0 (.t 8)⟩,
 ⟨some 13, none, .ext 1 (.t 8)⟩,
 ⟨some 3, none, .zer (reps 100 (.d (.int 0)))⟩,
 ⟨none, none, .st 100 (.t 3) (.t 12)⟩,
 ⟨some 4, none, .mv (.t 13)⟩]) (
 .seq (
 .reg [⟨some 14, none, .ldn 100 (.t 3)⟩,
 ⟨some 15, none, .fld 4 (.t 1)⟩,
 ⟨some 16, none, .ld (.t 15)⟩,
 ⟨some 17, none, .fld 3 (.t 1)⟩,
 ⟨some 18, none, .ld (.t 17)⟩,
 ⟨some 19, none, .len (.t 18)⟩,
 ⟨some 20, none, .agg (reps 100 (.d (.int 0)) ++ [.nil, .nil, .d (.int 0)]) [(0, 100, (.t 14)), (100, 1, (.t 16)), (102, 1, (.t 19))]⟩,
 ⟨some 21, none, .box (.t 20)⟩,
 ⟨some 5, none, .mv (.t 21)⟩]) (
 .seq (
 .seq (
 .reg [⟨some 22, none, .fld 3 (.t 1)⟩,
 ⟨some 23, none, .ld (.t 22)⟩,
 ⟨some 24, none, .len (.t 23)⟩,
 ⟨some 25, none, .mv (.c (.d (.int 0)))⟩]) (
 .block 0 (
 .loop L0_impl_startState))) (
 .seq (
 .reg [⟨some 45, none, .mv (.t 5)⟩,
 ⟨some 2, none, .mv (.t 45)⟩]) (
 .ret))))),
 [.t 2]⟩

theorem k_impl_startState : cFunK Try.prog Try.f88 = some C_impl_startState.erase := by kernel_rfl

end Go.Proofs.Ytjoopfojiiklnaa
