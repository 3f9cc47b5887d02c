/-
  The compiled code of functions of the seat (written by mkcode.py). No condition.
-/
import Derived.Test.YtjncdanegoileaaLiftE
import Derived.Test.YtjncdanegoileaaProg
import Derived.KernelRfl
namespace Go.Proofs.Ytjncdanegoileaa
open Go.Lift

def C_spec_DimOf : Fun := ⟨2, 12,
 .seq (
 .reg [⟨some 2, none, .box (.t 0)⟩,
 ⟨some 4, none, .mv (.c (.d (.int 0)))⟩]) (
 .seq (
 .seq (
 .reg [⟨some 5, none, .ldn 5 (.t 2)⟩,
 ⟨some 6, none, .call 69 [(.t 5)]⟩,
 ⟨some 7, none, .not (.t 6)⟩]) (
 .cond (.t 7) (
 .seq (
 .reg [⟨some 4, none, .mv (.c (.d (.int 0)))⟩]) (
 .ret)) (
 .skip))) (
 .seq (
 .reg [⟨some 8, none, .fld 3 (.t 2)⟩,
 ⟨some 9, none, .ld (.t 8)⟩,
 ⟨some 10, none, .mv (.t 1)⟩,
 ⟨some 11, none, .call 106 [(.t 9), (.t 10)]⟩,
 ⟨some 4, none, .mv (.t 11)⟩]) (
 .ret))),
 [.t 4]⟩

theorem k_spec_DimOf : cFun Try.prog Try.f51 = some C_spec_DimOf.erase := by kernel_rfl

def C_impl_DimOf : Fun := ⟨2, 27,
 .seq (
 .reg [⟨some 2, none, .box (.t 0)⟩,
 ⟨some 4, none, .mv (.c (.d (.int 0)))⟩]) (
 .seq (
 .seq (
 .reg [⟨some 7, none, .ldn 5 (.t 2)⟩,
 ⟨some 8, none, .call 56 [(.t 7)]⟩,
 ⟨some 9, none, .not (.t 8)⟩,
 ⟨some 10, none, .mv (.t 9)⟩,
 ⟨some 11, some (10, false), .mv (.t 1)⟩,
 ⟨some 12, some (10, false), .bin .lss (.t 11) (.c (.d (.int 0)))⟩,
 ⟨some 13, none, .pick (.t 10) (.c (.d (.bool true))) (.t 12)⟩,
 ⟨some 14, none, .mv (.t 13)⟩,
 ⟨some 15, some (14, false), .mv (.t 1)⟩,
 ⟨some 16, some (14, false), .bin .gtr (.t 15) (.c (.d (.int 99)))⟩,
 ⟨some 17, none, .pick (.t 14) (.c (.d (.bool true))) (.t 16)⟩]) (
 .cond (.t 17) (
 .seq (
 .reg [⟨some 4, none, .mv (.c (.d (.int 0)))⟩]) (
 .ret)) (
 .skip))) (
 .seq (
 .reg [⟨some 19, none, .fld 3 (.t 2)⟩,
 ⟨some 20, none, .ld (.t 19)⟩,
 ⟨some 21, none, .call 91 [(.t 20)]⟩,
 ⟨some 18, none, .mv (.t 21)⟩,
 ⟨some 22, none, .ext 0 (.t 18)⟩,
 ⟨some 23, none, .ext 1 (.t 18)⟩,
 ⟨some 5, none, .zer (reps 100 (.d (.int 0)))⟩,
 ⟨none, none, .st 100 (.t 5) (.t 22)⟩,
 ⟨some 6, none, .mv (.t 23)⟩]) (
 .seq (
 .reg [⟨some 24, none, .mv (.t 1)⟩,
 ⟨some 25, none, .aix 1 100 (.t 5) (.t 24)⟩,
 ⟨some 26, none, .ld (.t 25)⟩,
 ⟨some 4, none, .mv (.t 26)⟩]) (
 .ret)))),
 [.t 4]⟩

theorem k_impl_DimOf : cFun Try.prog Try.f57 = some C_impl_DimOf.erase := by kernel_rfl

def L0_spec_CostBound : C :=
 .seq (
 .reg [⟨some 13, none, .bin .lss (.t 12) (.t 11)⟩]) (
 .seq (
 .cond (.t 13) (
 .skip) (
 .exit 0)) (
 .seq (
 .block 1 (
 .seq (
 .reg [⟨some 14, none, .idx 3 (.t 10) (.t 12)⟩,
 ⟨some 15, none, .ldn 3 (.t 14)⟩,
 ⟨some 5, none, .zer [.nil, .nil, .nil]⟩,
 ⟨none, none, .st 3 (.t 5) (.t 15)⟩]) (
 .seq (
 .reg [⟨some 16, none, .fld 3 (.t 1)⟩,
 ⟨some 17, none, .ld (.t 16)⟩,
 ⟨some 18, none, .len (.t 17)⟩,
 ⟨some 19, none, .bin .gtr (.t 18) (.c (.d (.int 1)))⟩]) (
 .cond (.t 19) (
 .reg [⟨some 20, none, .mv (.t 3)⟩,
 ⟨some 21, none, .ldn 3 (.t 5)⟩,
 ⟨some 22, none, .call 124 [(.t 21)]⟩,
 ⟨some 23, none, .mnx true (.t 20) (.t 22)⟩,
 ⟨some 3, none, .mv (.t 23)⟩]) (
 .skip))))) (
 .reg [⟨some 24, none, .bin .add (.t 12) (.c (.d (.int 1)))⟩,
 ⟨some 12, none, .mv (.t 24)⟩])))

def C_spec_CostBound : Fun := ⟨1, 26,
 .seq (
 .reg [⟨some 1, none, .box (.t 0)⟩,
 ⟨some 2, none, .mv (.c (.d (.int 0)))⟩]) (
 .seq (
 .seq (
 .reg [⟨some 6, none, .ldn 5 (.t 1)⟩,
 ⟨some 7, none, .call 69 [(.t 6)]⟩,
 ⟨some 8, none, .not (.t 7)⟩]) (
 .cond (.t 8) (
 .seq (
 .reg [⟨some 2, none, .mv (.c (.d (.int (-1))))⟩]) (
 .ret)) (
 .skip))) (
 .seq (
 .reg [⟨some 3, none, .mv (.c (.d (.int 0)))⟩]) (
 .seq (
 .seq (
 .reg [⟨some 9, none, .fld 3 (.t 1)⟩,
 ⟨some 10, none, .ld (.t 9)⟩,
 ⟨some 11, none, .len (.t 10)⟩,
 ⟨some 12, none, .mv (.c (.d (.int 0)))⟩]) (
 .block 0 (
 .loop L0_spec_CostBound))) (
 .seq (
 .reg [⟨some 25, none, .mv (.t 3)⟩,
 ⟨some 2, none, .mv (.t 25)⟩]) (
 .ret))))),
 [.t 2]⟩

def L0_impl_CostBound : C :=
 .seq (
 .reg [⟨some 17, none, .bin .lss (.t 16) (.t 15)⟩]) (
 .seq (
 .cond (.t 17) (
 .skip) (
 .exit 0)) (
 .seq (
 .block 1 (
 .seq (
 .reg [⟨some 18, none, .idx 3 (.t 14) (.t 16)⟩,
 ⟨some 19, none, .ldn 3 (.t 18)⟩,
 ⟨some 5, none, .zer [.nil, .nil, .nil]⟩,
 ⟨none, none, .st 3 (.t 5) (.t 19)⟩]) (
 .reg [⟨some 20, none, .mv (.t 3)⟩,
 ⟨some 21, none, .fld 1 (.t 5)⟩,
 ⟨some 22, none, .ld (.t 21)⟩,
 ⟨some 23, none, .call 92 [(.t 22)]⟩,
 ⟨some 24, none, .mnx true (.t 20) (.t 23)⟩,
 ⟨some 3, none, .mv (.t 24)⟩]))) (
 .reg [⟨some 25, none, .bin .add (.t 16) (.c (.d (.int 1)))⟩,
 ⟨some 16, none, .mv (.t 25)⟩])))

def C_impl_CostBound : Fun := ⟨1, 28,
 .seq (
 .reg [⟨some 1, none, .box (.t 0)⟩,
 ⟨some 2, none, .mv (.c (.d (.int 0)))⟩]) (
 .seq (
 .seq (
 .reg [⟨some 6, none, .ldn 5 (.t 1)⟩,
 ⟨some 7, none, .call 56 [(.t 6)]⟩,
 ⟨some 8, none, .not (.t 7)⟩]) (
 .cond (.t 8) (
 .seq (
 .reg [⟨some 2, none, .mv (.c (.d (.int (-1))))⟩]) (
 .ret)) (
 .skip))) (
 .seq (
 .seq (
 .reg [⟨some 9, none, .fld 3 (.t 1)⟩,
 ⟨some 10, none, .ld (.t 9)⟩,
 ⟨some 11, none, .len (.t 10)⟩,
 ⟨some 12, none, .bin .lss (.t 11) (.c (.d (.int 2)))⟩]) (
 .cond (.t 12) (
 .seq (
 .reg [⟨some 2, none, .mv (.c (.d (.int 0)))⟩]) (
 .ret)) (
 .skip))) (
 .seq (
 .reg [⟨some 3, none, .mv (.c (.d (.int 0)))⟩]) (
 .seq (
 .seq (
 .reg [⟨some 13, none, .fld 3 (.t 1)⟩,
 ⟨some 14, none, .ld (.t 13)⟩,
 ⟨some 15, none, .len (.t 14)⟩,
 ⟨some 16, none, .mv (.c (.d (.int 0)))⟩]) (
 .block 0 (
 .loop L0_impl_CostBound))) (
 .seq (
 .reg [⟨some 26, none, .mv (.t 3)⟩,
 ⟨some 27, none, .mnx false (.t 26) (.c (.d (.int 1000000000)))⟩,
 ⟨some 2, none, .mv (.t 27)⟩]) (
 .ret)))))),
 [.t 2]⟩

def C_spec_l19Size : Fun := ⟨1, 7,
 .seq (
 .reg [⟨some 1, none, .box (.t 0)⟩,
 ⟨some 2, none, .mv (.c (.d (.int 0)))⟩]) (
 .seq (
 .reg [⟨some 3, none, .fld 1 (.t 1)⟩,
 ⟨some 4, none, .ld (.t 3)⟩,
 ⟨some 5, none, .call 125 [(.t 4), (.c (.d (.int 1000000000)))]⟩,
 ⟨some 6, none, .mnx false (.c (.d (.int 1000000000))) (.t 5)⟩,
 ⟨some 2, none, .mv (.t 6)⟩]) (
 .ret)),
 [.t 2]⟩

theorem k_spec_l19Size : cFun Try.prog Try.f124 = some C_spec_l19Size.erase := by kernel_rfl

end Go.Proofs.Ytjncdanegoileaa
