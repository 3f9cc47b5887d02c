/-
  The compiled code of functions of the seat (written by mkcode.py). No condition.
-/
import Derived.Test.YtbebaoibniajpaaLiftE
import Derived.Test.YtbebaoibniajpaaProg
import Derived.KernelRfl
namespace Go.Proofs.Ytbebaoibniajpaa
open Go.Lift

def L0_impl_SliceCount : C :=
 .seq (
 .reg [⟨some 24, none, .bin .lss (.t 23) (.t 22)⟩]) (
 .seq (
 .cond (.t 24) (
 .skip) (
 .exit 0)) (
 .seq (
 .block 1 (
 .seq (
 .reg [⟨some 25, none, .mv (.t 23)⟩,
 ⟨some 26, none, .idx 1 (.t 21) (.t 23)⟩,
 ⟨some 27, none, .ld (.t 26)⟩,
 ⟨some 6, none, .mv (.t 25)⟩,
 ⟨some 7, none, .mv (.t 27)⟩]) (
 .seq (
 .reg [⟨some 28, none, .mv (.t 5)⟩,
 ⟨some 29, none, .mv (.t 7)⟩,
 ⟨some 30, none, .call 84 [(.t 28), (.t 29)]⟩,
 ⟨some 31, none, .not (.t 30)⟩,
 ⟨some 32, none, .mv (.t 31)⟩,
 ⟨some 33, some (32, false), .mv (.t 1)⟩,
 ⟨some 34, some (32, false), .mv (.t 6)⟩,
 ⟨some 35, some (32, false), .slc 1 (.t 33) none (some (.t 34))⟩,
 ⟨some 36, some (32, false), .mv (.t 7)⟩,
 ⟨some 37, some (32, false), .call 84 [(.t 35), (.t 36)]⟩,
 ⟨some 38, none, .pick (.t 32) (.c (.d (.bool true))) (.t 37)⟩]) (
 .cond (.t 38) (
 .seq (
 .reg [⟨some 4, none, .mv (.c (.d (.int (-1))))⟩]) (
 .ret)) (
 .skip))))) (
 .reg [⟨some 39, none, .bin .add (.t 23) (.c (.d (.int 1)))⟩,
 ⟨some 23, none, .mv (.t 39)⟩])))

def C_impl_SliceCount : Fun := ⟨2, 54,
 .seq (
 .reg [⟨some 2, none, .box (.t 0)⟩,
 ⟨some 4, none, .mv (.c (.d (.int 0)))⟩]) (
 .seq (
 .seq (
 .reg [⟨some 11, none, .ldn 5 (.t 2)⟩,
 ⟨some 12, none, .call 18 [(.t 11)]⟩,
 ⟨some 13, none, .not (.t 12)⟩,
 ⟨some 14, none, .mv (.t 13)⟩,
 ⟨some 15, some (14, false), .mv (.t 1)⟩,
 ⟨some 16, some (14, false), .len (.t 15)⟩,
 ⟨some 17, some (14, false), .bin .gtr (.t 16) (.c (.d (.int 4)))⟩,
 ⟨some 18, none, .pick (.t 14) (.c (.d (.bool true))) (.t 17)⟩]) (
 .cond (.t 18) (
 .seq (
 .reg [⟨some 4, none, .mv (.c (.d (.int (-1))))⟩]) (
 .ret)) (
 .skip))) (
 .seq (
 .reg [⟨some 19, none, .ldn 5 (.t 2)⟩,
 ⟨some 20, none, .call 50 [(.t 19)]⟩,
 ⟨some 5, none, .mv (.t 20)⟩]) (
 .seq (
 .seq (
 .reg [⟨some 21, none, .mv (.t 1)⟩,
 ⟨some 22, none, .len (.t 21)⟩,
 ⟨some 23, none, .mv (.c (.d (.int 0)))⟩]) (
 .block 0 (
 .loop L0_impl_SliceCount))) (
 .seq (
 .reg [⟨some 41, none, .fld 3 (.t 2)⟩,
 ⟨some 42, none, .ld (.t 41)⟩,
 ⟨some 43, none, .call 63 [(.t 42)]⟩,
 ⟨some 40, none, .mv (.t 43)⟩,
 ⟨some 44, none, .ext 0 (.t 40)⟩,
 ⟨some 45, none, .ext 1 (.t 40)⟩,
 ⟨some 8, none, .zer (reps 100 (.d (.int 0)))⟩,
 ⟨none, none, .st 100 (.t 8) (.t 44)⟩,
 ⟨some 9, none, .mv (.t 45)⟩]) (
 .seq (
 .reg [⟨some 46, none, .ldn 100 (.t 8)⟩,
 ⟨some 47, none, .mv (.t 1)⟩,
 ⟨some 48, none, .call 65 [(.t 46), (.t 47)]⟩,
 ⟨some 49, none, .fdv 1 1 false (.t 48)⟩,
 ⟨some 50, none, .call 69 [(.t 49)]⟩,
 ⟨some 10, none, .mv (.t 50)⟩]) (
 .seq (
 .seq (
 .reg [⟨some 51, none, .mv (.t 10)⟩,
 ⟨some 52, none, .bin .gtr (.t 51) (.c (.d (.int 65536)))⟩]) (
 .cond (.t 52) (
 .seq (
 .reg [⟨some 4, none, .mv (.c (.d (.int (-1))))⟩]) (
 .ret)) (
 .skip))) (
 .seq (
 .reg [⟨some 53, none, .mv (.t 10)⟩,
 ⟨some 4, none, .mv (.t 53)⟩]) (
 .ret)))))))),
 [.t 4]⟩

theorem k_impl_SliceCount : cFun Try.prog Try.f52 = some C_impl_SliceCount.erase := by kernel_rfl

def L0_spec_SliceCount : C :=
 .seq (
 .reg [⟨some 21, none, .bin .lss (.t 20) (.t 19)⟩]) (
 .seq (
 .cond (.t 21) (
 .skip) (
 .exit 0)) (
 .seq (
 .block 1 (
 .seq (
 .reg [⟨some 22, none, .mv (.t 20)⟩,
 ⟨some 23, none, .idx 1 (.t 18) (.t 20)⟩,
 ⟨some 24, none, .ld (.t 23)⟩,
 ⟨some 6, none, .mv (.t 22)⟩,
 ⟨some 7, none, .mv (.t 24)⟩]) (
 .seq (
 .reg [⟨some 25, none, .mv (.t 5)⟩,
 ⟨some 26, none, .mv (.t 7)⟩,
 ⟨some 27, none, .call 70 [(.t 25), (.t 26)]⟩,
 ⟨some 28, none, .bin .lss (.t 27) (.c (.d (.int 0)))⟩,
 ⟨some 29, none, .mv (.t 28)⟩,
 ⟨some 30, some (29, false), .mv (.t 1)⟩,
 ⟨some 31, some (29, false), .mv (.t 6)⟩,
 ⟨some 32, some (29, false), .slc 1 (.t 30) none (some (.t 31))⟩,
 ⟨some 33, some (29, false), .mv (.t 7)⟩,
 ⟨some 34, some (29, false), .call 70 [(.t 32), (.t 33)]⟩,
 ⟨some 35, some (29, false), .bin .geq (.t 34) (.c (.d (.int 0)))⟩,
 ⟨some 36, none, .pick (.t 29) (.c (.d (.bool true))) (.t 35)⟩]) (
 .cond (.t 36) (
 .seq (
 .reg [⟨some 4, none, .mv (.c (.d (.int (-1))))⟩]) (
 .ret)) (
 .skip))))) (
 .reg [⟨some 37, none, .bin .add (.t 20) (.c (.d (.int 1)))⟩,
 ⟨some 20, none, .mv (.t 37)⟩])))

def C_spec_SliceCount : Fun := ⟨2, 43,
 .seq (
 .reg [⟨some 2, none, .box (.t 0)⟩,
 ⟨some 4, none, .mv (.c (.d (.int 0)))⟩]) (
 .seq (
 .seq (
 .reg [⟨some 8, none, .ldn 5 (.t 2)⟩,
 ⟨some 9, none, .call 16 [(.t 8)]⟩,
 ⟨some 10, none, .not (.t 9)⟩,
 ⟨some 11, none, .mv (.t 10)⟩,
 ⟨some 12, some (11, false), .mv (.t 1)⟩,
 ⟨some 13, some (11, false), .len (.t 12)⟩,
 ⟨some 14, some (11, false), .bin .gtr (.t 13) (.c (.d (.int 4)))⟩,
 ⟨some 15, none, .pick (.t 11) (.c (.d (.bool true))) (.t 14)⟩]) (
 .cond (.t 15) (
 .seq (
 .reg [⟨some 4, none, .mv (.c (.d (.int (-1))))⟩]) (
 .ret)) (
 .skip))) (
 .seq (
 .reg [⟨some 16, none, .ldn 5 (.t 2)⟩,
 ⟨some 17, none, .call 90 [(.t 16)]⟩,
 ⟨some 5, none, .mv (.t 17)⟩]) (
 .seq (
 .seq (
 .reg [⟨some 18, none, .mv (.t 1)⟩,
 ⟨some 19, none, .len (.t 18)⟩,
 ⟨some 20, none, .mv (.c (.d (.int 0)))⟩]) (
 .block 0 (
 .loop L0_spec_SliceCount))) (
 .seq (
 .reg [⟨some 38, none, .fld 3 (.t 2)⟩,
 ⟨some 39, none, .ld (.t 38)⟩,
 ⟨some 40, none, .mv (.t 1)⟩,
 ⟨some 41, none, .call 59 [(.t 39), (.t 40)]⟩,
 ⟨some 42, none, .call 72 [(.t 41), (.c (.d (.int 65536)))]⟩,
 ⟨some 4, none, .mv (.t 42)⟩]) (
 .ret))))),
 [.t 4]⟩

theorem k_spec_SliceCount : cFun Try.prog Try.f51 = some C_spec_SliceCount.erase := by kernel_rfl
end Go.Proofs.Ytbebaoibniajpaa
