/-
  The compiled code of functions of the seat (written by mkcode.py). No condition.
-/
import Derived.Test.YtcgnehacihjnkaaLiftE
import Derived.Test.YtcgnehacihjnkaaProg
import Derived.KernelRfl
namespace Go.Proofs.Ytcgnehacihjnkaa
open Go.Lift

def C_impl_rawZero : Fun := ⟨1, 15,
 .seq (
 .reg [⟨some 1, none, .box (.t 0)⟩,
 ⟨some 2, none, .mv (.c (.nil))⟩]) (
 .seq (
 .reg [⟨some 4, none, .ldn 3 (.t 1)⟩,
 ⟨some 5, none, .call 132 [(.t 4)]⟩,
 ⟨some 6, none, .make 1 8 [.d (.int 0)] (.t 5) (.t 5)⟩,
 ⟨some 3, none, .mv (.t 6)⟩]) (
 .seq (
 .seq (
 .reg [⟨some 7, none, .fld 0 (.t 1)⟩,
 ⟨some 8, none, .ld (.t 7)⟩,
 ⟨some 9, none, .bin .eql (.t 8) (.c (.d (.int 4)))⟩]) (
 .cond (.t 9) (
 .reg [⟨some 10, none, .mv (.t 3)⟩,
 ⟨some 11, none, .fld 1 (.t 1)⟩,
 ⟨some 12, none, .ld (.t 11)⟩,
 ⟨some 13, none, .idx 1 (.t 10) (.c (.d (.int 0)))⟩,
 ⟨none, none, .st 1 (.t 13) (.t 12)⟩]) (
 .skip))) (
 .seq (
 .reg [⟨some 14, none, .mv (.t 3)⟩,
 ⟨some 2, none, .mv (.t 14)⟩]) (
 .ret)))),
 [.t 2]⟩

theorem k_impl_rawZero : cFun Try.prog Try.f130 = some C_impl_rawZero.erase := by kernel_rfl

def C_spec_l02Zero : Fun := ⟨1, 15,
 .seq (
 .reg [⟨some 1, none, .box (.t 0)⟩,
 ⟨some 2, none, .mv (.c (.nil))⟩]) (
 .seq (
 .reg [⟨some 4, none, .ldn 3 (.t 1)⟩,
 ⟨some 5, none, .call 168 [(.t 4)]⟩,
 ⟨some 6, none, .make 1 8 [.d (.int 0)] (.t 5) (.t 5)⟩,
 ⟨some 3, none, .mv (.t 6)⟩]) (
 .seq (
 .seq (
 .reg [⟨some 7, none, .fld 0 (.t 1)⟩,
 ⟨some 8, none, .ld (.t 7)⟩,
 ⟨some 9, none, .bin .eql (.t 8) (.c (.d (.int 4)))⟩]) (
 .cond (.t 9) (
 .reg [⟨some 10, none, .mv (.t 3)⟩,
 ⟨some 11, none, .fld 1 (.t 1)⟩,
 ⟨some 12, none, .ld (.t 11)⟩,
 ⟨some 13, none, .idx 1 (.t 10) (.c (.d (.int 0)))⟩,
 ⟨none, none, .st 1 (.t 13) (.t 12)⟩]) (
 .skip))) (
 .seq (
 .reg [⟨some 14, none, .mv (.t 3)⟩,
 ⟨some 2, none, .mv (.t 14)⟩]) (
 .ret)))),
 [.t 2]⟩

theorem k_spec_l02Zero : cFun Try.prog Try.f182 = some C_spec_l02Zero.erase := by kernel_rfl
end Go.Proofs.Ytcgnehacihjnkaa
