/-
  The compiled code of functions of the seat (written by mkcode.py). No condition.
-/
import Derived.Test.YtcgnehacihjnkaaLiftE
import Derived.Test.YtcgnehacihjnkaaProg
import Derived.KernelRfl
namespace Go.Proofs.Ytcgnehacihjnkaa
open Go.Lift

def C_laws_markNetwork : Fun := ⟨2, 14,
 .seq (
 .reg [⟨some 2, none, .box (.t 0)⟩,
 ⟨some 4, none, .mv (.c (.d (.int 0)))⟩]) (
 .seq (
 .reg [⟨some 5, none, .fld 3 (.t 2)⟩,
 ⟨some 6, none, .ld (.t 5)⟩,
 ⟨some 7, none, .mv (.t 1)⟩,
 ⟨some 8, none, .call 72 [(.t 6), (.t 7)]⟩,
 ⟨some 1, none, .mv (.t 8)⟩]) (
 .seq (
 .reg [⟨some 9, none, .fld 4 (.t 2)⟩,
 ⟨some 10, none, .ld (.t 9)⟩,
 ⟨some 11, none, .mv (.t 1)⟩,
 ⟨some 12, none, .call 22 [(.t 10), (.t 11)]⟩,
 ⟨some 1, none, .mv (.t 12)⟩]) (
 .seq (
 .reg [⟨some 13, none, .mv (.t 1)⟩,
 ⟨some 4, none, .mv (.t 13)⟩]) (
 .ret)))),
 [.t 4]⟩

theorem k_laws_markNetwork : cFun Try.prog Try.f21 = some C_laws_markNetwork.erase := by kernel_rfl

def L0_laws_markTensorS : C :=
 .seq (
 .seq (
 .reg [⟨some 6, none, .mv (.t 5)⟩,
 ⟨some 7, none, .mv (.t 0)⟩,
 ⟨some 8, none, .len (.t 7)⟩,
 ⟨some 9, none, .bin .lss (.t 6) (.t 8)⟩]) (
 .gh (.cond (.t 9) (
 .skip) (
 .exit 0)))) (
 .seq (
 .block 1 (
 .seq (
 .reg [⟨some 12, none, .mv (.t 0)⟩,
 ⟨some 13, none, .mv (.t 5)⟩,
 ⟨some 14, none, .idx 3 (.t 12) (.t 13)⟩,
 ⟨some 15, none, .fld 0 (.t 14)⟩,
 ⟨some 16, none, .ld (.t 15)⟩,
 ⟨some 17, none, .mv (.t 1)⟩,
 ⟨some 18, none, .call 22 [(.t 16), (.t 17)]⟩,
 ⟨some 1, none, .mv (.t 18)⟩]) (
 .seq (
 .reg [⟨some 19, none, .mv (.t 0)⟩,
 ⟨some 20, none, .mv (.t 5)⟩,
 ⟨some 21, none, .idx 3 (.t 19) (.t 20)⟩,
 ⟨some 22, none, .fld 1 (.t 21)⟩,
 ⟨some 23, none, .ld (.t 22)⟩,
 ⟨some 24, none, .mv (.t 1)⟩,
 ⟨some 25, none, .call 22 [(.t 23), (.t 24)]⟩,
 ⟨some 1, none, .mv (.t 25)⟩]) (
 .reg [⟨some 26, none, .mv (.t 0)⟩,
 ⟨some 27, none, .mv (.t 5)⟩,
 ⟨some 28, none, .idx 3 (.t 26) (.t 27)⟩,
 ⟨some 29, none, .fld 2 (.t 28)⟩,
 ⟨some 30, none, .ld (.t 29)⟩,
 ⟨some 31, none, .mv (.t 1)⟩,
 ⟨some 32, none, .call 22 [(.t 30), (.t 31)]⟩,
 ⟨some 1, none, .mv (.t 32)⟩])))) (
 .reg [⟨some 10, none, .mv (.t 5)⟩,
 ⟨some 11, none, .bin .add (.t 10) (.c (.d (.int 1)))⟩,
 ⟨some 5, none, .mv (.t 11)⟩]))

def C_laws_markTensorS : Fun := ⟨2, 34,
 .seq (
 .reg [⟨some 4, none, .mv (.c (.d (.int 0)))⟩]) (
 .seq (
 .seq (
 .reg [⟨some 5, none, .mv (.c (.d (.int 0)))⟩]) (
 .block 0 (
 .loop L0_laws_markTensorS))) (
 .seq (
 .reg [⟨some 33, none, .mv (.t 1)⟩,
 ⟨some 4, none, .mv (.t 33)⟩]) (
 .ret))),
 [.t 4]⟩

theorem k_laws_markTensorS : cFun Try.prog Try.f72 = some C_laws_markTensorS.erase := by kernel_rfl

def C_laws_heldNetwork : Fun := ⟨2, 18,
 .seq (
 .reg [⟨some 2, none, .box (.t 0)⟩,
 ⟨some 4, none, .mv (.c (.d (.int 0)))⟩]) (
 .seq (
 .reg [⟨some 5, none, .fld 3 (.t 2)⟩,
 ⟨some 6, none, .ld (.t 5)⟩,
 ⟨some 7, none, .mv (.t 1)⟩,
 ⟨some 8, none, .call 73 [(.t 6), (.t 7)]⟩,
 ⟨some 1, none, .mv (.t 8)⟩]) (
 .seq (
 .seq (
 .reg [⟨some 9, none, .mv (.t 1)⟩,
 ⟨some 10, none, .bin .lss (.t 9) (.c (.d (.int 0)))⟩]) (
 .cond (.t 10) (
 .seq (
 .reg [⟨some 4, none, .mv (.c (.d (.int (-1))))⟩]) (
 .ret)) (
 .skip))) (
 .seq (
 .reg [⟨some 11, none, .fld 4 (.t 2)⟩,
 ⟨some 12, none, .ld (.t 11)⟩,
 ⟨some 13, none, .mv (.t 1)⟩,
 ⟨some 14, none, .call 45 [(.t 12), (.t 13)]⟩,
 ⟨some 1, none, .mv (.t 14)⟩]) (
 .seq (
 .seq (
 .reg [⟨some 15, none, .mv (.t 1)⟩,
 ⟨some 16, none, .bin .lss (.t 15) (.c (.d (.int 0)))⟩]) (
 .cond (.t 16) (
 .seq (
 .reg [⟨some 4, none, .mv (.c (.d (.int (-1))))⟩]) (
 .ret)) (
 .skip))) (
 .seq (
 .reg [⟨some 17, none, .mv (.t 1)⟩,
 ⟨some 4, none, .mv (.t 17)⟩]) (
 .ret)))))),
 [.t 4]⟩

theorem k_laws_heldNetwork : cFun Try.prog Try.f23 = some C_laws_heldNetwork.erase := by kernel_rfl

def L0_laws_heldTensorS : C :=
 .seq (
 .seq (
 .reg [⟨some 6, none, .mv (.t 5)⟩,
 ⟨some 7, none, .mv (.t 0)⟩,
 ⟨some 8, none, .len (.t 7)⟩,
 ⟨some 9, none, .bin .lss (.t 6) (.t 8)⟩]) (
 .cond (.t 9) (
 .skip) (
 .exit 0))) (
 .seq (
 .block 1 (
 .seq (
 .reg [⟨some 12, none, .mv (.t 0)⟩,
 ⟨some 13, none, .mv (.t 5)⟩,
 ⟨some 14, none, .idx 3 (.t 12) (.t 13)⟩,
 ⟨some 15, none, .fld 0 (.t 14)⟩,
 ⟨some 16, none, .ld (.t 15)⟩,
 ⟨some 17, none, .mv (.t 1)⟩,
 ⟨some 18, none, .call 45 [(.t 16), (.t 17)]⟩,
 ⟨some 1, none, .mv (.t 18)⟩]) (
 .seq (
 .seq (
 .reg [⟨some 19, none, .mv (.t 1)⟩,
 ⟨some 20, none, .bin .lss (.t 19) (.c (.d (.int 0)))⟩]) (
 .cond (.t 20) (
 .seq (
 .reg [⟨some 4, none, .mv (.c (.d (.int (-1))))⟩]) (
 .ret)) (
 .skip))) (
 .seq (
 .reg [⟨some 21, none, .mv (.t 0)⟩,
 ⟨some 22, none, .mv (.t 5)⟩,
 ⟨some 23, none, .idx 3 (.t 21) (.t 22)⟩,
 ⟨some 24, none, .fld 1 (.t 23)⟩,
 ⟨some 25, none, .ld (.t 24)⟩,
 ⟨some 26, none, .mv (.t 1)⟩,
 ⟨some 27, none, .call 45 [(.t 25), (.t 26)]⟩,
 ⟨some 1, none, .mv (.t 27)⟩]) (
 .seq (
 .seq (
 .reg [⟨some 28, none, .mv (.t 1)⟩,
 ⟨some 29, none, .bin .lss (.t 28) (.c (.d (.int 0)))⟩]) (
 .cond (.t 29) (
 .seq (
 .reg [⟨some 4, none, .mv (.c (.d (.int (-1))))⟩]) (
 .ret)) (
 .skip))) (
 .seq (
 .reg [⟨some 30, none, .mv (.t 0)⟩,
 ⟨some 31, none, .mv (.t 5)⟩,
 ⟨some 32, none, .idx 3 (.t 30) (.t 31)⟩,
 ⟨some 33, none, .fld 2 (.t 32)⟩,
 ⟨some 34, none, .ld (.t 33)⟩,
 ⟨some 35, none, .mv (.t 1)⟩,
 ⟨some 36, none, .call 45 [(.t 34), (.t 35)]⟩,
 ⟨some 1, none, .mv (.t 36)⟩]) (
 .seq (
 .reg [⟨some 37, none, .mv (.t 1)⟩,
 ⟨some 38, none, .bin .lss (.t 37) (.c (.d (.int 0)))⟩]) (
 .cond (.t 38) (
 .seq (
 .reg [⟨some 4, none, .mv (.c (.d (.int (-1))))⟩]) (
 .ret)) (
 .skip))))))))) (
 .reg [⟨some 10, none, .mv (.t 5)⟩,
 ⟨some 11, none, .bin .add (.t 10) (.c (.d (.int 1)))⟩,
 ⟨some 5, none, .mv (.t 11)⟩]))

def C_laws_heldTensorS : Fun := ⟨2, 40,
 .seq (
 .reg [⟨some 4, none, .mv (.c (.d (.int 0)))⟩]) (
 .seq (
 .seq (
 .reg [⟨some 5, none, .mv (.c (.d (.int 0)))⟩]) (
 .block 0 (
 .loop L0_laws_heldTensorS))) (
 .seq (
 .reg [⟨some 39, none, .mv (.t 1)⟩,
 ⟨some 4, none, .mv (.t 39)⟩]) (
 .ret))),
 [.t 4]⟩

theorem k_laws_heldTensorS : cFun Try.prog Try.f73 = some C_laws_heldTensorS.erase := by kernel_rfl

end Go.Proofs.Ytcgnehacihjnkaa
