/-
  The compiled code of functions of the seat (written by mkcode.py). No condition.
-/
import Derived.Test.YtjoopfojiiklnaaLiftE
import Derived.Test.YtjoopfojiiklnaaProg
import Derived.KernelRfl
namespace Go.Proofs.Ytjoopfojiiklnaa
open Go.Lift

def L0_laws_eqStepS : C :=
 .seq (
 .seq (
 .reg [⟨some 11, none, .mv (.t 5)⟩,
 ⟨some 12, none, .mv (.t 0)⟩,
 ⟨some 13, none, .len (.t 12)⟩,
 ⟨some 14, none, .bin .lss (.t 11) (.t 13)⟩]) (
 .cond (.t 14) (
 .skip) (
 .exit 0))) (
 .seq (
 .block 1 (
 .seq (
 .draw [⟨some 17, none, .mv (.t 0)⟩,
 ⟨some 18, none, .mv (.t 5)⟩,
 ⟨some 19, none, .idx 2 (.t 17) (.t 18)⟩,
 ⟨some 20, none, .ldn 2 (.t 19)⟩,
 ⟨some 21, none, .mv (.t 1)⟩,
 ⟨some 22, none, .mv (.t 5)⟩,
 ⟨some 23, none, .idx 2 (.t 21) (.t 22)⟩,
 ⟨some 24, none, .ldn 2 (.t 23)⟩]
 [⟨some 25, none, .call 76 [(.t 20), (.t 24)]⟩,
 ⟨some 26, none, .not (.t 25)⟩]) (
 .cond (.t 26) (
 .seq (
 .reg [⟨some 4, none, .mv (.c (.d (.bool false)))⟩]) (
 .ret)) (
 .skip)))) (
 .reg [⟨some 15, none, .mv (.t 5)⟩,
 ⟨some 16, none, .bin .add (.t 15) (.c (.d (.int 1)))⟩,
 ⟨some 5, none, .mv (.t 16)⟩]))

def C_laws_eqStepS : Fun := ⟨2, 27,
 .seq (
 .reg [⟨some 4, none, .mv (.c (.d (.bool false)))⟩]) (
 .seq (
 .seq (
 .reg [⟨some 6, none, .mv (.t 0)⟩,
 ⟨some 7, none, .len (.t 6)⟩,
 ⟨some 8, none, .mv (.t 1)⟩,
 ⟨some 9, none, .len (.t 8)⟩,
 ⟨some 10, none, .bin .neq (.t 7) (.t 9)⟩]) (
 .cond (.t 10) (
 .seq (
 .reg [⟨some 4, none, .mv (.c (.d (.bool false)))⟩]) (
 .ret)) (
 .skip))) (
 .seq (
 .seq (
 .reg [⟨some 5, none, .mv (.c (.d (.int 0)))⟩]) (
 .block 0 (
 .loop L0_laws_eqStepS))) (
 .seq (
 .reg [⟨some 4, none, .mv (.c (.d (.bool true)))⟩]) (
 .ret)))),
 [.t 4]⟩

theorem k_laws_eqStepS : cFun Try.prog Try.f28 = some C_laws_eqStepS.erase := by kernel_rfl

def C_laws_szStepS : Fun := ⟨2, 12,
 .seq (
 .reg [⟨some 4, none, .mv (.c (.d (.int 0)))⟩]) (
 .seq (
 .reg [⟨some 5, none, .mv (.t 1)⟩,
 ⟨some 6, none, .mv (.t 0)⟩,
 ⟨some 7, none, .len (.t 6)⟩,
 ⟨some 8, none, .bin .sub (.t 5) (.t 7)⟩,
 ⟨some 1, none, .mv (.t 8)⟩]) (
 .seq (
 .seq (
 .reg [⟨some 9, none, .mv (.t 1)⟩,
 ⟨some 10, none, .bin .lss (.t 9) (.c (.d (.int 0)))⟩]) (
 .cond (.t 10) (
 .seq (
 .reg [⟨some 4, none, .mv (.c (.d (.int (-1))))⟩]) (
 .ret)) (
 .skip))) (
 .seq (
 .reg [⟨some 11, none, .mv (.t 1)⟩,
 ⟨some 4, none, .mv (.t 11)⟩]) (
 .ret)))),
 [.t 4]⟩

theorem k_laws_szStepS : cFun Try.prog Try.f39 = some C_laws_szStepS.erase := by kernel_rfl

def L0_laws_toStepS : C :=
 .seq (
 .seq (
 .reg [⟨some 8, none, .mv (.t 4)⟩,
 ⟨some 9, none, .mv (.t 0)⟩,
 ⟨some 10, none, .len (.t 9)⟩,
 ⟨some 11, none, .bin .lss (.t 8) (.t 10)⟩]) (
 .cond (.t 11) (
 .skip) (
 .exit 0))) (
 .seq (
 .block 1 (
 .reg [⟨some 14, none, .mv (.t 3)⟩,
 ⟨some 15, none, .mv (.t 4)⟩,
 ⟨some 16, none, .mv (.t 0)⟩,
 ⟨some 17, none, .mv (.t 4)⟩,
 ⟨some 18, none, .idx 2 (.t 16) (.t 17)⟩,
 ⟨some 19, none, .ldn 2 (.t 18)⟩,
 ⟨some 20, none, .call 87 [(.t 19)]⟩,
 ⟨some 21, none, .idx 2 (.t 14) (.t 15)⟩,
 ⟨none, none, .st 2 (.t 21) (.t 20)⟩])) (
 .reg [⟨some 12, none, .mv (.t 4)⟩,
 ⟨some 13, none, .bin .add (.t 12) (.c (.d (.int 1)))⟩,
 ⟨some 4, none, .mv (.t 13)⟩]))

def C_laws_toStepS : Fun := ⟨1, 23,
 .seq (
 .reg [⟨some 2, none, .mv (.c (.nil))⟩]) (
 .seq (
 .reg [⟨some 5, none, .mv (.t 0)⟩,
 ⟨some 6, none, .len (.t 5)⟩,
 ⟨some 7, none, .make 2 16 [.d (.int 0), .d (.int 0)] (.t 6) (.t 6)⟩,
 ⟨some 3, none, .mv (.t 7)⟩]) (
 .seq (
 .seq (
 .reg [⟨some 4, none, .mv (.c (.d (.int 0)))⟩]) (
 .block 0 (
 .loop L0_laws_toStepS))) (
 .seq (
 .reg [⟨some 22, none, .mv (.t 3)⟩,
 ⟨some 2, none, .mv (.t 22)⟩]) (
 .ret)))),
 [.t 2]⟩

theorem k_laws_toStepS : cFun Try.prog Try.f41 = some C_laws_toStepS.erase := by kernel_rfl

def C_laws_eqStep : Fun := ⟨2, 15,
 .seq (
 .reg [⟨some 2, none, .box (.t 0)⟩,
 ⟨some 3, none, .box (.t 1)⟩,
 ⟨some 4, none, .mv (.c (.d (.bool false)))⟩]) (
 .seq (
 .seq (
 .reg [⟨some 5, none, .fld 0 (.t 2)⟩,
 ⟨some 6, none, .ld (.t 5)⟩,
 ⟨some 7, none, .fld 0 (.t 3)⟩,
 ⟨some 8, none, .ld (.t 7)⟩,
 ⟨some 9, none, .bin .neq (.t 6) (.t 8)⟩]) (
 .cond (.t 9) (
 .seq (
 .reg [⟨some 4, none, .mv (.c (.d (.bool false)))⟩]) (
 .ret)) (
 .skip))) (
 .seq (
 .seq (
 .reg [⟨some 10, none, .fld 1 (.t 2)⟩,
 ⟨some 11, none, .ld (.t 10)⟩,
 ⟨some 12, none, .fld 1 (.t 3)⟩,
 ⟨some 13, none, .ld (.t 12)⟩,
 ⟨some 14, none, .bin .neq (.t 11) (.t 13)⟩]) (
 .cond (.t 14) (
 .seq (
 .reg [⟨some 4, none, .mv (.c (.d (.bool false)))⟩]) (
 .ret)) (
 .skip))) (
 .seq (
 .reg [⟨some 4, none, .mv (.c (.d (.bool true)))⟩]) (
 .ret)))),
 [.t 4]⟩

theorem k_laws_eqStep : cFun Try.prog Try.f76 = some C_laws_eqStep.erase := by kernel_rfl

def C_laws_toStep : Fun := ⟨1, 11,
 .seq (
 .reg [⟨some 1, none, .box (.t 0)⟩,
 ⟨some 2, none, .zer [.d (.int 0), .d (.int 0)]⟩]) (
 .seq (
 .reg [⟨some 3, none, .zer [.d (.int 0), .d (.int 0)]⟩]) (
 .seq (
 .reg [⟨some 4, none, .fld 0 (.t 1)⟩,
 ⟨some 5, none, .ld (.t 4)⟩,
 ⟨some 6, none, .fld 0 (.t 3)⟩,
 ⟨none, none, .st 1 (.t 6) (.t 5)⟩]) (
 .seq (
 .reg [⟨some 7, none, .fld 1 (.t 1)⟩,
 ⟨some 8, none, .ld (.t 7)⟩,
 ⟨some 9, none, .fld 1 (.t 3)⟩,
 ⟨none, none, .st 1 (.t 9) (.t 8)⟩]) (
 .seq (
 .reg [⟨some 10, none, .ldn 2 (.t 3)⟩,
 ⟨none, none, .st 2 (.t 2) (.t 10)⟩]) (
 .ret))))),
 [.cell 2 2]⟩

theorem k_laws_toStep : cFun Try.prog Try.f87 = some C_laws_toStep.erase := by kernel_rfl

end Go.Proofs.Ytjoopfojiiklnaa
