/-
  The compiled code of functions of the seat (written by mkcode.py). No condition.
-/
import Derived.Test.YtjoopfojiiklnaaLiftE
import Derived.Test.YtjoopfojiiklnaaProg
import Derived.KernelRfl
namespace Go.Proofs.Ytjoopfojiiklnaa
open Go.Lift

def C_spec_PlainOrder : Fun := ⟨1, 10,
 .seq (
 .reg [⟨some 1, none, .box (.t 0)⟩,
 ⟨some 2, none, .mv (.c (.nil))⟩]) (
 .seq (
 .seq (
 .reg [⟨some 3, none, .ldn 5 (.t 1)⟩,
 ⟨some 4, none, .call 68 [(.t 3)]⟩,
 ⟨some 5, none, .not (.t 4)⟩]) (
 .cond (.t 5) (
 .seq (
 .reg [⟨some 2, none, .mv (.c (.nil))⟩]) (
 .ret)) (
 .skip))) (
 .seq (
 .reg [⟨some 6, none, .fld 3 (.t 1)⟩,
 ⟨some 7, none, .ld (.t 6)⟩,
 ⟨some 8, none, .len (.t 7)⟩,
 ⟨some 9, none, .call 75 [(.t 8)]⟩,
 ⟨some 2, none, .mv (.t 9)⟩]) (
 .ret))),
 [.t 2]⟩

theorem k_spec_PlainOrder : cFun Try.prog Try.f26 = some C_spec_PlainOrder.erase := by kernel_rfl

def L0_impl_PlainOrder : C :=
 .seq (
 .seq (
 .reg [⟨some 12, none, .mv (.t 5)⟩,
 ⟨some 13, none, .mv (.t 4)⟩,
 ⟨some 14, none, .bin .sub (.t 13) (.c (.d (.int 1)))⟩,
 ⟨some 15, none, .bin .lss (.t 12) (.t 14)⟩]) (
 .cond (.t 15) (
 .skip) (
 .exit 0))) (
 .seq (
 .block 1 (
 .seq (
 .reg [⟨some 18, none, .mv (.t 5)⟩,
 ⟨some 19, none, .bin .eql (.t 18) (.c (.d (.int 0)))⟩]) (
 .cond (.t 19) (
 .reg [⟨some 20, none, .mv (.t 3)⟩,
 ⟨some 21, none, .agg [.d (.int 0), .d (.int 0)] [(0, 1, (.c (.d (.int 0)))), (1, 1, (.c (.d (.int 1))))]⟩,
 ⟨some 22, none, .mksl 2 1 [.d (.int 0), .d (.int 0)] [(0, 2, (.t 21))]⟩,
 ⟨some 23, none, .app 2 16 [.d (.int 0), .d (.int 0)] (.t 20) (.t 22)⟩,
 ⟨some 3, none, .mv (.t 23)⟩]) (
 .reg [⟨some 24, none, .mv (.t 3)⟩,
 ⟨some 25, none, .mv (.t 5)⟩,
 ⟨some 26, none, .bin .add (.t 25) (.c (.d (.int 1)))⟩,
 ⟨some 27, none, .mv (.t 4)⟩,
 ⟨some 28, none, .mv (.t 5)⟩,
 ⟨some 29, none, .bin .add (.t 27) (.t 28)⟩,
 ⟨some 30, none, .bin .sub (.t 29) (.c (.d (.int 1)))⟩,
 ⟨some 31, none, .agg [.d (.int 0), .d (.int 0)] [(0, 1, (.t 26)), (1, 1, (.t 30))]⟩,
 ⟨some 32, none, .mksl 2 1 [.d (.int 0), .d (.int 0)] [(0, 2, (.t 31))]⟩,
 ⟨some 33, none, .app 2 16 [.d (.int 0), .d (.int 0)] (.t 24) (.t 32)⟩,
 ⟨some 3, none, .mv (.t 33)⟩])))) (
 .reg [⟨some 16, none, .mv (.t 5)⟩,
 ⟨some 17, none, .bin .add (.t 16) (.c (.d (.int 1)))⟩,
 ⟨some 5, none, .mv (.t 17)⟩]))

def C_impl_PlainOrder : Fun := ⟨1, 35,
 .seq (
 .reg [⟨some 1, none, .box (.t 0)⟩,
 ⟨some 2, none, .mv (.c (.nil))⟩]) (
 .seq (
 .seq (
 .reg [⟨some 6, none, .ldn 5 (.t 1)⟩,
 ⟨some 7, none, .call 70 [(.t 6)]⟩,
 ⟨some 8, none, .not (.t 7)⟩]) (
 .cond (.t 8) (
 .seq (
 .reg [⟨some 2, none, .mv (.c (.nil))⟩]) (
 .ret)) (
 .skip))) (
 .seq (
 .reg [⟨some 3, none, .mv (.c (.nil))⟩]) (
 .seq (
 .reg [⟨some 9, none, .fld 3 (.t 1)⟩,
 ⟨some 10, none, .ld (.t 9)⟩,
 ⟨some 11, none, .len (.t 10)⟩,
 ⟨some 4, none, .mv (.t 11)⟩]) (
 .seq (
 .seq (
 .reg [⟨some 5, none, .mv (.c (.d (.int 0)))⟩]) (
 .block 0 (
 .loop L0_impl_PlainOrder))) (
 .seq (
 .reg [⟨some 34, none, .mv (.t 3)⟩,
 ⟨some 2, none, .mv (.t 34)⟩]) (
 .ret)))))),
 [.t 2]⟩

theorem k_impl_PlainOrder : cFun Try.prog Try.f27 = some C_impl_PlainOrder.erase := by kernel_rfl

def L0_laws_eqStepS : C :=
 .seq (
 .seq (
 .reg [⟨some 11, none, .mv (.t 5)⟩,
 ⟨some 12, none, .mv (.t 0)⟩,
 ⟨some 13, none, .len (.t 12)⟩,
 ⟨some 14, none, .bin .lss (.t 11) (.t 13)⟩]) (
 .cond (.t 14) (
 .skip) (
 .exit 0))) (
 .seq (
 .block 1 (
 .seq (
 .draw [⟨some 17, none, .mv (.t 0)⟩,
 ⟨some 18, none, .mv (.t 5)⟩,
 ⟨some 19, none, .idx 2 (.t 17) (.t 18)⟩,
 ⟨some 20, none, .ldn 2 (.t 19)⟩,
 ⟨some 21, none, .mv (.t 1)⟩,
 ⟨some 22, none, .mv (.t 5)⟩,
 ⟨some 23, none, .idx 2 (.t 21) (.t 22)⟩,
 ⟨some 24, none, .ldn 2 (.t 23)⟩]
 [⟨some 25, none, .call 76 [(.t 20), (.t 24)]⟩,
 ⟨some 26, none, .not (.t 25)⟩]) (
 .cond (.t 26) (
 .seq (
 .reg [⟨some 4, none, .mv (.c (.d (.bool false)))⟩]) (
 .ret)) (
 .skip)))) (
 .reg [⟨some 15, none, .mv (.t 5)⟩,
 ⟨some 16, none, .bin .add (.t 15) (.c (.d (.int 1)))⟩,
 ⟨some 5, none, .mv (.t 16)⟩]))

def C_laws_eqStepS : Fun := ⟨2, 27,
 .seq (
 .reg [⟨some 4, none, .mv (.c (.d (.bool false)))⟩]) (
 .seq (
 .seq (
 .reg [⟨some 6, none, .mv (.t 0)⟩,
 ⟨some 7, none, .len (.t 6)⟩,
 ⟨some 8, none, .mv (.t 1)⟩,
 ⟨some 9, none, .len (.t 8)⟩,
 ⟨some 10, none, .bin .neq (.t 7) (.t 9)⟩]) (
 .cond (.t 10) (
 .seq (
 .reg [⟨some 4, none, .mv (.c (.d (.bool false)))⟩]) (
 .ret)) (
 .skip))) (
 .seq (
 .seq (
 .reg [⟨some 5, none, .mv (.c (.d (.int 0)))⟩]) (
 .block 0 (
 .loop L0_laws_eqStepS))) (
 .seq (
 .reg [⟨some 4, none, .mv (.c (.d (.bool true)))⟩]) (
 .ret)))),
 [.t 4]⟩

theorem k_laws_eqStepS : cFun Try.prog Try.f28 = some C_laws_eqStepS.erase := by kernel_rfl

def L0_laws_markStepS : C :=
 .seq (
 .seq (
 .reg [⟨some 6, none, .mv (.t 5)⟩,
 ⟨some 7, none, .mv (.t 0)⟩,
 ⟨some 8, none, .len (.t 7)⟩,
 ⟨some 9, none, .bin .lss (.t 6) (.t 8)⟩]) (
 .cond (.t 9) (
 .skip) (
 .exit 0))) (
 .seq (
 .block 1 (
 .seq (
 .reg [⟨some 12, none, .mv (.t 0)⟩,
 ⟨some 13, none, .mv (.t 5)⟩,
 ⟨some 14, none, .mv (.t 1)⟩,
 ⟨some 15, none, .idx 2 (.t 12) (.t 13)⟩,
 ⟨some 16, none, .fld 0 (.t 15)⟩,
 ⟨none, none, .st 1 (.t 16) (.t 14)⟩]) (
 .seq (
 .reg [⟨some 17, none, .mv (.t 1)⟩,
 ⟨some 18, none, .bin .add (.t 17) (.c (.d (.int 1)))⟩,
 ⟨some 1, none, .mv (.t 18)⟩]) (
 .seq (
 .reg [⟨some 19, none, .mv (.t 0)⟩,
 ⟨some 20, none, .mv (.t 5)⟩,
 ⟨some 21, none, .mv (.t 1)⟩,
 ⟨some 22, none, .idx 2 (.t 19) (.t 20)⟩,
 ⟨some 23, none, .fld 1 (.t 22)⟩,
 ⟨none, none, .st 1 (.t 23) (.t 21)⟩]) (
 .reg [⟨some 24, none, .mv (.t 1)⟩,
 ⟨some 25, none, .bin .add (.t 24) (.c (.d (.int 1)))⟩,
 ⟨some 1, none, .mv (.t 25)⟩]))))) (
 .reg [⟨some 10, none, .mv (.t 5)⟩,
 ⟨some 11, none, .bin .add (.t 10) (.c (.d (.int 1)))⟩,
 ⟨some 5, none, .mv (.t 11)⟩]))

def C_laws_markStepS : Fun := ⟨2, 27,
 .seq (
 .reg [⟨some 4, none, .mv (.c (.d (.int 0)))⟩]) (
 .seq (
 .seq (
 .reg [⟨some 5, none, .mv (.c (.d (.int 0)))⟩]) (
 .block 0 (
 .loop L0_laws_markStepS))) (
 .seq (
 .reg [⟨some 26, none, .mv (.t 1)⟩,
 ⟨some 4, none, .mv (.t 26)⟩]) (
 .ret))),
 [.t 4]⟩

theorem k_laws_markStepS : cFun Try.prog Try.f29 = some C_laws_markStepS.erase := by kernel_rfl

def L0_laws_heldStepS : C :=
 .seq (
 .seq (
 .reg [⟨some 6, none, .mv (.t 5)⟩,
 ⟨some 7, none, .mv (.t 0)⟩,
 ⟨some 8, none, .len (.t 7)⟩,
 ⟨some 9, none, .bin .lss (.t 6) (.t 8)⟩]) (
 .cond (.t 9) (
 .skip) (
 .exit 0))) (
 .seq (
 .block 1 (
 .seq (
 .seq (
 .reg [⟨some 12, none, .mv (.t 0)⟩,
 ⟨some 13, none, .mv (.t 5)⟩,
 ⟨some 14, none, .idx 2 (.t 12) (.t 13)⟩,
 ⟨some 15, none, .fld 0 (.t 14)⟩,
 ⟨some 16, none, .ld (.t 15)⟩,
 ⟨some 17, none, .mv (.t 1)⟩,
 ⟨some 18, none, .bin .neq (.t 16) (.t 17)⟩]) (
 .cond (.t 18) (
 .seq (
 .reg [⟨some 4, none, .mv (.c (.d (.int (-1))))⟩]) (
 .ret)) (
 .skip))) (
 .seq (
 .reg [⟨some 19, none, .mv (.t 1)⟩,
 ⟨some 20, none, .bin .add (.t 19) (.c (.d (.int 1)))⟩,
 ⟨some 1, none, .mv (.t 20)⟩]) (
 .seq (
 .seq (
 .reg [⟨some 21, none, .mv (.t 0)⟩,
 ⟨some 22, none, .mv (.t 5)⟩,
 ⟨some 23, none, .idx 2 (.t 21) (.t 22)⟩,
 ⟨some 24, none, .fld 1 (.t 23)⟩,
 ⟨some 25, none, .ld (.t 24)⟩,
 ⟨some 26, none, .mv (.t 1)⟩,
 ⟨some 27, none, .bin .neq (.t 25) (.t 26)⟩]) (
 .cond (.t 27) (
 .seq (
 .reg [⟨some 4, none, .mv (.c (.d (.int (-1))))⟩]) (
 .ret)) (
 .skip))) (
 .reg [⟨some 28, none, .mv (.t 1)⟩,
 ⟨some 29, none, .bin .add (.t 28) (.c (.d (.int 1)))⟩,
 ⟨some 1, none, .mv (.t 29)⟩]))))) (
 .reg [⟨some 10, none, .mv (.t 5)⟩,
 ⟨some 11, none, .bin .add (.t 10) (.c (.d (.int 1)))⟩,
 ⟨some 5, none, .mv (.t 11)⟩]))

def C_laws_heldStepS : Fun := ⟨2, 31,
 .seq (
 .reg [⟨some 4, none, .mv (.c (.d (.int 0)))⟩]) (
 .seq (
 .seq (
 .reg [⟨some 5, none, .mv (.c (.d (.int 0)))⟩]) (
 .block 0 (
 .loop L0_laws_heldStepS))) (
 .seq (
 .reg [⟨some 30, none, .mv (.t 1)⟩,
 ⟨some 4, none, .mv (.t 30)⟩]) (
 .ret))),
 [.t 4]⟩

theorem k_laws_heldStepS : cFun Try.prog Try.f30 = some C_laws_heldStepS.erase := by kernel_rfl

def C_laws_szStepS : Fun := ⟨2, 12,
 .seq (
 .reg [⟨some 4, none, .mv (.c (.d (.int 0)))⟩]) (
 .seq (
 .reg [⟨some 5, none, .mv (.t 1)⟩,
 ⟨some 6, none, .mv (.t 0)⟩,
 ⟨some 7, none, .len (.t 6)⟩,
 ⟨some 8, none, .bin .sub (.t 5) (.t 7)⟩,
 ⟨some 1, none, .mv (.t 8)⟩]) (
 .seq (
 .seq (
 .reg [⟨some 9, none, .mv (.t 1)⟩,
 ⟨some 10, none, .bin .lss (.t 9) (.c (.d (.int 0)))⟩]) (
 .cond (.t 10) (
 .seq (
 .reg [⟨some 4, none, .mv (.c (.d (.int (-1))))⟩]) (
 .ret)) (
 .skip))) (
 .seq (
 .reg [⟨some 11, none, .mv (.t 1)⟩,
 ⟨some 4, none, .mv (.t 11)⟩]) (
 .ret)))),
 [.t 4]⟩

theorem k_laws_szStepS : cFun Try.prog Try.f39 = some C_laws_szStepS.erase := by kernel_rfl

def L0_laws_toStepS : C :=
 .seq (
 .seq (
 .reg [⟨some 8, none, .mv (.t 4)⟩,
 ⟨some 9, none, .mv (.t 0)⟩,
 ⟨some 10, none, .len (.t 9)⟩,
 ⟨some 11, none, .bin .lss (.t 8) (.t 10)⟩]) (
 .cond (.t 11) (
 .skip) (
 .exit 0))) (
 .seq (
 .block 1 (
 .reg [⟨some 14, none, .mv (.t 3)⟩,
 ⟨some 15, none, .mv (.t 4)⟩,
 ⟨some 16, none, .mv (.t 0)⟩,
 ⟨some 17, none, .mv (.t 4)⟩,
 ⟨some 18, none, .idx 2 (.t 16) (.t 17)⟩,
 ⟨some 19, none, .ldn 2 (.t 18)⟩,
 ⟨some 20, none, .call 87 [(.t 19)]⟩,
 ⟨some 21, none, .idx 2 (.t 14) (.t 15)⟩,
 ⟨none, none, .st 2 (.t 21) (.t 20)⟩])) (
 .reg [⟨some 12, none, .mv (.t 4)⟩,
 ⟨some 13, none, .bin .add (.t 12) (.c (.d (.int 1)))⟩,
 ⟨some 4, none, .mv (.t 13)⟩]))

def C_laws_toStepS : Fun := ⟨1, 23,
 .seq (
 .reg [⟨some 2, none, .mv (.c (.nil))⟩]) (
 .seq (
 .reg [⟨some 5, none, .mv (.t 0)⟩,
 ⟨some 6, none, .len (.t 5)⟩,
 ⟨some 7, none, .make 2 16 [.d (.int 0), .d (.int 0)] (.t 6) (.t 6)⟩,
 ⟨some 3, none, .mv (.t 7)⟩]) (
 .seq (
 .seq (
 .reg [⟨some 4, none, .mv (.c (.d (.int 0)))⟩]) (
 .block 0 (
 .loop L0_laws_toStepS))) (
 .seq (
 .reg [⟨some 22, none, .mv (.t 3)⟩,
 ⟨some 2, none, .mv (.t 22)⟩]) (
 .ret)))),
 [.t 2]⟩

theorem k_laws_toStepS : cFun Try.prog Try.f41 = some C_laws_toStepS.erase := by kernel_rfl

def L0_spec_l17Plain : C :=
 .seq (
 .seq (
 .reg [⟨some 6, none, .mv (.t 4)⟩,
 ⟨some 7, none, .mv (.t 0)⟩,
 ⟨some 8, none, .bin .lss (.t 6) (.t 7)⟩]) (
 .cond (.t 8) (
 .skip) (
 .exit 0))) (
 .seq (
 .block 1 (
 .seq (
 .reg [⟨some 11, none, .mv (.t 4)⟩,
 ⟨some 12, none, .bin .eql (.t 11) (.c (.d (.int 1)))⟩]) (
 .cond (.t 12) (
 .reg [⟨some 13, none, .mv (.t 3)⟩,
 ⟨some 14, none, .agg [.d (.int 0), .d (.int 0)] [(0, 1, (.c (.d (.int 0)))), (1, 1, (.c (.d (.int 1))))]⟩,
 ⟨some 15, none, .mksl 2 1 [.d (.int 0), .d (.int 0)] [(0, 2, (.t 14))]⟩,
 ⟨some 16, none, .app 2 16 [.d (.int 0), .d (.int 0)] (.t 13) (.t 15)⟩,
 ⟨some 3, none, .mv (.t 16)⟩]) (
 .reg [⟨some 17, none, .mv (.t 3)⟩,
 ⟨some 18, none, .mv (.t 4)⟩,
 ⟨some 19, none, .mv (.t 0)⟩,
 ⟨some 20, none, .mv (.t 4)⟩,
 ⟨some 21, none, .bin .add (.t 19) (.t 20)⟩,
 ⟨some 22, none, .bin .sub (.t 21) (.c (.d (.int 2)))⟩,
 ⟨some 23, none, .agg [.d (.int 0), .d (.int 0)] [(0, 1, (.t 18)), (1, 1, (.t 22))]⟩,
 ⟨some 24, none, .mksl 2 1 [.d (.int 0), .d (.int 0)] [(0, 2, (.t 23))]⟩,
 ⟨some 25, none, .app 2 16 [.d (.int 0), .d (.int 0)] (.t 17) (.t 24)⟩,
 ⟨some 3, none, .mv (.t 25)⟩])))) (
 .reg [⟨some 9, none, .mv (.t 4)⟩,
 ⟨some 10, none, .bin .add (.t 9) (.c (.d (.int 1)))⟩,
 ⟨some 4, none, .mv (.t 10)⟩]))

def C_spec_l17Plain : Fun := ⟨1, 27,
 .seq (
 .reg [⟨some 2, none, .mv (.c (.nil))⟩]) (
 .seq (
 .reg [⟨some 5, none, .mksl 2 0 [.d (.int 0), .d (.int 0)] []⟩,
 ⟨some 3, none, .mv (.t 5)⟩]) (
 .seq (
 .seq (
 .reg [⟨some 4, none, .mv (.c (.d (.int 1)))⟩]) (
 .block 0 (
 .loop L0_spec_l17Plain))) (
 .seq (
 .reg [⟨some 26, none, .mv (.t 3)⟩,
 ⟨some 2, none, .mv (.t 26)⟩]) (
 .ret)))),
 [.t 2]⟩

theorem k_spec_l17Plain : cFun Try.prog Try.f75 = some C_spec_l17Plain.erase := by kernel_rfl

def C_laws_eqStep : Fun := ⟨2, 15,
 .seq (
 .reg [⟨some 2, none, .box (.t 0)⟩,
 ⟨some 3, none, .box (.t 1)⟩,
 ⟨some 4, none, .mv (.c (.d (.bool false)))⟩]) (
 .seq (
 .seq (
 .reg [⟨some 5, none, .fld 0 (.t 2)⟩,
 ⟨some 6, none, .ld (.t 5)⟩,
 ⟨some 7, none, .fld 0 (.t 3)⟩,
 ⟨some 8, none, .ld (.t 7)⟩,
 ⟨some 9, none, .bin .neq (.t 6) (.t 8)⟩]) (
 .cond (.t 9) (
 .seq (
 .reg [⟨some 4, none, .mv (.c (.d (.bool false)))⟩]) (
 .ret)) (
 .skip))) (
 .seq (
 .seq (
 .reg [⟨some 10, none, .fld 1 (.t 2)⟩,
 ⟨some 11, none, .ld (.t 10)⟩,
 ⟨some 12, none, .fld 1 (.t 3)⟩,
 ⟨some 13, none, .ld (.t 12)⟩,
 ⟨some 14, none, .bin .neq (.t 11) (.t 13)⟩]) (
 .cond (.t 14) (
 .seq (
 .reg [⟨some 4, none, .mv (.c (.d (.bool false)))⟩]) (
 .ret)) (
 .skip))) (
 .seq (
 .reg [⟨some 4, none, .mv (.c (.d (.bool true)))⟩]) (
 .ret)))),
 [.t 4]⟩

theorem k_laws_eqStep : cFun Try.prog Try.f76 = some C_laws_eqStep.erase := by kernel_rfl

def C_laws_toStep : Fun := ⟨1, 11,
 .seq (
 .reg [⟨some 1, none, .box (.t 0)⟩,
 ⟨some 2, none, .zer [.d (.int 0), .d (.int 0)]⟩]) (
 .seq (
 .reg [⟨some 3, none, .zer [.d (.int 0), .d (.int 0)]⟩]) (
 .seq (
 .reg [⟨some 4, none, .fld 0 (.t 1)⟩,
 ⟨some 5, none, .ld (.t 4)⟩,
 ⟨some 6, none, .fld 0 (.t 3)⟩,
 ⟨none, none, .st 1 (.t 6) (.t 5)⟩]) (
 .seq (
 .reg [⟨some 7, none, .fld 1 (.t 1)⟩,
 ⟨some 8, none, .ld (.t 7)⟩,
 ⟨some 9, none, .fld 1 (.t 3)⟩,
 ⟨none, none, .st 1 (.t 9) (.t 8)⟩]) (
 .seq (
 .reg [⟨some 10, none, .ldn 2 (.t 3)⟩,
 ⟨none, none, .st 2 (.t 2) (.t 10)⟩]) (
 .ret))))),
 [.cell 2 2]⟩

theorem k_laws_toStep : cFun Try.prog Try.f87 = some C_laws_toStep.erase := by kernel_rfl

end Go.Proofs.Ytjoopfojiiklnaa
