/-
  The compiled code of functions of the seat (written by mkcode.py). No condition.
-/
import Derived.Test.YtcgnehacihjnkaaLiftE
import Derived.Test.YtcgnehacihjnkaaProg
import Derived.KernelRfl
namespace Go.Proofs.Ytcgnehacihjnkaa
open Go.Lift

def C_impl_LabelsOf : Fun := ⟨1, 16,
 .seq (
 .reg [⟨some 1, none, .box (.t 0)⟩,
 ⟨some 2, none, .mv (.c (.nil))⟩]) (
 .seq (
 .seq (
 .reg [⟨some 5, none, .ldn 5 (.t 1)⟩,
 ⟨some 6, none, .call 66 [(.t 5)]⟩,
 ⟨some 7, none, .not (.t 6)⟩]) (
 .cond (.t 7) (
 .seq (
 .reg [⟨some 2, none, .mv (.c (.nil))⟩]) (
 .ret)) (
 .skip))) (
 .seq (
 .reg [⟨some 9, none, .fld 3 (.t 1)⟩,
 ⟨some 10, none, .ld (.t 9)⟩,
 ⟨some 11, none, .call 141 [(.t 10)]⟩,
 ⟨some 8, none, .mv (.t 11)⟩,
 ⟨some 12, none, .ext 0 (.t 8)⟩,
 ⟨some 13, none, .ext 1 (.t 8)⟩,
 ⟨some 3, none, .zer (reps 100 (.d (.int 0)))⟩,
 ⟨none, none, .st 100 (.t 3) (.t 12)⟩,
 ⟨some 4, none, .mv (.t 13)⟩]) (
 .seq (
 .reg [⟨some 14, none, .ldn 100 (.t 3)⟩,
 ⟨some 15, none, .call 151 [(.t 14)]⟩,
 ⟨some 2, none, .mv (.t 15)⟩]) (
 .ret)))),
 [.t 2]⟩

theorem k_impl_LabelsOf : cFun Try.prog Try.f79 = some C_impl_LabelsOf.erase := by kernel_rfl

def C_spec_ClosedLabels : Fun := ⟨1, 8,
 .seq (
 .reg [⟨some 1, none, .box (.t 0)⟩,
 ⟨some 2, none, .mv (.c (.nil))⟩]) (
 .seq (
 .seq (
 .reg [⟨some 3, none, .ldn 5 (.t 1)⟩,
 ⟨some 4, none, .call 61 [(.t 3)]⟩,
 ⟨some 5, none, .not (.t 4)⟩]) (
 .cond (.t 5) (
 .seq (
 .reg [⟨some 2, none, .mv (.c (.nil))⟩]) (
 .ret)) (
 .skip))) (
 .seq (
 .reg [⟨some 6, none, .ldn 5 (.t 1)⟩,
 ⟨some 7, none, .call 104 [(.t 6)]⟩,
 ⟨some 2, none, .mv (.t 7)⟩]) (
 .ret))),
 [.t 2]⟩

theorem k_spec_ClosedLabels : cFun Try.prog Try.f88 = some C_spec_ClosedLabels.erase := by kernel_rfl

def L0_impl_ClosedLabels : C :=
 .seq (
 .reg [⟨some 10, none, .bin .lss (.t 9) (.t 8)⟩]) (
 .seq (
 .cond (.t 10) (
 .skip) (
 .exit 0)) (
 .seq (
 .block 1 (
 .seq (
 .reg [⟨some 11, none, .idx 1 (.t 7) (.t 9)⟩,
 ⟨some 12, none, .ld (.t 11)⟩,
 ⟨some 5, none, .mv (.t 12)⟩]) (
 .seq (
 .reg [⟨some 13, none, .fld 4 (.t 1)⟩,
 ⟨some 14, none, .ld (.t 13)⟩,
 ⟨some 15, none, .mv (.t 5)⟩,
 ⟨some 16, none, .call 67 [(.t 14), (.t 15)]⟩,
 ⟨some 17, none, .not (.t 16)⟩]) (
 .cond (.t 17) (
 .reg [⟨some 18, none, .mv (.t 3)⟩,
 ⟨some 19, none, .mv (.t 5)⟩,
 ⟨some 20, none, .mksl 1 1 [.d (.int 0)] [(0, 1, (.t 19))]⟩,
 ⟨some 21, none, .app 1 8 [.d (.int 0)] (.t 18) (.t 20)⟩,
 ⟨some 3, none, .mv (.t 21)⟩]) (
 .skip))))) (
 .reg [⟨some 22, none, .bin .add (.t 9) (.c (.d (.int 1)))⟩,
 ⟨some 9, none, .mv (.t 22)⟩])))

def C_impl_ClosedLabels : Fun := ⟨1, 24,
 .seq (
 .reg [⟨some 1, none, .box (.t 0)⟩,
 ⟨some 2, none, .mv (.c (.nil))⟩]) (
 .seq (
 .reg [⟨some 3, none, .mv (.c (.nil))⟩]) (
 .seq (
 .seq (
 .reg [⟨some 6, none, .ldn 5 (.t 1)⟩,
 ⟨some 7, none, .call 79 [(.t 6)]⟩,
 ⟨some 8, none, .len (.t 7)⟩,
 ⟨some 9, none, .mv (.c (.d (.int 0)))⟩]) (
 .block 0 (
 .loop L0_impl_ClosedLabels))) (
 .seq (
 .reg [⟨some 23, none, .mv (.t 3)⟩,
 ⟨some 2, none, .mv (.t 23)⟩]) (
 .ret)))),
 [.t 2]⟩

theorem k_impl_ClosedLabels : cFun Try.prog Try.f90 = some C_impl_ClosedLabels.erase := by kernel_rfl

def L0_spec_l12Labels : C :=
 .seq (
 .seq (
 .reg [⟨some 6, none, .mv (.t 4)⟩,
 ⟨some 7, none, .bin .leq (.t 6) (.c (.d (.int 99)))⟩]) (
 .cond (.t 7) (
 .skip) (
 .exit 0))) (
 .seq (
 .block 1 (
 .seq (
 .reg [⟨some 10, none, .mv (.t 0)⟩,
 ⟨some 11, none, .mv (.t 4)⟩,
 ⟨some 12, none, .call 95 [(.t 10), (.t 11)]⟩,
 ⟨some 13, none, .bin .gtr (.t 12) (.c (.d (.int 0)))⟩]) (
 .cond (.t 13) (
 .reg [⟨some 14, none, .mv (.t 3)⟩,
 ⟨some 15, none, .mv (.t 4)⟩,
 ⟨some 16, none, .mksl 1 1 [.d (.int 0)] [(0, 1, (.t 15))]⟩,
 ⟨some 17, none, .app 1 8 [.d (.int 0)] (.t 14) (.t 16)⟩,
 ⟨some 3, none, .mv (.t 17)⟩]) (
 .skip)))) (
 .reg [⟨some 8, none, .mv (.t 4)⟩,
 ⟨some 9, none, .bin .add (.t 8) (.c (.d (.int 1)))⟩,
 ⟨some 4, none, .mv (.t 9)⟩]))

def C_spec_l12Labels : Fun := ⟨1, 19,
 .seq (
 .reg [⟨some 2, none, .mv (.c (.nil))⟩]) (
 .seq (
 .reg [⟨some 5, none, .mksl 1 0 [.d (.int 0)] []⟩,
 ⟨some 3, none, .mv (.t 5)⟩]) (
 .seq (
 .seq (
 .reg [⟨some 4, none, .mv (.c (.d (.int 0)))⟩]) (
 .block 0 (
 .loop L0_spec_l12Labels))) (
 .seq (
 .reg [⟨some 18, none, .mv (.t 3)⟩,
 ⟨some 2, none, .mv (.t 18)⟩]) (
 .ret)))),
 [.t 2]⟩

theorem k_spec_l12Labels : cFun Try.prog Try.f76 = some C_spec_l12Labels.erase := by kernel_rfl

def L0_impl_occurring : C :=
 .seq (
 .reg [⟨some 8, none, .bin .lss (.t 7) (.c (.d (.int 100)))⟩]) (
 .seq (
 .cond (.t 8) (
 .skip) (
 .exit 0)) (
 .seq (
 .block 1 (
 .seq (
 .reg [⟨some 9, none, .mv (.t 7)⟩,
 ⟨some 10, none, .ixa 100 (.t 6) (.t 7)⟩,
 ⟨some 4, none, .mv (.t 9)⟩,
 ⟨some 5, none, .mv (.t 10)⟩]) (
 .seq (
 .reg [⟨some 11, none, .mv (.t 5)⟩,
 ⟨some 12, none, .bin .neq (.t 11) (.c (.d (.int 0)))⟩]) (
 .cond (.t 12) (
 .reg [⟨some 13, none, .mv (.t 3)⟩,
 ⟨some 14, none, .mv (.t 4)⟩,
 ⟨some 15, none, .mksl 1 1 [.d (.int 0)] [(0, 1, (.t 14))]⟩,
 ⟨some 16, none, .app 1 8 [.d (.int 0)] (.t 13) (.t 15)⟩,
 ⟨some 3, none, .mv (.t 16)⟩]) (
 .skip))))) (
 .reg [⟨some 17, none, .bin .add (.t 7) (.c (.d (.int 1)))⟩,
 ⟨some 7, none, .mv (.t 17)⟩])))

def C_impl_occurring : Fun := ⟨1, 19,
 .seq (
 .reg [⟨some 1, none, .box (.t 0)⟩,
 ⟨some 2, none, .mv (.c (.nil))⟩]) (
 .seq (
 .reg [⟨some 3, none, .mv (.c (.nil))⟩]) (
 .seq (
 .seq (
 .reg [⟨some 6, none, .ldn 100 (.t 1)⟩,
 ⟨some 7, none, .mv (.c (.d (.int 0)))⟩]) (
 .block 0 (
 .loop L0_impl_occurring))) (
 .seq (
 .reg [⟨some 18, none, .mv (.t 3)⟩,
 ⟨some 2, none, .mv (.t 18)⟩]) (
 .ret)))),
 [.t 2]⟩

theorem k_impl_occurring : cFun Try.prog Try.f151 = some C_impl_occurring.erase := by kernel_rfl

def L0_spec_l21Closed : C :=
 .seq (
 .reg [⟨some 12, none, .bin .lss (.t 11) (.t 10)⟩]) (
 .seq (
 .cond (.t 12) (
 .skip) (
 .exit 0)) (
 .seq (
 .block 1 (
 .seq (
 .reg [⟨some 13, none, .idx 1 (.t 9) (.t 11)⟩,
 ⟨some 14, none, .ld (.t 13)⟩,
 ⟨some 5, none, .mv (.t 14)⟩]) (
 .seq (
 .reg [⟨some 15, none, .fld 4 (.t 1)⟩,
 ⟨some 16, none, .ld (.t 15)⟩,
 ⟨some 17, none, .mv (.t 5)⟩,
 ⟨some 18, none, .call 63 [(.t 16), (.t 17)]⟩,
 ⟨some 19, none, .bin .lss (.t 18) (.c (.d (.int 0)))⟩]) (
 .cond (.t 19) (
 .reg [⟨some 20, none, .mv (.t 3)⟩,
 ⟨some 21, none, .mv (.t 5)⟩,
 ⟨some 22, none, .mksl 1 1 [.d (.int 0)] [(0, 1, (.t 21))]⟩,
 ⟨some 23, none, .app 1 8 [.d (.int 0)] (.t 20) (.t 22)⟩,
 ⟨some 3, none, .mv (.t 23)⟩]) (
 .skip))))) (
 .reg [⟨some 24, none, .bin .add (.t 11) (.c (.d (.int 1)))⟩,
 ⟨some 11, none, .mv (.t 24)⟩])))

def C_spec_l21Closed : Fun := ⟨1, 26,
 .seq (
 .reg [⟨some 1, none, .box (.t 0)⟩,
 ⟨some 2, none, .mv (.c (.nil))⟩]) (
 .seq (
 .reg [⟨some 6, none, .mksl 1 0 [.d (.int 0)] []⟩,
 ⟨some 3, none, .mv (.t 6)⟩]) (
 .seq (
 .seq (
 .reg [⟨some 7, none, .fld 3 (.t 1)⟩,
 ⟨some 8, none, .ld (.t 7)⟩,
 ⟨some 9, none, .call 76 [(.t 8)]⟩,
 ⟨some 10, none, .len (.t 9)⟩,
 ⟨some 11, none, .mv (.c (.d (.int 0)))⟩]) (
 .block 0 (
 .loop L0_spec_l21Closed))) (
 .seq (
 .reg [⟨some 25, none, .mv (.t 3)⟩,
 ⟨some 2, none, .mv (.t 25)⟩]) (
 .ret)))),
 [.t 2]⟩

theorem k_spec_l21Closed : cFun Try.prog Try.f104 = some C_spec_l21Closed.erase := by kernel_rfl

end Go.Proofs.Ytcgnehacihjnkaa
