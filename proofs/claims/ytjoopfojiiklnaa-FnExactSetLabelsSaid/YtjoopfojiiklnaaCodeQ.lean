/-
  The compiled code of functions of the seat (written by mkcode.py). No condition.
-/
import Derived.Test.YtjoopfojiiklnaaLiftE
import Derived.Test.YtjoopfojiiklnaaProg
import Derived.KernelRfl
namespace Go.Proofs.Ytjoopfojiiklnaa
open Go.Lift

def C_spec_SetLabels : Fun := ⟨2, 21,
 .seq (
 .reg [⟨some 2, none, .box (.t 0)⟩,
 ⟨some 4, none, .mv (.c (.nil))⟩]) (
 .seq (
 .seq (
 .reg [⟨some 5, none, .ldn 5 (.t 2)⟩,
 ⟨some 6, none, .call 68 [(.t 5)]⟩,
 ⟨some 7, none, .not (.t 6)⟩,
 ⟨some 8, none, .mv (.t 7)⟩,
 ⟨some 9, some (8, false), .mv (.t 1)⟩,
 ⟨some 10, some (8, false), .fld 3 (.t 2)⟩,
 ⟨some 11, some (8, false), .ld (.t 10)⟩,
 ⟨some 12, some (8, false), .len (.t 11)⟩,
 ⟨some 13, some (8, false), .bin .shl (.c (.d (.int 1))) (.t 12)⟩,
 ⟨some 14, some (8, false), .bin .sub (.t 13) (.c (.d (.int 1)))⟩,
 ⟨some 15, some (8, false), .call 72 [(.t 9), (.c (.d (.int 0))), (.t 14)]⟩,
 ⟨some 16, some (8, false), .not (.t 15)⟩,
 ⟨some 17, none, .pick (.t 8) (.c (.d (.bool true))) (.t 16)⟩]) (
 .cond (.t 17) (
 .seq (
 .reg [⟨some 4, none, .mv (.c (.nil))⟩]) (
 .ret)) (
 .skip))) (
 .seq (
 .reg [⟨some 18, none, .ldn 5 (.t 2)⟩,
 ⟨some 19, none, .mv (.t 1)⟩,
 ⟨some 20, none, .call 73 [(.t 18), (.t 19)]⟩,
 ⟨some 4, none, .mv (.t 20)⟩]) (
 .ret))),
 [.t 4]⟩

theorem k_spec_SetLabels : cFun Try.prog Try.f20 = some C_spec_SetLabels.erase := by kernel_rfl

def C_impl_SetLabels : Fun := ⟨2, 23,
 .seq (
 .reg [⟨some 2, none, .box (.t 0)⟩,
 ⟨some 4, none, .mv (.c (.nil))⟩]) (
 .seq (
 .seq (
 .reg [⟨some 5, none, .ldn 5 (.t 2)⟩,
 ⟨some 6, none, .call 70 [(.t 5)]⟩,
 ⟨some 7, none, .not (.t 6)⟩,
 ⟨some 8, none, .mv (.t 7)⟩,
 ⟨some 9, some (8, false), .mv (.t 1)⟩,
 ⟨some 10, some (8, false), .bin .lss (.t 9) (.c (.d (.int 0)))⟩,
 ⟨some 11, none, .pick (.t 8) (.c (.d (.bool true))) (.t 10)⟩,
 ⟨some 12, none, .mv (.t 11)⟩,
 ⟨some 13, some (12, false), .mv (.t 1)⟩,
 ⟨some 14, some (12, false), .fld 3 (.t 2)⟩,
 ⟨some 15, some (12, false), .ld (.t 14)⟩,
 ⟨some 16, some (12, false), .len (.t 15)⟩,
 ⟨some 17, some (12, false), .bin .shl (.c (.d (.int 1))) (.t 16)⟩,
 ⟨some 18, some (12, false), .bin .geq (.t 13) (.t 17)⟩,
 ⟨some 19, none, .pick (.t 12) (.c (.d (.bool true))) (.t 18)⟩]) (
 .cond (.t 19) (
 .seq (
 .reg [⟨some 4, none, .mv (.c (.nil))⟩]) (
 .ret)) (
 .skip))) (
 .seq (
 .reg [⟨some 20, none, .ldn 5 (.t 2)⟩,
 ⟨some 21, none, .mv (.t 1)⟩,
 ⟨some 22, none, .call 74 [(.t 20), (.t 21)]⟩,
 ⟨some 4, none, .mv (.t 22)⟩]) (
 .ret))),
 [.t 4]⟩

theorem k_impl_SetLabels : cFun Try.prog Try.f21 = some C_impl_SetLabels.erase := by kernel_rfl

def L0_spec_l20Labels : C :=
 .seq (
 .reg [⟨some 41, none, .bin .lss (.t 40) (.t 39)⟩]) (
 .seq (
 .cond (.t 41) (
 .skip) (
 .exit 2)) (
 .seq (
 .block 3 (
 .seq (
 .reg [⟨some 42, none, .idx 1 (.t 38) (.t 40)⟩,
 ⟨some 43, none, .ld (.t 42)⟩,
 ⟨some 11, none, .mv (.t 43)⟩]) (
 .seq (
 .reg [⟨some 44, none, .fld 4 (.t 2)⟩,
 ⟨some 45, none, .ld (.t 44)⟩,
 ⟨some 46, none, .mv (.t 11)⟩,
 ⟨some 47, none, .call 82 [(.t 45), (.t 46)]⟩,
 ⟨some 48, none, .bin .geq (.t 47) (.c (.d (.int 0)))⟩,
 ⟨some 49, none, .mv (.t 48)⟩,
 ⟨some 50, some (49, false), .mv (.t 6)⟩,
 ⟨some 51, some (49, false), .mv (.t 11)⟩,
 ⟨some 52, some (49, false), .call 108 [(.t 50), (.t 51)]⟩,
 ⟨some 53, some (49, false), .bin .gtr (.t 52) (.c (.d (.int 0)))⟩,
 ⟨some 54, none, .pick (.t 49) (.c (.d (.bool true))) (.t 53)⟩]) (
 .cond (.t 54) (
 .reg [⟨some 55, none, .mv (.t 9)⟩,
 ⟨some 56, none, .mv (.t 11)⟩,
 ⟨some 57, none, .mksl 1 1 [.d (.int 0)] [(0, 1, (.t 56))]⟩,
 ⟨some 58, none, .app 1 8 [.d (.int 0)] (.t 55) (.t 57)⟩,
 ⟨some 9, none, .mv (.t 58)⟩]) (
 .skip))))) (
 .reg [⟨some 59, none, .bin .add (.t 40) (.c (.d (.int 1)))⟩,
 ⟨some 40, none, .mv (.t 59)⟩])))

def L1_spec_l20Labels : C :=
 .seq (
 .reg [⟨some 18, none, .bin .lss (.t 17) (.t 16)⟩]) (
 .seq (
 .cond (.t 18) (
 .skip) (
 .exit 0)) (
 .seq (
 .block 1 (
 .seq (
 .reg [⟨some 19, none, .mv (.t 17)⟩,
 ⟨some 20, none, .idx 3 (.t 15) (.t 17)⟩,
 ⟨some 21, none, .ldn 3 (.t 20)⟩,
 ⟨some 8, none, .zer [.nil, .nil, .nil]⟩,
 ⟨some 7, none, .mv (.t 19)⟩,
 ⟨none, none, .st 3 (.t 8) (.t 21)⟩]) (
 .seq (
 .reg [⟨some 22, none, .mv (.t 1)⟩,
 ⟨some 23, none, .mv (.t 7)⟩,
 ⟨some 24, none, .bin .shr (.t 22) (.t 23)⟩,
 ⟨some 25, none, .bin .and (.t 24) (.c (.d (.int 1)))⟩,
 ⟨some 26, none, .bin .eql (.t 25) (.c (.d (.int 1)))⟩]) (
 .cond (.t 26) (
 .reg [⟨some 27, none, .mv (.t 5)⟩,
 ⟨some 28, none, .ldn 3 (.t 8)⟩,
 ⟨some 29, none, .mksl 3 1 [.nil, .nil, .nil] [(0, 3, (.t 28))]⟩,
 ⟨some 30, none, .app 3 72 [.nil, .nil, .nil] (.t 27) (.t 29)⟩,
 ⟨some 5, none, .mv (.t 30)⟩]) (
 .reg [⟨some 31, none, .mv (.t 6)⟩,
 ⟨some 32, none, .ldn 3 (.t 8)⟩,
 ⟨some 33, none, .mksl 3 1 [.nil, .nil, .nil] [(0, 3, (.t 32))]⟩,
 ⟨some 34, none, .app 3 72 [.nil, .nil, .nil] (.t 31) (.t 33)⟩,
 ⟨some 6, none, .mv (.t 34)⟩]))))) (
 .reg [⟨some 35, none, .bin .add (.t 17) (.c (.d (.int 1)))⟩,
 ⟨some 17, none, .mv (.t 35)⟩])))

def C_spec_l20Labels : Fun := ⟨2, 61,
 .seq (
 .reg [⟨some 2, none, .box (.t 0)⟩,
 ⟨some 4, none, .mv (.c (.nil))⟩]) (
 .seq (
 .reg [⟨some 12, none, .mksl 3 0 [.nil, .nil, .nil] []⟩,
 ⟨some 5, none, .mv (.t 12)⟩]) (
 .seq (
 .reg [⟨some 13, none, .mksl 3 0 [.nil, .nil, .nil] []⟩,
 ⟨some 6, none, .mv (.t 13)⟩]) (
 .seq (
 .seq (
 .reg [⟨some 14, none, .fld 3 (.t 2)⟩,
 ⟨some 15, none, .ld (.t 14)⟩,
 ⟨some 16, none, .len (.t 15)⟩,
 ⟨some 17, none, .mv (.c (.d (.int 0)))⟩]) (
 .block 0 (
 .loop L1_spec_l20Labels))) (
 .seq (
 .reg [⟨some 36, none, .mksl 1 0 [.d (.int 0)] []⟩,
 ⟨some 9, none, .mv (.t 36)⟩]) (
 .seq (
 .seq (
 .reg [⟨some 37, none, .mv (.t 5)⟩,
 ⟨some 38, none, .call 69 [(.t 37)]⟩,
 ⟨some 39, none, .len (.t 38)⟩,
 ⟨some 40, none, .mv (.c (.d (.int 0)))⟩]) (
 .block 2 (
 .loop L0_spec_l20Labels))) (
 .seq (
 .reg [⟨some 60, none, .mv (.t 9)⟩,
 ⟨some 4, none, .mv (.t 60)⟩]) (
 .ret))))))),
 [.t 4]⟩

theorem k_spec_l20Labels : cFun Try.prog Try.f73 = some C_spec_l20Labels.erase := by kernel_rfl

def L0_impl_rawSetLabels : C :=
 .seq (
 .reg [⟨some 35, none, .bin .lss (.t 34) (.c (.d (.int 100)))⟩]) (
 .seq (
 .cond (.t 35) (
 .skip) (
 .exit 2)) (
 .seq (
 .block 3 (
 .seq (
 .reg [⟨some 36, none, .mv (.t 34)⟩,
 ⟨some 10, none, .mv (.t 36)⟩]) (
 .seq (
 .reg [⟨some 37, none, .mv (.t 10)⟩,
 ⟨some 38, none, .aix 1 100 (.t 5) (.t 37)⟩,
 ⟨some 39, none, .ld (.t 38)⟩,
 ⟨some 40, none, .mv (.t 39)⟩,
 ⟨some 41, some (40, true), .mv (.t 10)⟩,
 ⟨some 42, some (40, true), .aix 1 100 (.t 6) (.t 41)⟩,
 ⟨some 43, some (40, true), .ld (.t 42)⟩,
 ⟨some 44, none, .pick (.t 40) (.t 43) (.c (.d (.bool false)))⟩]) (
 .cond (.t 44) (
 .reg [⟨some 45, none, .mv (.t 9)⟩,
 ⟨some 46, none, .mv (.t 10)⟩,
 ⟨some 47, none, .mksl 1 1 [.d (.int 0)] [(0, 1, (.t 46))]⟩,
 ⟨some 48, none, .app 1 8 [.d (.int 0)] (.t 45) (.t 47)⟩,
 ⟨some 9, none, .mv (.t 48)⟩]) (
 .skip))))) (
 .reg [⟨some 49, none, .bin .add (.t 34) (.c (.d (.int 1)))⟩,
 ⟨some 34, none, .mv (.t 49)⟩])))

def L1_impl_rawSetLabels : C :=
 .seq (
 .reg [⟨some 18, none, .bin .lss (.t 17) (.t 16)⟩]) (
 .seq (
 .cond (.t 18) (
 .skip) (
 .exit 0)) (
 .seq (
 .block 1 (
 .seq (
 .reg [⟨some 19, none, .mv (.t 17)⟩,
 ⟨some 20, none, .idx 3 (.t 15) (.t 17)⟩,
 ⟨some 21, none, .ldn 3 (.t 20)⟩,
 ⟨some 8, none, .zer [.nil, .nil, .nil]⟩,
 ⟨some 7, none, .mv (.t 19)⟩,
 ⟨none, none, .st 3 (.t 8) (.t 21)⟩]) (
 .seq (
 .reg [⟨some 22, none, .mv (.t 1)⟩,
 ⟨some 23, none, .mv (.t 7)⟩,
 ⟨some 24, none, .bin .shr (.t 22) (.t 23)⟩,
 ⟨some 25, none, .bin .and (.t 24) (.c (.d (.int 1)))⟩,
 ⟨some 26, none, .bin .eql (.t 25) (.c (.d (.int 1)))⟩]) (
 .cond (.t 26) (
 .reg [⟨some 27, none, .fld 0 (.t 8)⟩,
 ⟨some 28, none, .ld (.t 27)⟩,
 ⟨some 29, none, .call 116 [(.t 5), (.t 28)]⟩]) (
 .reg [⟨some 30, none, .fld 0 (.t 8)⟩,
 ⟨some 31, none, .ld (.t 30)⟩,
 ⟨some 32, none, .call 116 [(.t 6), (.t 31)]⟩]))))) (
 .reg [⟨some 33, none, .bin .add (.t 17) (.c (.d (.int 1)))⟩,
 ⟨some 17, none, .mv (.t 33)⟩])))

def C_impl_rawSetLabels : Fun := ⟨2, 51,
 .seq (
 .reg [⟨some 2, none, .box (.t 0)⟩,
 ⟨some 4, none, .mv (.c (.nil))⟩]) (
 .seq (
 .reg [⟨some 5, none, .zer (reps 100 (.d (.bool false)))⟩,
 ⟨some 6, none, .zer (reps 100 (.d (.bool false)))⟩]) (
 .seq (
 .reg [⟨some 11, none, .fld 4 (.t 2)⟩,
 ⟨some 12, none, .ld (.t 11)⟩,
 ⟨some 13, none, .call 116 [(.t 6), (.t 12)]⟩]) (
 .seq (
 .seq (
 .reg [⟨some 14, none, .fld 3 (.t 2)⟩,
 ⟨some 15, none, .ld (.t 14)⟩,
 ⟨some 16, none, .len (.t 15)⟩,
 ⟨some 17, none, .mv (.c (.d (.int 0)))⟩]) (
 .block 0 (
 .loop L1_impl_rawSetLabels))) (
 .seq (
 .reg [⟨some 9, none, .mv (.c (.nil))⟩]) (
 .seq (
 .seq (
 .reg [⟨some 34, none, .mv (.c (.d (.int 0)))⟩]) (
 .block 2 (
 .loop L0_impl_rawSetLabels))) (
 .seq (
 .reg [⟨some 50, none, .mv (.t 9)⟩,
 ⟨some 4, none, .mv (.t 50)⟩]) (
 .ret))))))),
 [.t 4]⟩

theorem k_impl_rawSetLabels : cFun Try.prog Try.f74 = some C_impl_rawSetLabels.erase := by kernel_rfl

def L0_impl_markLabels : C :=
 .seq (
 .reg [⟨some 9, none, .bin .lss (.t 8) (.t 7)⟩]) (
 .seq (
 .cond (.t 9) (
 .skip) (
 .exit 0)) (
 .seq (
 .block 1 (
 .seq (
 .reg [⟨some 10, none, .idx 1 (.t 6) (.t 8)⟩,
 ⟨some 11, none, .ld (.t 10)⟩,
 ⟨some 5, none, .mv (.t 11)⟩]) (
 .reg [⟨some 12, none, .mv (.t 0)⟩,
 ⟨some 13, none, .mv (.t 5)⟩,
 ⟨some 14, none, .nck (.t 12)⟩,
 ⟨some 15, none, .aix 1 100 (.t 14) (.t 13)⟩,
 ⟨none, none, .st 1 (.t 15) (.c (.d (.bool true)))⟩]))) (
 .reg [⟨some 16, none, .bin .add (.t 8) (.c (.d (.int 1)))⟩,
 ⟨some 8, none, .mv (.t 16)⟩])))

def C_impl_markLabels : Fun := ⟨2, 17,
 .seq (
 .reg [⟨some 6, none, .mv (.t 1)⟩,
 ⟨some 7, none, .len (.t 6)⟩,
 ⟨some 8, none, .mv (.c (.d (.int 0)))⟩]) (
 .block 0 (
 .loop L0_impl_markLabels)),
 []⟩

theorem k_impl_markLabels : cFun Try.prog Try.f116 = some C_impl_markLabels.erase := by kernel_rfl

end Go.Proofs.Ytjoopfojiiklnaa
