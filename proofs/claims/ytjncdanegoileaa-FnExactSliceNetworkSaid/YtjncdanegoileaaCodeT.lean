/-
  The compiled code of functions of the seat (written by mkcode.py). No condition.
-/
import Derived.Test.YtjncdanegoileaaLiftE
import Derived.Test.YtjncdanegoileaaProg
import Derived.KernelRfl
namespace Go.Proofs.Ytjncdanegoileaa
open Go.Lift

def L0_spec_FixLabels : C :=
 .seq (
 .reg [⟨some 28, none, .bin .lss (.t 27) (.t 26)⟩]) (
 .seq (
 .cond (.t 28) (
 .skip) (
 .exit 0)) (
 .seq (
 .block 1 (
 .seq (
 .reg [⟨some 29, none, .mv (.t 27)⟩,
 ⟨some 30, none, .idx 1 (.t 25) (.t 27)⟩,
 ⟨some 31, none, .ld (.t 30)⟩,
 ⟨some 10, none, .mv (.t 29)⟩,
 ⟨some 11, none, .mv (.t 31)⟩]) (
 .seq (
 .reg [⟨some 32, none, .fld 0 (.t 5)⟩,
 ⟨some 33, none, .ld (.t 32)⟩,
 ⟨some 34, none, .mv (.t 11)⟩,
 ⟨some 35, none, .call 88 [(.t 33), (.t 34)]⟩,
 ⟨some 12, none, .mv (.t 35)⟩]) (
 .seq (
 .draw [⟨some 36, none, .mv (.t 12)⟩,
 ⟨some 37, none, .bin .geq (.t 36) (.c (.d (.int 0)))⟩,
 ⟨some 38, none, .mv (.t 37)⟩,
 ⟨some 39, some (38, true), .mv (.t 2)⟩,
 ⟨some 40, some (38, true), .mv (.t 10)⟩,
 ⟨some 41, some (38, true), .slc 1 (.t 39) none (some (.t 40))⟩,
 ⟨some 42, some (38, true), .mv (.t 11)⟩,
 ⟨some 43, some (38, true), .call 88 [(.t 41), (.t 42)]⟩,
 ⟨some 44, some (38, true), .bin .lss (.t 43) (.c (.d (.int 0)))⟩,
 ⟨some 45, none, .pick (.t 38) (.t 44) (.c (.d (.bool false)))⟩,
 ⟨some 46, none, .mv (.t 45)⟩,
 ⟨some 47, some (46, true), .mv (.t 3)⟩,
 ⟨some 48, some (46, true), .mv (.t 10)⟩,
 ⟨some 49, some (46, true), .idx 1 (.t 47) (.t 48)⟩,
 ⟨some 50, some (46, true), .ld (.t 49)⟩,
 ⟨some 51, some (46, true), .fld 1 (.t 5)⟩,
 ⟨some 52, some (46, true), .ld (.t 51)⟩,
 ⟨some 53, some (46, true), .mv (.t 12)⟩,
 ⟨some 54, some (46, true), .idx 1 (.t 52) (.t 53)⟩,
 ⟨some 55, some (46, true), .ld (.t 54)⟩,
 ⟨some 56, some (46, true), .bin .sub (.t 55) (.c (.d (.int 1)))⟩]
 [⟨some 57, some (46, true), .call 50 [(.t 50), (.c (.d (.int 0))), (.t 56)]⟩,
 ⟨some 58, some (46, true), .not (.t 57)⟩,
 ⟨some 59, none, .pick (.t 46) (.t 58) (.c (.d (.bool false)))⟩]) (
 .cond (.t 59) (
 .seq (
 .reg [⟨some 60, none, .agg [.nil, .nil, .nil] []⟩,
 ⟨none, none, .st 3 (.t 8) (.t 60)⟩,
 ⟨some 9, none, .mv (.c (.d (.bool false)))⟩]) (
 .ret)) (
 .skip)))))) (
 .reg [⟨some 61, none, .bin .add (.t 27) (.c (.d (.int 1)))⟩,
 ⟨some 27, none, .mv (.t 61)⟩])))

def C_spec_FixLabels : Fun := ⟨4, 67,
 .seq (
 .reg [⟨some 4, none, .box (.t 0)⟩,
 ⟨some 5, none, .box (.t 1)⟩,
 ⟨some 8, none, .zer [.nil, .nil, .nil]⟩,
 ⟨some 9, none, .mv (.c (.d (.bool false)))⟩]) (
 .seq (
 .seq (
 .reg [⟨some 13, none, .ldn 3 (.t 4)⟩,
 ⟨some 14, none, .ldn 3 (.t 5)⟩,
 ⟨some 15, none, .call 118 [(.t 13), (.t 14)]⟩,
 ⟨some 16, none, .not (.t 15)⟩,
 ⟨some 17, none, .mv (.t 16)⟩,
 ⟨some 18, some (17, false), .mv (.t 2)⟩,
 ⟨some 19, some (17, false), .len (.t 18)⟩,
 ⟨some 20, some (17, false), .mv (.t 3)⟩,
 ⟨some 21, some (17, false), .len (.t 20)⟩,
 ⟨some 22, some (17, false), .bin .neq (.t 19) (.t 21)⟩,
 ⟨some 23, none, .pick (.t 17) (.c (.d (.bool true))) (.t 22)⟩]) (
 .cond (.t 23) (
 .seq (
 .reg [⟨some 24, none, .agg [.nil, .nil, .nil] []⟩,
 ⟨none, none, .st 3 (.t 8) (.t 24)⟩,
 ⟨some 9, none, .mv (.c (.d (.bool false)))⟩]) (
 .ret)) (
 .skip))) (
 .seq (
 .seq (
 .reg [⟨some 25, none, .mv (.t 2)⟩,
 ⟨some 26, none, .len (.t 25)⟩,
 ⟨some 27, none, .mv (.c (.d (.int 0)))⟩]) (
 .block 0 (
 .loop L0_spec_FixLabels))) (
 .seq (
 .reg [⟨some 62, none, .ldn 3 (.t 4)⟩,
 ⟨some 63, none, .ldn 3 (.t 5)⟩,
 ⟨some 64, none, .mv (.t 2)⟩,
 ⟨some 65, none, .mv (.t 3)⟩,
 ⟨some 66, none, .call 107 [(.t 62), (.t 63), (.t 64), (.t 65)]⟩,
 ⟨none, none, .st 3 (.t 8) (.t 66)⟩,
 ⟨some 9, none, .mv (.c (.d (.bool true)))⟩]) (
 .ret)))),
 [.cell 8 3, .t 9]⟩

def L0_impl_FixLabels : C :=
 .seq (
 .reg [⟨some 32, none, .bin .lss (.t 31) (.t 30)⟩]) (
 .seq (
 .cond (.t 32) (
 .skip) (
 .exit 0)) (
 .seq (
 .block 1 (
 .seq (
 .reg [⟨some 33, none, .mv (.t 31)⟩,
 ⟨some 34, none, .idx 1 (.t 29) (.t 31)⟩,
 ⟨some 35, none, .ld (.t 34)⟩,
 ⟨some 11, none, .mv (.t 33)⟩,
 ⟨some 12, none, .mv (.t 35)⟩]) (
 .seq (
 .seq (
 .reg [⟨some 36, none, .ldn 3 (.t 10)⟩,
 ⟨some 37, none, .mv (.t 12)⟩,
 ⟨some 38, none, .call 60 [(.t 36), (.t 37)]⟩,
 ⟨some 39, none, .bin .lss (.t 38) (.c (.d (.int 0)))⟩]) (
 .cond (.t 39) (
 .exit 1) (
 .skip))) (
 .seq (
 .draw [⟨some 41, none, .ldn 3 (.t 4)⟩,
 ⟨some 42, none, .ldn 3 (.t 10)⟩,
 ⟨some 43, none, .mv (.t 12)⟩,
 ⟨some 44, none, .mv (.t 3)⟩,
 ⟨some 45, none, .mv (.t 11)⟩,
 ⟨some 46, none, .idx 1 (.t 44) (.t 45)⟩,
 ⟨some 47, none, .ld (.t 46)⟩,
 ⟨some 48, none, .call 61 [(.t 41), (.t 42), (.t 43), (.t 47)]⟩,
 ⟨some 40, none, .mv (.t 48)⟩,
 ⟨some 49, none, .ext 0 (.t 40)⟩,
 ⟨some 50, none, .ext 1 (.t 40)⟩,
 ⟨some 13, none, .zer [.nil, .nil, .nil]⟩]
 [⟨none, none, .st 3 (.t 13) (.t 49)⟩,
 ⟨some 14, none, .mv (.t 50)⟩]) (
 .seq (
 .seq (
 .reg [⟨some 51, none, .mv (.t 14)⟩,
 ⟨some 52, none, .not (.t 51)⟩]) (
 .cond (.t 52) (
 .seq (
 .reg [⟨some 53, none, .agg [.nil, .nil, .nil] []⟩,
 ⟨none, none, .st 3 (.t 8) (.t 53)⟩,
 ⟨some 9, none, .mv (.c (.d (.bool false)))⟩]) (
 .ret)) (
 .skip))) (
 .reg [⟨some 54, none, .ldn 3 (.t 13)⟩,
 ⟨none, none, .st 3 (.t 10) (.t 54)⟩])))))) (
 .reg [⟨some 55, none, .bin .add (.t 31) (.c (.d (.int 1)))⟩,
 ⟨some 31, none, .mv (.t 55)⟩])))

def C_impl_FixLabels : Fun := ⟨4, 57,
 .seq (
 .reg [⟨some 4, none, .box (.t 0)⟩,
 ⟨some 5, none, .box (.t 1)⟩,
 ⟨some 8, none, .zer [.nil, .nil, .nil]⟩,
 ⟨some 9, none, .mv (.c (.d (.bool false)))⟩]) (
 .seq (
 .seq (
 .reg [⟨some 15, none, .ldn 3 (.t 4)⟩,
 ⟨some 16, none, .ldn 3 (.t 5)⟩,
 ⟨some 17, none, .call 110 [(.t 15), (.t 16)]⟩,
 ⟨some 18, none, .not (.t 17)⟩,
 ⟨some 19, none, .mv (.t 18)⟩,
 ⟨some 20, some (19, false), .mv (.t 2)⟩,
 ⟨some 21, some (19, false), .len (.t 20)⟩,
 ⟨some 22, some (19, false), .mv (.t 3)⟩,
 ⟨some 23, some (19, false), .len (.t 22)⟩,
 ⟨some 24, some (19, false), .bin .neq (.t 21) (.t 23)⟩,
 ⟨some 25, none, .pick (.t 19) (.c (.d (.bool true))) (.t 24)⟩]) (
 .cond (.t 25) (
 .seq (
 .reg [⟨some 26, none, .agg [.nil, .nil, .nil] []⟩,
 ⟨none, none, .st 3 (.t 8) (.t 26)⟩,
 ⟨some 9, none, .mv (.c (.d (.bool false)))⟩]) (
 .ret)) (
 .skip))) (
 .seq (
 .reg [⟨some 27, none, .ldn 3 (.t 5)⟩,
 ⟨some 28, none, .call 59 [(.t 27)]⟩,
 ⟨some 10, none, .zer [.nil, .nil, .nil]⟩,
 ⟨none, none, .st 3 (.t 10) (.t 28)⟩]) (
 .seq (
 .seq (
 .reg [⟨some 29, none, .mv (.t 2)⟩,
 ⟨some 30, none, .len (.t 29)⟩,
 ⟨some 31, none, .mv (.c (.d (.int 0)))⟩]) (
 .block 0 (
 .loop L0_impl_FixLabels))) (
 .seq (
 .reg [⟨some 56, none, .ldn 3 (.t 10)⟩,
 ⟨none, none, .st 3 (.t 8) (.t 56)⟩,
 ⟨some 9, none, .mv (.c (.d (.bool true)))⟩]) (
 .ret))))),
 [.cell 8 3, .t 9]⟩

def L0_spec_FuseLabels : C :=
 .seq (
 .reg [⟨some 29, none, .bin .lss (.t 28) (.t 27)⟩]) (
 .seq (
 .cond (.t 29) (
 .skip) (
 .exit 0)) (
 .seq (
 .block 1 (
 .seq (
 .reg [⟨some 30, none, .mv (.t 28)⟩,
 ⟨some 31, none, .idx 1 (.t 26) (.t 28)⟩,
 ⟨some 32, none, .ld (.t 31)⟩,
 ⟨some 10, none, .mv (.t 30)⟩,
 ⟨some 11, none, .mv (.t 32)⟩]) (
 .seq (
 .reg [⟨some 33, none, .fld 0 (.t 5)⟩,
 ⟨some 34, none, .ld (.t 33)⟩,
 ⟨some 35, none, .mv (.t 11)⟩,
 ⟨some 36, none, .call 88 [(.t 34), (.t 35)]⟩,
 ⟨some 37, none, .bin .lss (.t 36) (.c (.d (.int 0)))⟩,
 ⟨some 38, none, .mv (.t 37)⟩,
 ⟨some 39, some (38, false), .mv (.t 2)⟩,
 ⟨some 40, some (38, false), .mv (.t 10)⟩,
 ⟨some 41, some (38, false), .slc 1 (.t 39) none (some (.t 40))⟩,
 ⟨some 42, some (38, false), .mv (.t 11)⟩,
 ⟨some 43, some (38, false), .call 88 [(.t 41), (.t 42)]⟩,
 ⟨some 44, some (38, false), .bin .geq (.t 43) (.c (.d (.int 0)))⟩,
 ⟨some 45, none, .pick (.t 38) (.c (.d (.bool true))) (.t 44)⟩]) (
 .cond (.t 45) (
 .seq (
 .reg [⟨some 46, none, .agg [.nil, .nil, .nil] []⟩,
 ⟨none, none, .st 3 (.t 8) (.t 46)⟩,
 ⟨some 9, none, .mv (.c (.d (.bool false)))⟩]) (
 .ret)) (
 .skip))))) (
 .reg [⟨some 47, none, .bin .add (.t 28) (.c (.d (.int 1)))⟩,
 ⟨some 28, none, .mv (.t 47)⟩])))

def L0_impl_FuseLabels : C :=
 .seq (
 .reg [⟨some 60, none, .bin .lss (.t 59) (.t 58)⟩]) (
 .seq (
 .cond (.t 60) (
 .skip) (
 .exit 2)) (
 .seq (
 .block 3 (
 .seq (
 .reg [⟨some 61, none, .idx 1 (.t 57) (.t 59)⟩,
 ⟨some 62, none, .ld (.t 61)⟩,
 ⟨some 14, none, .mv (.t 62)⟩]) (
 .seq (
 .reg [⟨some 63, none, .mv (.t 2)⟩,
 ⟨some 64, none, .mv (.t 14)⟩,
 ⟨some 65, none, .call 84 [(.t 63), (.t 64)]⟩,
 ⟨some 66, none, .not (.t 65)⟩]) (
 .cond (.t 66) (
 .reg [⟨some 67, none, .mv (.t 12)⟩,
 ⟨some 68, none, .mv (.t 14)⟩,
 ⟨some 69, none, .mksl 1 1 [.d (.int 0)] [(0, 1, (.t 68))]⟩,
 ⟨some 70, none, .app 1 8 [.d (.int 0)] (.t 67) (.t 69)⟩,
 ⟨some 12, none, .mv (.t 70)⟩]) (
 .skip))))) (
 .reg [⟨some 71, none, .bin .add (.t 59) (.c (.d (.int 1)))⟩,
 ⟨some 59, none, .mv (.t 71)⟩])))

def L1_impl_FuseLabels : C :=
 .seq (
 .reg [⟨some 39, none, .bin .lss (.t 38) (.t 37)⟩]) (
 .seq (
 .cond (.t 39) (
 .skip) (
 .exit 0)) (
 .seq (
 .block 1 (
 .seq (
 .reg [⟨some 40, none, .mv (.t 38)⟩,
 ⟨some 41, none, .idx 1 (.t 36) (.t 38)⟩,
 ⟨some 42, none, .ld (.t 41)⟩,
 ⟨some 10, none, .mv (.t 40)⟩,
 ⟨some 11, none, .mv (.t 42)⟩]) (
 .seq (
 .reg [⟨some 43, none, .ldn 3 (.t 5)⟩,
 ⟨some 44, none, .mv (.t 11)⟩,
 ⟨some 45, none, .call 60 [(.t 43), (.t 44)]⟩,
 ⟨some 46, none, .bin .lss (.t 45) (.c (.d (.int 0)))⟩,
 ⟨some 47, none, .mv (.t 46)⟩,
 ⟨some 48, some (47, false), .mv (.t 2)⟩,
 ⟨some 49, some (47, false), .mv (.t 10)⟩,
 ⟨some 50, some (47, false), .slc 1 (.t 48) none (some (.t 49))⟩,
 ⟨some 51, some (47, false), .mv (.t 11)⟩,
 ⟨some 52, some (47, false), .call 84 [(.t 50), (.t 51)]⟩,
 ⟨some 53, none, .pick (.t 47) (.c (.d (.bool true))) (.t 52)⟩]) (
 .cond (.t 53) (
 .seq (
 .reg [⟨some 54, none, .agg [.nil, .nil, .nil] []⟩,
 ⟨none, none, .st 3 (.t 8) (.t 54)⟩,
 ⟨some 9, none, .mv (.c (.d (.bool false)))⟩]) (
 .ret)) (
 .skip))))) (
 .reg [⟨some 55, none, .bin .add (.t 38) (.c (.d (.int 1)))⟩,
 ⟨some 38, none, .mv (.t 55)⟩])))

def L0_spec_l10Rest : C :=
 .seq (
 .reg [⟨some 13, none, .bin .lss (.t 12) (.t 11)⟩]) (
 .seq (
 .cond (.t 13) (
 .skip) (
 .exit 0)) (
 .seq (
 .block 1 (
 .seq (
 .reg [⟨some 14, none, .idx 1 (.t 10) (.t 12)⟩,
 ⟨some 15, none, .ld (.t 14)⟩,
 ⟨some 7, none, .mv (.t 15)⟩]) (
 .seq (
 .reg [⟨some 16, none, .mv (.t 1)⟩,
 ⟨some 17, none, .mv (.t 7)⟩,
 ⟨some 18, none, .call 88 [(.t 16), (.t 17)]⟩,
 ⟨some 19, none, .bin .lss (.t 18) (.c (.d (.int 0)))⟩]) (
 .cond (.t 19) (
 .reg [⟨some 20, none, .mv (.t 5)⟩,
 ⟨some 21, none, .mv (.t 7)⟩,
 ⟨some 22, none, .mksl 1 1 [.d (.int 0)] [(0, 1, (.t 21))]⟩,
 ⟨some 23, none, .app 1 8 [.d (.int 0)] (.t 20) (.t 22)⟩,
 ⟨some 5, none, .mv (.t 23)⟩]) (
 .skip))))) (
 .reg [⟨some 24, none, .bin .add (.t 12) (.c (.d (.int 1)))⟩,
 ⟨some 12, none, .mv (.t 24)⟩])))

def C_spec_l10Rest : Fun := ⟨2, 26,
 .seq (
 .reg [⟨some 2, none, .box (.t 0)⟩,
 ⟨some 4, none, .mv (.c (.nil))⟩]) (
 .seq (
 .reg [⟨some 8, none, .mksl 1 0 [.d (.int 0)] []⟩,
 ⟨some 5, none, .mv (.t 8)⟩]) (
 .seq (
 .seq (
 .reg [⟨some 9, none, .fld 0 (.t 2)⟩,
 ⟨some 10, none, .ld (.t 9)⟩,
 ⟨some 11, none, .len (.t 10)⟩,
 ⟨some 12, none, .mv (.c (.d (.int 0)))⟩]) (
 .block 0 (
 .loop L0_spec_l10Rest))) (
 .seq (
 .reg [⟨some 25, none, .mv (.t 5)⟩,
 ⟨some 4, none, .mv (.t 25)⟩]) (
 .ret)))),
 [.t 4]⟩

def L0_spec_l09Fix : C :=
 .seq (
 .reg [⟨some 17, none, .bin .lss (.t 16) (.t 15)⟩]) (
 .seq (
 .cond (.t 17) (
 .skip) (
 .exit 0)) (
 .seq (
 .block 1 (
 .seq (
 .reg [⟨some 18, none, .mv (.t 16)⟩,
 ⟨some 19, none, .idx 1 (.t 14) (.t 16)⟩,
 ⟨some 20, none, .ld (.t 19)⟩,
 ⟨some 10, none, .mv (.t 18)⟩,
 ⟨some 11, none, .mv (.t 20)⟩]) (
 .seq (
 .reg [⟨some 21, none, .fld 0 (.t 9)⟩,
 ⟨some 22, none, .ld (.t 21)⟩,
 ⟨some 23, none, .mv (.t 11)⟩,
 ⟨some 24, none, .call 88 [(.t 22), (.t 23)]⟩,
 ⟨some 25, none, .bin .geq (.t 24) (.c (.d (.int 0)))⟩]) (
 .cond (.t 25) (
 .draw [⟨some 26, none, .ldn 3 (.t 4)⟩,
 ⟨some 27, none, .ldn 3 (.t 9)⟩,
 ⟨some 28, none, .mv (.t 11)⟩,
 ⟨some 29, none, .mv (.t 3)⟩,
 ⟨some 30, none, .mv (.t 10)⟩,
 ⟨some 31, none, .idx 1 (.t 29) (.t 30)⟩,
 ⟨some 32, none, .ld (.t 31)⟩]
 [⟨some 33, none, .call 134 [(.t 26), (.t 27), (.t 28), (.t 32)]⟩,
 ⟨none, none, .st 3 (.t 9) (.t 33)⟩]) (
 .skip))))) (
 .reg [⟨some 34, none, .bin .add (.t 16) (.c (.d (.int 1)))⟩,
 ⟨some 16, none, .mv (.t 34)⟩])))

def C_spec_l09Fix : Fun := ⟨4, 36,
 .seq (
 .reg [⟨some 4, none, .box (.t 0)⟩,
 ⟨some 5, none, .box (.t 1)⟩,
 ⟨some 8, none, .zer [.nil, .nil, .nil]⟩]) (
 .seq (
 .reg [⟨some 12, none, .ldn 3 (.t 5)⟩,
 ⟨some 13, none, .call 133 [(.t 12)]⟩,
 ⟨some 9, none, .zer [.nil, .nil, .nil]⟩,
 ⟨none, none, .st 3 (.t 9) (.t 13)⟩]) (
 .seq (
 .seq (
 .reg [⟨some 14, none, .mv (.t 2)⟩,
 ⟨some 15, none, .len (.t 14)⟩,
 ⟨some 16, none, .mv (.c (.d (.int 0)))⟩]) (
 .block 0 (
 .loop L0_spec_l09Fix))) (
 .seq (
 .reg [⟨some 35, none, .ldn 3 (.t 9)⟩,
 ⟨none, none, .st 3 (.t 8) (.t 35)⟩]) (
 .ret)))),
 [.cell 8 3]⟩

theorem k_spec_l09Fix : cFun Try.prog Try.f107 = some C_spec_l09Fix.erase := by kernel_rfl

end Go.Proofs.Ytjncdanegoileaa
