/-
  The compiled code of functions of the seat (written by mkcode.py). No condition.
-/
import Derived.Test.YtcgnehacihjnkaaLiftE
import Derived.Test.YtcgnehacihjnkaaProg
import Derived.KernelRfl
namespace Go.Proofs.Ytcgnehacihjnkaa
open Go.Lift

def C_spec_OpenNetwork : Fun := ⟨2, 21,
 .seq (
 .reg [⟨some 2, none, .box (.t 0)⟩,
 ⟨some 4, none, .zer [.d (.int 0), .d (.int 0), .d (.int 0), .nil, .nil]⟩,
 ⟨some 5, none, .mv (.c (.d (.bool false)))⟩]) (
 .seq (
 .seq (
 .reg [⟨some 7, none, .ldn 5 (.t 2)⟩,
 ⟨some 8, none, .call 61 [(.t 7)]⟩,
 ⟨some 9, none, .not (.t 8)⟩]) (
 .cond (.t 9) (
 .seq (
 .reg [⟨some 10, none, .agg [.d (.int 0), .d (.int 0), .d (.int 0), .nil, .nil] []⟩,
 ⟨none, none, .st 5 (.t 4) (.t 10)⟩,
 ⟨some 5, none, .mv (.c (.d (.bool false)))⟩]) (
 .ret)) (
 .skip))) (
 .seq (
 .reg [⟨some 11, none, .ldn 5 (.t 2)⟩,
 ⟨some 12, none, .call 78 [(.t 11)]⟩,
 ⟨some 6, none, .zer [.d (.int 0), .d (.int 0), .d (.int 0), .nil, .nil]⟩,
 ⟨none, none, .st 5 (.t 6) (.t 12)⟩]) (
 .seq (
 .reg [⟨some 13, none, .mv (.t 1)⟩,
 ⟨some 14, none, .call 150 [(.t 13)]⟩,
 ⟨some 15, none, .fld 4 (.t 6)⟩,
 ⟨none, none, .st 1 (.t 15) (.t 14)⟩]) (
 .seq (
 .seq (
 .reg [⟨some 16, none, .ldn 5 (.t 6)⟩,
 ⟨some 17, none, .call 61 [(.t 16)]⟩,
 ⟨some 18, none, .not (.t 17)⟩]) (
 .cond (.t 18) (
 .seq (
 .reg [⟨some 19, none, .agg [.d (.int 0), .d (.int 0), .d (.int 0), .nil, .nil] []⟩,
 ⟨none, none, .st 5 (.t 4) (.t 19)⟩,
 ⟨some 5, none, .mv (.c (.d (.bool false)))⟩]) (
 .ret)) (
 .skip))) (
 .seq (
 .reg [⟨some 20, none, .ldn 5 (.t 6)⟩,
 ⟨none, none, .st 5 (.t 4) (.t 20)⟩,
 ⟨some 5, none, .mv (.c (.d (.bool true)))⟩]) (
 .ret)))))),
 [.cell 4 5, .t 5]⟩

def C_impl_OpenNetwork : Fun := ⟨2, 21,
 .seq (
 .reg [⟨some 2, none, .box (.t 0)⟩,
 ⟨some 4, none, .zer [.d (.int 0), .d (.int 0), .d (.int 0), .nil, .nil]⟩,
 ⟨some 5, none, .mv (.c (.d (.bool false)))⟩]) (
 .seq (
 .seq (
 .reg [⟨some 7, none, .ldn 5 (.t 2)⟩,
 ⟨some 8, none, .call 66 [(.t 7)]⟩,
 ⟨some 9, none, .not (.t 8)⟩]) (
 .cond (.t 9) (
 .seq (
 .reg [⟨some 10, none, .agg [.d (.int 0), .d (.int 0), .d (.int 0), .nil, .nil] []⟩,
 ⟨none, none, .st 5 (.t 4) (.t 10)⟩,
 ⟨some 5, none, .mv (.c (.d (.bool false)))⟩]) (
 .ret)) (
 .skip))) (
 .seq (
 .reg [⟨some 11, none, .ldn 5 (.t 2)⟩,
 ⟨some 12, none, .call 81 [(.t 11)]⟩,
 ⟨some 6, none, .zer [.d (.int 0), .d (.int 0), .d (.int 0), .nil, .nil]⟩,
 ⟨none, none, .st 5 (.t 6) (.t 12)⟩]) (
 .seq (
 .reg [⟨some 13, none, .mv (.t 1)⟩,
 ⟨some 14, none, .call 143 [(.t 13)]⟩,
 ⟨some 15, none, .fld 4 (.t 6)⟩,
 ⟨none, none, .st 1 (.t 15) (.t 14)⟩]) (
 .seq (
 .seq (
 .reg [⟨some 16, none, .ldn 5 (.t 6)⟩,
 ⟨some 17, none, .call 66 [(.t 16)]⟩,
 ⟨some 18, none, .not (.t 17)⟩]) (
 .cond (.t 18) (
 .seq (
 .reg [⟨some 19, none, .agg [.d (.int 0), .d (.int 0), .d (.int 0), .nil, .nil] []⟩,
 ⟨none, none, .st 5 (.t 4) (.t 19)⟩,
 ⟨some 5, none, .mv (.c (.d (.bool false)))⟩]) (
 .ret)) (
 .skip))) (
 .seq (
 .reg [⟨some 20, none, .ldn 5 (.t 6)⟩,
 ⟨none, none, .st 5 (.t 4) (.t 20)⟩,
 ⟨some 5, none, .mv (.c (.d (.bool true)))⟩]) (
 .ret)))))),
 [.cell 4 5, .t 5]⟩

def L0_spec_DropUnits : C :=
 .seq (
 .reg [⟨some 31, none, .bin .lss (.t 30) (.t 29)⟩]) (
 .seq (
 .cond (.t 31) (
 .skip) (
 .exit 2)) (
 .seq (
 .block 3 (
 .seq (
 .reg [⟨some 32, none, .mv (.t 30)⟩,
 ⟨some 33, none, .idx 1 (.t 28) (.t 30)⟩,
 ⟨some 34, none, .ld (.t 33)⟩,
 ⟨some 7, none, .mv (.t 32)⟩,
 ⟨some 8, none, .mv (.t 34)⟩]) (
 .seq (
 .draw [⟨some 35, none, .mv (.t 8)⟩,
 ⟨some 36, none, .bin .gtr (.t 35) (.c (.d (.int 1)))⟩,
 ⟨some 37, none, .mv (.t 36)⟩,
 ⟨some 38, some (37, false), .fld 4 (.t 1)⟩,
 ⟨some 39, some (37, false), .ld (.t 38)⟩,
 ⟨some 40, some (37, false), .fld 0 (.t 5)⟩,
 ⟨some 41, some (37, false), .ld (.t 40)⟩,
 ⟨some 42, some (37, false), .mv (.t 7)⟩,
 ⟨some 43, some (37, false), .idx 1 (.t 41) (.t 42)⟩,
 ⟨some 44, some (37, false), .ld (.t 43)⟩]
 [⟨some 45, some (37, false), .call 63 [(.t 39), (.t 44)]⟩,
 ⟨some 46, some (37, false), .bin .geq (.t 45) (.c (.d (.int 0)))⟩,
 ⟨some 47, none, .pick (.t 37) (.c (.d (.bool true))) (.t 46)⟩]) (
 .cond (.t 47) (
 .seq (
 .draw [⟨some 48, none, .fld 0 (.t 6)⟩,
 ⟨some 49, none, .ld (.t 48)⟩,
 ⟨some 50, none, .fld 0 (.t 5)⟩,
 ⟨some 51, none, .ld (.t 50)⟩,
 ⟨some 52, none, .mv (.t 7)⟩,
 ⟨some 53, none, .idx 1 (.t 51) (.t 52)⟩,
 ⟨some 54, none, .ld (.t 53)⟩,
 ⟨some 55, none, .mksl 1 1 [.d (.int 0)] [(0, 1, (.t 54))]⟩]
 [⟨some 56, none, .app 1 8 [.d (.int 0)] (.t 49) (.t 55)⟩,
 ⟨some 57, none, .fld 0 (.t 6)⟩,
 ⟨none, none, .st 1 (.t 57) (.t 56)⟩]) (
 .reg [⟨some 58, none, .fld 1 (.t 6)⟩,
 ⟨some 59, none, .ld (.t 58)⟩,
 ⟨some 60, none, .mv (.t 8)⟩,
 ⟨some 61, none, .mksl 1 1 [.d (.int 0)] [(0, 1, (.t 60))]⟩,
 ⟨some 62, none, .app 1 8 [.d (.int 0)] (.t 59) (.t 61)⟩,
 ⟨some 63, none, .fld 1 (.t 6)⟩,
 ⟨none, none, .st 1 (.t 63) (.t 62)⟩])) (
 .skip))))) (
 .reg [⟨some 64, none, .bin .add (.t 30) (.c (.d (.int 1)))⟩,
 ⟨some 30, none, .mv (.t 64)⟩])))

def L1_spec_DropUnits : C :=
 .seq (
 .reg [⟨some 19, none, .bin .lss (.t 18) (.t 17)⟩]) (
 .seq (
 .cond (.t 19) (
 .skip) (
 .exit 0)) (
 .seq (
 .block 1 (
 .seq (
 .reg [⟨some 20, none, .mv (.t 18)⟩,
 ⟨some 21, none, .idx 3 (.t 16) (.t 18)⟩,
 ⟨some 22, none, .ldn 3 (.t 21)⟩,
 ⟨some 5, none, .zer [.nil, .nil, .nil]⟩,
 ⟨some 4, none, .mv (.t 20)⟩,
 ⟨none, none, .st 3 (.t 5) (.t 22)⟩]) (
 .seq (
 .reg [⟨some 23, none, .fld 2 (.t 5)⟩,
 ⟨some 24, none, .ld (.t 23)⟩,
 ⟨some 25, none, .call 150 [(.t 24)]⟩,
 ⟨some 26, none, .agg [.nil, .nil, .nil] [(2, 1, (.t 25))]⟩,
 ⟨some 6, none, .zer [.nil, .nil, .nil]⟩,
 ⟨none, none, .st 3 (.t 6) (.t 26)⟩]) (
 .seq (
 .seq (
 .reg [⟨some 27, none, .fld 1 (.t 5)⟩,
 ⟨some 28, none, .ld (.t 27)⟩,
 ⟨some 29, none, .len (.t 28)⟩,
 ⟨some 30, none, .mv (.c (.d (.int 0)))⟩]) (
 .block 2 (
 .loop L0_spec_DropUnits))) (
 .reg [⟨some 65, none, .fld 3 (.t 3)⟩,
 ⟨some 66, none, .ld (.t 65)⟩,
 ⟨some 67, none, .mv (.t 4)⟩,
 ⟨some 68, none, .ldn 3 (.t 6)⟩,
 ⟨some 69, none, .idx 3 (.t 66) (.t 67)⟩,
 ⟨none, none, .st 3 (.t 69) (.t 68)⟩]))))) (
 .reg [⟨some 70, none, .bin .add (.t 18) (.c (.d (.int 1)))⟩,
 ⟨some 18, none, .mv (.t 70)⟩])))

def C_spec_DropUnits : Fun := ⟨1, 72,
 .seq (
 .reg [⟨some 1, none, .box (.t 0)⟩,
 ⟨some 2, none, .zer [.d (.int 0), .d (.int 0), .d (.int 0), .nil, .nil]⟩]) (
 .seq (
 .seq (
 .reg [⟨some 9, none, .ldn 5 (.t 1)⟩,
 ⟨some 10, none, .call 61 [(.t 9)]⟩,
 ⟨some 11, none, .not (.t 10)⟩]) (
 .cond (.t 11) (
 .seq (
 .reg [⟨some 12, none, .agg [.d (.int 0), .d (.int 0), .d (.int 0), .nil, .nil] []⟩,
 ⟨none, none, .st 5 (.t 2) (.t 12)⟩]) (
 .ret)) (
 .skip))) (
 .seq (
 .reg [⟨some 13, none, .ldn 5 (.t 1)⟩,
 ⟨some 14, none, .call 78 [(.t 13)]⟩,
 ⟨some 3, none, .zer [.d (.int 0), .d (.int 0), .d (.int 0), .nil, .nil]⟩,
 ⟨none, none, .st 5 (.t 3) (.t 14)⟩]) (
 .seq (
 .seq (
 .reg [⟨some 15, none, .fld 3 (.t 1)⟩,
 ⟨some 16, none, .ld (.t 15)⟩,
 ⟨some 17, none, .len (.t 16)⟩,
 ⟨some 18, none, .mv (.c (.d (.int 0)))⟩]) (
 .block 0 (
 .loop L1_spec_DropUnits))) (
 .seq (
 .reg [⟨some 71, none, .ldn 5 (.t 3)⟩,
 ⟨none, none, .st 5 (.t 2) (.t 71)⟩]) (
 .ret))))),
 [.cell 2 5]⟩

def L0_impl_DropUnits : C :=
 .seq (
 .reg [⟨some 34, none, .bin .lss (.t 33) (.t 32)⟩]) (
 .seq (
 .cond (.t 34) (
 .skip) (
 .exit 2)) (
 .seq (
 .block 3 (
 .seq (
 .reg [⟨some 35, none, .mv (.t 33)⟩,
 ⟨some 36, none, .idx 1 (.t 31) (.t 33)⟩,
 ⟨some 37, none, .ld (.t 36)⟩,
 ⟨some 7, none, .mv (.t 35)⟩,
 ⟨some 8, none, .mv (.t 37)⟩]) (
 .seq (
 .reg [⟨some 38, none, .fld 1 (.t 5)⟩,
 ⟨some 39, none, .ld (.t 38)⟩,
 ⟨some 40, none, .mv (.t 7)⟩,
 ⟨some 41, none, .idx 1 (.t 39) (.t 40)⟩,
 ⟨some 42, none, .ld (.t 41)⟩,
 ⟨some 43, none, .bin .gtr (.t 42) (.c (.d (.int 1)))⟩,
 ⟨some 44, none, .mv (.t 43)⟩,
 ⟨some 45, some (44, false), .fld 4 (.t 1)⟩,
 ⟨some 46, some (44, false), .ld (.t 45)⟩,
 ⟨some 47, some (44, false), .mv (.t 8)⟩,
 ⟨some 48, some (44, false), .call 67 [(.t 46), (.t 47)]⟩,
 ⟨some 49, none, .pick (.t 44) (.c (.d (.bool true))) (.t 48)⟩]) (
 .cond (.t 49) (
 .seq (
 .reg [⟨some 50, none, .fld 0 (.t 6)⟩,
 ⟨some 51, none, .ld (.t 50)⟩,
 ⟨some 52, none, .mv (.t 8)⟩,
 ⟨some 53, none, .mksl 1 1 [.d (.int 0)] [(0, 1, (.t 52))]⟩,
 ⟨some 54, none, .app 1 8 [.d (.int 0)] (.t 51) (.t 53)⟩,
 ⟨some 55, none, .fld 0 (.t 6)⟩,
 ⟨none, none, .st 1 (.t 55) (.t 54)⟩]) (
 .draw [⟨some 56, none, .fld 1 (.t 6)⟩,
 ⟨some 57, none, .ld (.t 56)⟩,
 ⟨some 58, none, .fld 1 (.t 5)⟩,
 ⟨some 59, none, .ld (.t 58)⟩,
 ⟨some 60, none, .mv (.t 7)⟩,
 ⟨some 61, none, .idx 1 (.t 59) (.t 60)⟩,
 ⟨some 62, none, .ld (.t 61)⟩,
 ⟨some 63, none, .mksl 1 1 [.d (.int 0)] [(0, 1, (.t 62))]⟩]
 [⟨some 64, none, .app 1 8 [.d (.int 0)] (.t 57) (.t 63)⟩,
 ⟨some 65, none, .fld 1 (.t 6)⟩,
 ⟨none, none, .st 1 (.t 65) (.t 64)⟩])) (
 .skip))))) (
 .reg [⟨some 66, none, .bin .add (.t 33) (.c (.d (.int 1)))⟩,
 ⟨some 33, none, .mv (.t 66)⟩])))

def L1_impl_DropUnits : C :=
 .seq (
 .reg [⟨some 23, none, .bin .lss (.t 22) (.t 21)⟩]) (
 .seq (
 .cond (.t 23) (
 .skip) (
 .exit 0)) (
 .seq (
 .block 1 (
 .seq (
 .reg [⟨some 24, none, .idx 3 (.t 20) (.t 22)⟩,
 ⟨some 25, none, .ldn 3 (.t 24)⟩,
 ⟨some 5, none, .zer [.nil, .nil, .nil]⟩,
 ⟨none, none, .st 3 (.t 5) (.t 25)⟩]) (
 .seq (
 .reg [⟨some 26, none, .fld 2 (.t 5)⟩,
 ⟨some 27, none, .ld (.t 26)⟩,
 ⟨some 28, none, .call 143 [(.t 27)]⟩,
 ⟨some 29, none, .agg [.nil, .nil, .nil] [(2, 1, (.t 28))]⟩,
 ⟨some 6, none, .zer [.nil, .nil, .nil]⟩,
 ⟨none, none, .st 3 (.t 6) (.t 29)⟩]) (
 .seq (
 .seq (
 .reg [⟨some 30, none, .fld 0 (.t 5)⟩,
 ⟨some 31, none, .ld (.t 30)⟩,
 ⟨some 32, none, .len (.t 31)⟩,
 ⟨some 33, none, .mv (.c (.d (.int 0)))⟩]) (
 .block 2 (
 .loop L0_impl_DropUnits))) (
 .reg [⟨some 67, none, .fld 3 (.t 3)⟩,
 ⟨some 68, none, .ld (.t 67)⟩,
 ⟨some 69, none, .ldn 3 (.t 6)⟩,
 ⟨some 70, none, .mksl 3 1 [.nil, .nil, .nil] [(0, 3, (.t 69))]⟩,
 ⟨some 71, none, .app 3 72 [.nil, .nil, .nil] (.t 68) (.t 70)⟩,
 ⟨some 72, none, .fld 3 (.t 3)⟩,
 ⟨none, none, .st 1 (.t 72) (.t 71)⟩]))))) (
 .reg [⟨some 73, none, .bin .add (.t 22) (.c (.d (.int 1)))⟩,
 ⟨some 22, none, .mv (.t 73)⟩])))

def C_impl_DropUnits : Fun := ⟨1, 75,
 .seq (
 .reg [⟨some 1, none, .box (.t 0)⟩,
 ⟨some 2, none, .zer [.d (.int 0), .d (.int 0), .d (.int 0), .nil, .nil]⟩]) (
 .seq (
 .seq (
 .reg [⟨some 9, none, .ldn 5 (.t 1)⟩,
 ⟨some 10, none, .call 66 [(.t 9)]⟩,
 ⟨some 11, none, .not (.t 10)⟩]) (
 .cond (.t 11) (
 .seq (
 .reg [⟨some 12, none, .agg [.d (.int 0), .d (.int 0), .d (.int 0), .nil, .nil] []⟩,
 ⟨none, none, .st 5 (.t 2) (.t 12)⟩]) (
 .ret)) (
 .skip))) (
 .seq (
 .draw [⟨some 13, none, .fld 0 (.t 1)⟩,
 ⟨some 14, none, .ldn 3 (.t 13)⟩,
 ⟨some 15, none, .fld 4 (.t 1)⟩,
 ⟨some 16, none, .ld (.t 15)⟩,
 ⟨some 17, none, .call 143 [(.t 16)]⟩,
 ⟨some 18, none, .agg [.d (.int 0), .d (.int 0), .d (.int 0), .nil, .nil] [(0, 3, (.t 14)), (4, 1, (.t 17))]⟩,
 ⟨some 3, none, .zer [.d (.int 0), .d (.int 0), .d (.int 0), .nil, .nil]⟩]
 [⟨none, none, .st 5 (.t 3) (.t 18)⟩]) (
 .seq (
 .seq (
 .reg [⟨some 19, none, .fld 3 (.t 1)⟩,
 ⟨some 20, none, .ld (.t 19)⟩,
 ⟨some 21, none, .len (.t 20)⟩,
 ⟨some 22, none, .mv (.c (.d (.int 0)))⟩]) (
 .block 0 (
 .loop L1_impl_DropUnits))) (
 .seq (
 .reg [⟨some 74, none, .ldn 5 (.t 3)⟩,
 ⟨none, none, .st 5 (.t 2) (.t 74)⟩]) (
 .ret))))),
 [.cell 2 5]⟩

def L0_spec_l14Copy : C :=
 .seq (
 .reg [⟨some 16, none, .bin .lss (.t 15) (.t 14)⟩]) (
 .seq (
 .cond (.t 16) (
 .skip) (
 .exit 0)) (
 .seq (
 .block 1 (
 .seq (
 .reg [⟨some 17, none, .idx 3 (.t 13) (.t 15)⟩,
 ⟨some 18, none, .ldn 3 (.t 17)⟩,
 ⟨some 5, none, .zer [.nil, .nil, .nil]⟩,
 ⟨none, none, .st 3 (.t 5) (.t 18)⟩]) (
 .draw [⟨some 19, none, .fld 3 (.t 3)⟩,
 ⟨some 20, none, .ld (.t 19)⟩,
 ⟨some 21, none, .ldn 3 (.t 5)⟩,
 ⟨some 22, none, .call 139 [(.t 21)]⟩,
 ⟨some 23, none, .mksl 3 1 [.nil, .nil, .nil] [(0, 3, (.t 22))]⟩]
 [⟨some 24, none, .app 3 72 [.nil, .nil, .nil] (.t 20) (.t 23)⟩,
 ⟨some 25, none, .fld 3 (.t 3)⟩,
 ⟨none, none, .st 1 (.t 25) (.t 24)⟩]))) (
 .reg [⟨some 26, none, .bin .add (.t 15) (.c (.d (.int 1)))⟩,
 ⟨some 15, none, .mv (.t 26)⟩])))

def C_spec_l14Copy : Fun := ⟨1, 28,
 .seq (
 .reg [⟨some 1, none, .box (.t 0)⟩,
 ⟨some 2, none, .zer [.d (.int 0), .d (.int 0), .d (.int 0), .nil, .nil]⟩]) (
 .seq (
 .draw [⟨some 6, none, .fld 0 (.t 1)⟩,
 ⟨some 7, none, .ldn 3 (.t 6)⟩,
 ⟨some 8, none, .fld 4 (.t 1)⟩,
 ⟨some 9, none, .ld (.t 8)⟩,
 ⟨some 10, none, .call 150 [(.t 9)]⟩,
 ⟨some 11, none, .agg [.d (.int 0), .d (.int 0), .d (.int 0), .nil, .nil] [(0, 3, (.t 7)), (4, 1, (.t 10))]⟩,
 ⟨some 3, none, .zer [.d (.int 0), .d (.int 0), .d (.int 0), .nil, .nil]⟩]
 [⟨none, none, .st 5 (.t 3) (.t 11)⟩]) (
 .seq (
 .seq (
 .reg [⟨some 12, none, .fld 3 (.t 1)⟩,
 ⟨some 13, none, .ld (.t 12)⟩,
 ⟨some 14, none, .len (.t 13)⟩,
 ⟨some 15, none, .mv (.c (.d (.int 0)))⟩]) (
 .block 0 (
 .loop L0_spec_l14Copy))) (
 .seq (
 .reg [⟨some 27, none, .ldn 5 (.t 3)⟩,
 ⟨none, none, .st 5 (.t 2) (.t 27)⟩]) (
 .ret)))),
 [.cell 2 5]⟩

theorem k_spec_l14Copy : cFun Try.prog Try.f78 = some C_spec_l14Copy.erase := by kernel_rfl

def L0_impl_copyNetwork : C :=
 .seq (
 .reg [⟨some 16, none, .bin .lss (.t 15) (.t 14)⟩]) (
 .seq (
 .cond (.t 16) (
 .skip) (
 .exit 0)) (
 .seq (
 .block 1 (
 .seq (
 .reg [⟨some 17, none, .idx 3 (.t 13) (.t 15)⟩,
 ⟨some 18, none, .ldn 3 (.t 17)⟩,
 ⟨some 5, none, .zer [.nil, .nil, .nil]⟩,
 ⟨none, none, .st 3 (.t 5) (.t 18)⟩]) (
 .draw [⟨some 19, none, .fld 3 (.t 3)⟩,
 ⟨some 20, none, .ld (.t 19)⟩,
 ⟨some 21, none, .ldn 3 (.t 5)⟩,
 ⟨some 22, none, .call 68 [(.t 21)]⟩,
 ⟨some 23, none, .mksl 3 1 [.nil, .nil, .nil] [(0, 3, (.t 22))]⟩]
 [⟨some 24, none, .app 3 72 [.nil, .nil, .nil] (.t 20) (.t 23)⟩,
 ⟨some 25, none, .fld 3 (.t 3)⟩,
 ⟨none, none, .st 1 (.t 25) (.t 24)⟩]))) (
 .reg [⟨some 26, none, .bin .add (.t 15) (.c (.d (.int 1)))⟩,
 ⟨some 15, none, .mv (.t 26)⟩])))

def C_impl_copyNetwork : Fun := ⟨1, 28,
 .seq (
 .reg [⟨some 1, none, .box (.t 0)⟩,
 ⟨some 2, none, .zer [.d (.int 0), .d (.int 0), .d (.int 0), .nil, .nil]⟩]) (
 .seq (
 .draw [⟨some 6, none, .fld 0 (.t 1)⟩,
 ⟨some 7, none, .ldn 3 (.t 6)⟩,
 ⟨some 8, none, .fld 4 (.t 1)⟩,
 ⟨some 9, none, .ld (.t 8)⟩,
 ⟨some 10, none, .call 143 [(.t 9)]⟩,
 ⟨some 11, none, .agg [.d (.int 0), .d (.int 0), .d (.int 0), .nil, .nil] [(0, 3, (.t 7)), (4, 1, (.t 10))]⟩,
 ⟨some 3, none, .zer [.d (.int 0), .d (.int 0), .d (.int 0), .nil, .nil]⟩]
 [⟨none, none, .st 5 (.t 3) (.t 11)⟩]) (
 .seq (
 .seq (
 .reg [⟨some 12, none, .fld 3 (.t 1)⟩,
 ⟨some 13, none, .ld (.t 12)⟩,
 ⟨some 14, none, .len (.t 13)⟩,
 ⟨some 15, none, .mv (.c (.d (.int 0)))⟩]) (
 .block 0 (
 .loop L0_impl_copyNetwork))) (
 .seq (
 .reg [⟨some 27, none, .ldn 5 (.t 3)⟩,
 ⟨none, none, .st 5 (.t 2) (.t 27)⟩]) (
 .ret)))),
 [.cell 2 5]⟩

theorem k_impl_copyNetwork : cFun Try.prog Try.f81 = some C_impl_copyNetwork.erase := by kernel_rfl

end Go.Proofs.Ytcgnehacihjnkaa
