/-
  The compiled code of functions of the seat (written by mkcode.py). No condition.
-/
import Derived.Test.YtcgnehacihjnkaaLiftE
import Derived.Test.YtcgnehacihjnkaaProg
import Derived.KernelRfl
namespace Go.Proofs.Ytcgnehacihjnkaa
open Go.Lift

def C_impl_SplitLabel : Fun := ⟨5, 78,
 .seq (
 .reg [⟨some 5, none, .box (.t 0)⟩,
 ⟨some 6, none, .box (.t 1)⟩,
 ⟨some 10, none, .zer [.nil, .nil, .nil]⟩,
 ⟨some 11, none, .mv (.c (.d (.bool false)))⟩]) (
 .seq (
 .seq (
 .reg [⟨some 16, none, .ldn 3 (.t 5)⟩,
 ⟨some 17, none, .ldn 3 (.t 6)⟩,
 ⟨some 18, none, .call 125 [(.t 16), (.t 17)]⟩,
 ⟨some 19, none, .not (.t 18)⟩,
 ⟨some 20, none, .mv (.t 19)⟩,
 ⟨some 21, some (20, false), .ldn 3 (.t 6)⟩,
 ⟨some 22, some (20, false), .mv (.t 2)⟩,
 ⟨some 23, some (20, false), .call 173 [(.t 21), (.t 22)]⟩,
 ⟨some 24, some (20, false), .bin .lss (.t 23) (.c (.d (.int 0)))⟩,
 ⟨some 25, none, .pick (.t 20) (.c (.d (.bool true))) (.t 24)⟩,
 ⟨some 26, none, .mv (.t 25)⟩,
 ⟨some 27, some (26, false), .mv (.t 3)⟩,
 ⟨some 28, some (26, false), .len (.t 27)⟩,
 ⟨some 29, some (26, false), .bin .eql (.t 28) (.c (.d (.int 0)))⟩,
 ⟨some 30, none, .pick (.t 26) (.c (.d (.bool true))) (.t 29)⟩]) (
 .cond (.t 30) (
 .seq (
 .reg [⟨some 31, none, .agg [.nil, .nil, .nil] []⟩,
 ⟨none, none, .st 3 (.t 10) (.t 31)⟩,
 ⟨some 11, none, .mv (.c (.d (.bool false)))⟩]) (
 .ret)) (
 .skip))) (
 .seq (
 .seq (
 .draw [⟨some 32, none, .mv (.t 3)⟩,
 ⟨some 33, none, .mv (.t 4)⟩,
 ⟨some 34, none, .agg [.nil, .nil, .nil] [(0, 1, (.t 32)), (1, 1, (.t 33))]⟩,
 ⟨some 35, none, .call 128 [(.t 34)]⟩,
 ⟨some 36, none, .fld 1 (.t 6)⟩,
 ⟨some 37, none, .ld (.t 36)⟩,
 ⟨some 38, none, .ldn 3 (.t 6)⟩,
 ⟨some 39, none, .mv (.t 2)⟩,
 ⟨some 40, none, .call 173 [(.t 38), (.t 39)]⟩]
 [⟨some 41, none, .idx 1 (.t 37) (.t 40)⟩,
 ⟨some 42, none, .ld (.t 41)⟩,
 ⟨some 43, none, .bin .neq (.t 35) (.t 42)⟩]) (
 .cond (.t 43) (
 .seq (
 .reg [⟨some 44, none, .agg [.nil, .nil, .nil] []⟩,
 ⟨none, none, .st 3 (.t 10) (.t 44)⟩,
 ⟨some 11, none, .mv (.c (.d (.bool false)))⟩]) (
 .ret)) (
 .skip))) (
 .seq (
 .reg [⟨some 45, none, .fld 0 (.t 6)⟩,
 ⟨some 46, none, .ld (.t 45)⟩,
 ⟨some 47, none, .mv (.t 2)⟩,
 ⟨some 48, none, .call 107 [(.t 46), (.t 47)]⟩,
 ⟨some 12, none, .mv (.t 48)⟩]) (
 .seq (
 .draw [⟨some 49, none, .ldn 3 (.t 5)⟩,
 ⟨some 50, none, .ldn 3 (.t 6)⟩,
 ⟨some 51, none, .mv (.t 12)⟩,
 ⟨some 52, none, .call 143 [(.t 51)]⟩,
 ⟨some 53, none, .mv (.t 2)⟩,
 ⟨some 54, none, .mksl 1 1 [.d (.int 0)] [(0, 1, (.t 53))]⟩,
 ⟨some 55, none, .app 1 8 [.d (.int 0)] (.t 52) (.t 54)⟩,
 ⟨some 56, none, .call 160 [(.t 49), (.t 50), (.t 55)]⟩,
 ⟨some 13, none, .zer [.nil, .nil, .nil]⟩]
 [⟨none, none, .st 3 (.t 13) (.t 56)⟩]) (
 .seq (
 .reg [⟨some 57, none, .mv (.t 12)⟩,
 ⟨some 58, none, .len (.t 57)⟩,
 ⟨some 14, none, .mv (.t 58)⟩]) (
 .seq (
 .draw [⟨some 59, none, .mv (.t 12)⟩,
 ⟨some 60, none, .mv (.t 3)⟩,
 ⟨some 61, none, .app 1 8 [.d (.int 0)] (.t 59) (.t 60)⟩,
 ⟨some 62, none, .fld 1 (.t 13)⟩,
 ⟨some 63, none, .ld (.t 62)⟩,
 ⟨some 64, none, .mv (.t 14)⟩,
 ⟨some 65, none, .slc 1 (.t 63) none (some (.t 64))⟩,
 ⟨some 66, none, .call 143 [(.t 65)]⟩,
 ⟨some 67, none, .mv (.t 4)⟩,
 ⟨some 68, none, .app 1 8 [.d (.int 0)] (.t 66) (.t 67)⟩,
 ⟨some 69, none, .fld 2 (.t 13)⟩,
 ⟨some 70, none, .ld (.t 69)⟩,
 ⟨some 71, none, .agg [.nil, .nil, .nil] [(0, 1, (.t 61)), (1, 1, (.t 68)), (2, 1, (.t 70))]⟩,
 ⟨some 15, none, .zer [.nil, .nil, .nil]⟩]
 [⟨none, none, .st 3 (.t 15) (.t 71)⟩]) (
 .seq (
 .seq (
 .reg [⟨some 72, none, .ldn 3 (.t 5)⟩,
 ⟨some 73, none, .ldn 3 (.t 15)⟩,
 ⟨some 74, none, .call 125 [(.t 72), (.t 73)]⟩,
 ⟨some 75, none, .not (.t 74)⟩]) (
 .cond (.t 75) (
 .seq (
 .reg [⟨some 76, none, .agg [.nil, .nil, .nil] []⟩,
 ⟨none, none, .st 3 (.t 10) (.t 76)⟩,
 ⟨some 11, none, .mv (.c (.d (.bool false)))⟩]) (
 .ret)) (
 .skip))) (
 .seq (
 .reg [⟨some 77, none, .ldn 3 (.t 15)⟩,
 ⟨none, none, .st 3 (.t 10) (.t 77)⟩,
 ⟨some 11, none, .mv (.c (.d (.bool true)))⟩]) (
 .ret))))))))),
 [.cell 10 3, .t 11]⟩

def L0_spec_FixLabels : C :=
 .seq (
 .reg [⟨some 28, none, .bin .lss (.t 27) (.t 26)⟩]) (
 .seq (
 .cond (.t 28) (
 .skip) (
 .exit 0)) (
 .seq (
 .block 1 (
 .seq (
 .reg [⟨some 29, none, .mv (.t 27)⟩,
 ⟨some 30, none, .idx 1 (.t 25) (.t 27)⟩,
 ⟨some 31, none, .ld (.t 30)⟩,
 ⟨some 10, none, .mv (.t 29)⟩,
 ⟨some 11, none, .mv (.t 31)⟩]) (
 .seq (
 .reg [⟨some 32, none, .fld 0 (.t 5)⟩,
 ⟨some 33, none, .ld (.t 32)⟩,
 ⟨some 34, none, .mv (.t 11)⟩,
 ⟨some 35, none, .call 63 [(.t 33), (.t 34)]⟩,
 ⟨some 12, none, .mv (.t 35)⟩]) (
 .seq (
 .draw [⟨some 36, none, .mv (.t 12)⟩,
 ⟨some 37, none, .bin .geq (.t 36) (.c (.d (.int 0)))⟩,
 ⟨some 38, none, .mv (.t 37)⟩,
 ⟨some 39, some (38, true), .mv (.t 2)⟩,
 ⟨some 40, some (38, true), .mv (.t 10)⟩,
 ⟨some 41, some (38, true), .slc 1 (.t 39) none (some (.t 40))⟩,
 ⟨some 42, some (38, true), .mv (.t 11)⟩,
 ⟨some 43, some (38, true), .call 63 [(.t 41), (.t 42)]⟩,
 ⟨some 44, some (38, true), .bin .lss (.t 43) (.c (.d (.int 0)))⟩,
 ⟨some 45, none, .pick (.t 38) (.t 44) (.c (.d (.bool false)))⟩,
 ⟨some 46, none, .mv (.t 45)⟩,
 ⟨some 47, some (46, true), .mv (.t 3)⟩,
 ⟨some 48, some (46, true), .mv (.t 10)⟩,
 ⟨some 49, some (46, true), .idx 1 (.t 47) (.t 48)⟩,
 ⟨some 50, some (46, true), .ld (.t 49)⟩,
 ⟨some 51, some (46, true), .fld 1 (.t 5)⟩,
 ⟨some 52, some (46, true), .ld (.t 51)⟩,
 ⟨some 53, some (46, true), .mv (.t 12)⟩,
 ⟨some 54, some (46, true), .idx 1 (.t 52) (.t 53)⟩,
 ⟨some 55, some (46, true), .ld (.t 54)⟩,
 ⟨some 56, some (46, true), .bin .sub (.t 55) (.c (.d (.int 1)))⟩]
 [⟨some 57, some (46, true), .call 62 [(.t 50), (.c (.d (.int 0))), (.t 56)]⟩,
 ⟨some 58, some (46, true), .not (.t 57)⟩,
 ⟨some 59, none, .pick (.t 46) (.t 58) (.c (.d (.bool false)))⟩]) (
 .cond (.t 59) (
 .seq (
 .reg [⟨some 60, none, .agg [.nil, .nil, .nil] []⟩,
 ⟨none, none, .st 3 (.t 8) (.t 60)⟩,
 ⟨some 9, none, .mv (.c (.d (.bool false)))⟩]) (
 .ret)) (
 .skip)))))) (
 .reg [⟨some 61, none, .bin .add (.t 27) (.c (.d (.int 1)))⟩,
 ⟨some 27, none, .mv (.t 61)⟩])))

def L0_spec_FuseLabels : C :=
 .seq (
 .reg [⟨some 29, none, .bin .lss (.t 28) (.t 27)⟩]) (
 .seq (
 .cond (.t 29) (
 .skip) (
 .exit 0)) (
 .seq (
 .block 1 (
 .seq (
 .reg [⟨some 30, none, .mv (.t 28)⟩,
 ⟨some 31, none, .idx 1 (.t 26) (.t 28)⟩,
 ⟨some 32, none, .ld (.t 31)⟩,
 ⟨some 10, none, .mv (.t 30)⟩,
 ⟨some 11, none, .mv (.t 32)⟩]) (
 .seq (
 .reg [⟨some 33, none, .fld 0 (.t 5)⟩,
 ⟨some 34, none, .ld (.t 33)⟩,
 ⟨some 35, none, .mv (.t 11)⟩,
 ⟨some 36, none, .call 63 [(.t 34), (.t 35)]⟩,
 ⟨some 37, none, .bin .lss (.t 36) (.c (.d (.int 0)))⟩,
 ⟨some 38, none, .mv (.t 37)⟩,
 ⟨some 39, some (38, false), .mv (.t 2)⟩,
 ⟨some 40, some (38, false), .mv (.t 10)⟩,
 ⟨some 41, some (38, false), .slc 1 (.t 39) none (some (.t 40))⟩,
 ⟨some 42, some (38, false), .mv (.t 11)⟩,
 ⟨some 43, some (38, false), .call 63 [(.t 41), (.t 42)]⟩,
 ⟨some 44, some (38, false), .bin .geq (.t 43) (.c (.d (.int 0)))⟩,
 ⟨some 45, none, .pick (.t 38) (.c (.d (.bool true))) (.t 44)⟩]) (
 .cond (.t 45) (
 .seq (
 .reg [⟨some 46, none, .agg [.nil, .nil, .nil] []⟩,
 ⟨none, none, .st 3 (.t 8) (.t 46)⟩,
 ⟨some 9, none, .mv (.c (.d (.bool false)))⟩]) (
 .ret)) (
 .skip))))) (
 .reg [⟨some 47, none, .bin .add (.t 28) (.c (.d (.int 1)))⟩,
 ⟨some 28, none, .mv (.t 47)⟩])))

def L0_impl_FuseLabels : C :=
 .seq (
 .reg [⟨some 60, none, .bin .lss (.t 59) (.t 58)⟩]) (
 .seq (
 .cond (.t 60) (
 .skip) (
 .exit 2)) (
 .seq (
 .block 3 (
 .seq (
 .reg [⟨some 61, none, .idx 1 (.t 57) (.t 59)⟩,
 ⟨some 62, none, .ld (.t 61)⟩,
 ⟨some 14, none, .mv (.t 62)⟩]) (
 .seq (
 .reg [⟨some 63, none, .mv (.t 2)⟩,
 ⟨some 64, none, .mv (.t 14)⟩,
 ⟨some 65, none, .call 67 [(.t 63), (.t 64)]⟩,
 ⟨some 66, none, .not (.t 65)⟩]) (
 .cond (.t 66) (
 .reg [⟨some 67, none, .mv (.t 12)⟩,
 ⟨some 68, none, .mv (.t 14)⟩,
 ⟨some 69, none, .mksl 1 1 [.d (.int 0)] [(0, 1, (.t 68))]⟩,
 ⟨some 70, none, .app 1 8 [.d (.int 0)] (.t 67) (.t 69)⟩,
 ⟨some 12, none, .mv (.t 70)⟩]) (
 .skip))))) (
 .reg [⟨some 71, none, .bin .add (.t 59) (.c (.d (.int 1)))⟩,
 ⟨some 59, none, .mv (.t 71)⟩])))

def L1_impl_FuseLabels : C :=
 .seq (
 .reg [⟨some 39, none, .bin .lss (.t 38) (.t 37)⟩]) (
 .seq (
 .cond (.t 39) (
 .skip) (
 .exit 0)) (
 .seq (
 .block 1 (
 .seq (
 .reg [⟨some 40, none, .mv (.t 38)⟩,
 ⟨some 41, none, .idx 1 (.t 36) (.t 38)⟩,
 ⟨some 42, none, .ld (.t 41)⟩,
 ⟨some 10, none, .mv (.t 40)⟩,
 ⟨some 11, none, .mv (.t 42)⟩]) (
 .seq (
 .reg [⟨some 43, none, .ldn 3 (.t 5)⟩,
 ⟨some 44, none, .mv (.t 11)⟩,
 ⟨some 45, none, .call 173 [(.t 43), (.t 44)]⟩,
 ⟨some 46, none, .bin .lss (.t 45) (.c (.d (.int 0)))⟩,
 ⟨some 47, none, .mv (.t 46)⟩,
 ⟨some 48, some (47, false), .mv (.t 2)⟩,
 ⟨some 49, some (47, false), .mv (.t 10)⟩,
 ⟨some 50, some (47, false), .slc 1 (.t 48) none (some (.t 49))⟩,
 ⟨some 51, some (47, false), .mv (.t 11)⟩,
 ⟨some 52, some (47, false), .call 67 [(.t 50), (.t 51)]⟩,
 ⟨some 53, none, .pick (.t 47) (.c (.d (.bool true))) (.t 52)⟩]) (
 .cond (.t 53) (
 .seq (
 .reg [⟨some 54, none, .agg [.nil, .nil, .nil] []⟩,
 ⟨none, none, .st 3 (.t 8) (.t 54)⟩,
 ⟨some 9, none, .mv (.c (.d (.bool false)))⟩]) (
 .ret)) (
 .skip))))) (
 .reg [⟨some 55, none, .bin .add (.t 38) (.c (.d (.int 1)))⟩,
 ⟨some 38, none, .mv (.t 55)⟩])))

def C_impl_FuseLabels : Fun := ⟨4, 106,
 .seq (
 .reg [⟨some 4, none, .box (.t 0)⟩,
 ⟨some 5, none, .box (.t 1)⟩,
 ⟨some 8, none, .zer [.nil, .nil, .nil]⟩,
 ⟨some 9, none, .mv (.c (.d (.bool false)))⟩]) (
 .seq (
 .seq (
 .reg [⟨some 18, none, .ldn 3 (.t 4)⟩,
 ⟨some 19, none, .ldn 3 (.t 5)⟩,
 ⟨some 20, none, .call 125 [(.t 18), (.t 19)]⟩,
 ⟨some 21, none, .not (.t 20)⟩,
 ⟨some 22, none, .mv (.t 21)⟩,
 ⟨some 23, some (22, false), .mv (.t 2)⟩,
 ⟨some 24, some (22, false), .len (.t 23)⟩,
 ⟨some 25, some (22, false), .bin .eql (.t 24) (.c (.d (.int 0)))⟩,
 ⟨some 26, none, .pick (.t 22) (.c (.d (.bool true))) (.t 25)⟩,
 ⟨some 27, none, .mv (.t 26)⟩,
 ⟨some 28, some (27, false), .mv (.t 2)⟩,
 ⟨some 29, some (27, false), .len (.t 28)⟩,
 ⟨some 30, some (27, false), .fld 0 (.t 5)⟩,
 ⟨some 31, some (27, false), .ld (.t 30)⟩,
 ⟨some 32, some (27, false), .len (.t 31)⟩,
 ⟨some 33, some (27, false), .bin .gtr (.t 29) (.t 32)⟩,
 ⟨some 34, none, .pick (.t 27) (.c (.d (.bool true))) (.t 33)⟩]) (
 .cond (.t 34) (
 .seq (
 .reg [⟨some 35, none, .agg [.nil, .nil, .nil] []⟩,
 ⟨none, none, .st 3 (.t 8) (.t 35)⟩,
 ⟨some 9, none, .mv (.c (.d (.bool false)))⟩]) (
 .ret)) (
 .skip))) (
 .seq (
 .seq (
 .reg [⟨some 36, none, .mv (.t 2)⟩,
 ⟨some 37, none, .len (.t 36)⟩,
 ⟨some 38, none, .mv (.c (.d (.int 0)))⟩]) (
 .block 0 (
 .loop L1_impl_FuseLabels))) (
 .seq (
 .reg [⟨some 12, none, .mv (.c (.nil))⟩]) (
 .seq (
 .seq (
 .reg [⟨some 56, none, .fld 0 (.t 5)⟩,
 ⟨some 57, none, .ld (.t 56)⟩,
 ⟨some 58, none, .len (.t 57)⟩,
 ⟨some 59, none, .mv (.c (.d (.int 0)))⟩]) (
 .block 2 (
 .loop L0_impl_FuseLabels))) (
 .seq (
 .draw [⟨some 72, none, .ldn 3 (.t 4)⟩,
 ⟨some 73, none, .ldn 3 (.t 5)⟩,
 ⟨some 74, none, .mv (.t 12)⟩,
 ⟨some 75, none, .call 143 [(.t 74)]⟩,
 ⟨some 76, none, .mv (.t 2)⟩,
 ⟨some 77, none, .app 1 8 [.d (.int 0)] (.t 75) (.t 76)⟩,
 ⟨some 78, none, .call 160 [(.t 72), (.t 73), (.t 77)]⟩,
 ⟨some 15, none, .zer [.nil, .nil, .nil]⟩]
 [⟨none, none, .st 3 (.t 15) (.t 78)⟩]) (
 .seq (
 .reg [⟨some 79, none, .mv (.t 12)⟩,
 ⟨some 80, none, .len (.t 79)⟩,
 ⟨some 16, none, .mv (.t 80)⟩]) (
 .seq (
 .draw [⟨some 81, none, .mv (.t 12)⟩,
 ⟨some 82, none, .mv (.t 3)⟩,
 ⟨some 83, none, .mksl 1 1 [.d (.int 0)] [(0, 1, (.t 82))]⟩,
 ⟨some 84, none, .app 1 8 [.d (.int 0)] (.t 81) (.t 83)⟩,
 ⟨some 85, none, .fld 1 (.t 15)⟩,
 ⟨some 86, none, .ld (.t 85)⟩,
 ⟨some 87, none, .mv (.t 16)⟩,
 ⟨some 88, none, .slc 1 (.t 86) none (some (.t 87))⟩,
 ⟨some 89, none, .call 143 [(.t 88)]⟩,
 ⟨some 90, none, .fld 1 (.t 15)⟩,
 ⟨some 91, none, .ld (.t 90)⟩,
 ⟨some 92, none, .mv (.t 16)⟩,
 ⟨some 93, none, .slc 1 (.t 91) (some (.t 92)) none⟩,
 ⟨some 94, none, .call 85 [(.t 93)]⟩,
 ⟨some 95, none, .mksl 1 1 [.d (.int 0)] [(0, 1, (.t 94))]⟩,
 ⟨some 96, none, .app 1 8 [.d (.int 0)] (.t 89) (.t 95)⟩,
 ⟨some 97, none, .fld 2 (.t 15)⟩,
 ⟨some 98, none, .ld (.t 97)⟩,
 ⟨some 99, none, .agg [.nil, .nil, .nil] [(0, 1, (.t 84)), (1, 1, (.t 96)), (2, 1, (.t 98))]⟩,
 ⟨some 17, none, .zer [.nil, .nil, .nil]⟩]
 [⟨none, none, .st 3 (.t 17) (.t 99)⟩]) (
 .seq (
 .seq (
 .reg [⟨some 100, none, .ldn 3 (.t 4)⟩,
 ⟨some 101, none, .ldn 3 (.t 17)⟩,
 ⟨some 102, none, .call 125 [(.t 100), (.t 101)]⟩,
 ⟨some 103, none, .not (.t 102)⟩]) (
 .cond (.t 103) (
 .seq (
 .reg [⟨some 104, none, .agg [.nil, .nil, .nil] []⟩,
 ⟨none, none, .st 3 (.t 8) (.t 104)⟩,
 ⟨some 9, none, .mv (.c (.d (.bool false)))⟩]) (
 .ret)) (
 .skip))) (
 .seq (
 .reg [⟨some 105, none, .ldn 3 (.t 17)⟩,
 ⟨none, none, .st 3 (.t 8) (.t 105)⟩,
 ⟨some 9, none, .mv (.c (.d (.bool true)))⟩]) (
 .ret)))))))))),
 [.cell 8 3, .t 9]⟩

def L0_spec_l10Rest : C :=
 .seq (
 .reg [⟨some 13, none, .bin .lss (.t 12) (.t 11)⟩]) (
 .seq (
 .cond (.t 13) (
 .skip) (
 .exit 0)) (
 .seq (
 .block 1 (
 .seq (
 .reg [⟨some 14, none, .idx 1 (.t 10) (.t 12)⟩,
 ⟨some 15, none, .ld (.t 14)⟩,
 ⟨some 7, none, .mv (.t 15)⟩]) (
 .seq (
 .reg [⟨some 16, none, .mv (.t 1)⟩,
 ⟨some 17, none, .mv (.t 7)⟩,
 ⟨some 18, none, .call 63 [(.t 16), (.t 17)]⟩,
 ⟨some 19, none, .bin .lss (.t 18) (.c (.d (.int 0)))⟩]) (
 .cond (.t 19) (
 .reg [⟨some 20, none, .mv (.t 5)⟩,
 ⟨some 21, none, .mv (.t 7)⟩,
 ⟨some 22, none, .mksl 1 1 [.d (.int 0)] [(0, 1, (.t 21))]⟩,
 ⟨some 23, none, .app 1 8 [.d (.int 0)] (.t 20) (.t 22)⟩,
 ⟨some 5, none, .mv (.t 23)⟩]) (
 .skip))))) (
 .reg [⟨some 24, none, .bin .add (.t 12) (.c (.d (.int 1)))⟩,
 ⟨some 12, none, .mv (.t 24)⟩])))

def C_spec_l10Rest : Fun := ⟨2, 26,
 .seq (
 .reg [⟨some 2, none, .box (.t 0)⟩,
 ⟨some 4, none, .mv (.c (.nil))⟩]) (
 .seq (
 .reg [⟨some 8, none, .mksl 1 0 [.d (.int 0)] []⟩,
 ⟨some 5, none, .mv (.t 8)⟩]) (
 .seq (
 .seq (
 .reg [⟨some 9, none, .fld 0 (.t 2)⟩,
 ⟨some 10, none, .ld (.t 9)⟩,
 ⟨some 11, none, .len (.t 10)⟩,
 ⟨some 12, none, .mv (.c (.d (.int 0)))⟩]) (
 .block 0 (
 .loop L0_spec_l10Rest))) (
 .seq (
 .reg [⟨some 25, none, .mv (.t 5)⟩,
 ⟨some 4, none, .mv (.t 25)⟩]) (
 .ret)))),
 [.t 4]⟩

end Go.Proofs.Ytcgnehacihjnkaa
