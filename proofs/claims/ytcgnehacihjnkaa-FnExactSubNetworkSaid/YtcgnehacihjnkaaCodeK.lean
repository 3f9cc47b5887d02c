/-
  The compiled code of functions of the seat (written by mkcode.py). No condition.
-/
import Derived.Test.YtcgnehacihjnkaaLiftE
import Derived.Test.YtcgnehacihjnkaaProg
import Derived.KernelRfl
namespace Go.Proofs.Ytcgnehacihjnkaa
open Go.Lift

def L0_spec_SubNetwork : C :=
 .seq (
 .reg [⟨some 16, none, .bin .lss (.t 15) (.t 14)⟩]) (
 .seq (
 .cond (.t 16) (
 .skip) (
 .exit 0)) (
 .seq (
 .block 1 (
 .seq (
 .reg [⟨some 17, none, .mv (.t 15)⟩,
 ⟨some 18, none, .idx 1 (.t 13) (.t 15)⟩,
 ⟨some 19, none, .ld (.t 18)⟩,
 ⟨some 6, none, .mv (.t 17)⟩,
 ⟨some 7, none, .mv (.t 19)⟩]) (
 .seq (
 .reg [⟨some 20, none, .mv (.t 7)⟩,
 ⟨some 21, none, .fld 3 (.t 2)⟩,
 ⟨some 22, none, .ld (.t 21)⟩,
 ⟨some 23, none, .len (.t 22)⟩,
 ⟨some 24, none, .bin .sub (.t 23) (.c (.d (.int 1)))⟩,
 ⟨some 25, none, .call 62 [(.t 20), (.c (.d (.int 0))), (.t 24)]⟩,
 ⟨some 26, none, .not (.t 25)⟩,
 ⟨some 27, none, .mv (.t 26)⟩,
 ⟨some 28, some (27, false), .mv (.t 1)⟩,
 ⟨some 29, some (27, false), .mv (.t 6)⟩,
 ⟨some 30, some (27, false), .slc 1 (.t 28) none (some (.t 29))⟩,
 ⟨some 31, some (27, false), .mv (.t 7)⟩,
 ⟨some 32, some (27, false), .call 63 [(.t 30), (.t 31)]⟩,
 ⟨some 33, some (27, false), .bin .geq (.t 32) (.c (.d (.int 0)))⟩,
 ⟨some 34, none, .pick (.t 27) (.c (.d (.bool true))) (.t 33)⟩]) (
 .cond (.t 34) (
 .seq (
 .reg [⟨some 35, none, .agg [.d (.int 0), .d (.int 0), .d (.int 0), .nil, .nil] []⟩,
 ⟨none, none, .st 5 (.t 4) (.t 35)⟩,
 ⟨some 5, none, .mv (.c (.d (.bool false)))⟩]) (
 .ret)) (
 .skip))))) (
 .reg [⟨some 36, none, .bin .add (.t 15) (.c (.d (.int 1)))⟩,
 ⟨some 15, none, .mv (.t 36)⟩])))

def C_spec_SubNetwork : Fun := ⟨2, 45,
 .seq (
 .reg [⟨some 2, none, .box (.t 0)⟩,
 ⟨some 4, none, .zer [.d (.int 0), .d (.int 0), .d (.int 0), .nil, .nil]⟩,
 ⟨some 5, none, .mv (.c (.d (.bool false)))⟩]) (
 .seq (
 .seq (
 .reg [⟨some 9, none, .ldn 5 (.t 2)⟩,
 ⟨some 10, none, .call 61 [(.t 9)]⟩,
 ⟨some 11, none, .not (.t 10)⟩]) (
 .cond (.t 11) (
 .seq (
 .reg [⟨some 12, none, .agg [.d (.int 0), .d (.int 0), .d (.int 0), .nil, .nil] []⟩,
 ⟨none, none, .st 5 (.t 4) (.t 12)⟩,
 ⟨some 5, none, .mv (.c (.d (.bool false)))⟩]) (
 .ret)) (
 .skip))) (
 .seq (
 .seq (
 .reg [⟨some 13, none, .mv (.t 1)⟩,
 ⟨some 14, none, .len (.t 13)⟩,
 ⟨some 15, none, .mv (.c (.d (.int 0)))⟩]) (
 .block 0 (
 .loop L0_spec_SubNetwork))) (
 .seq (
 .reg [⟨some 37, none, .ldn 5 (.t 2)⟩,
 ⟨some 38, none, .mv (.t 1)⟩,
 ⟨some 39, none, .call 64 [(.t 37), (.t 38)]⟩,
 ⟨some 8, none, .zer [.d (.int 0), .d (.int 0), .d (.int 0), .nil, .nil]⟩,
 ⟨none, none, .st 5 (.t 8) (.t 39)⟩]) (
 .seq (
 .seq (
 .reg [⟨some 40, none, .ldn 5 (.t 8)⟩,
 ⟨some 41, none, .call 61 [(.t 40)]⟩,
 ⟨some 42, none, .not (.t 41)⟩]) (
 .cond (.t 42) (
 .seq (
 .reg [⟨some 43, none, .agg [.d (.int 0), .d (.int 0), .d (.int 0), .nil, .nil] []⟩,
 ⟨none, none, .st 5 (.t 4) (.t 43)⟩,
 ⟨some 5, none, .mv (.c (.d (.bool false)))⟩]) (
 .ret)) (
 .skip))) (
 .seq (
 .reg [⟨some 44, none, .ldn 5 (.t 8)⟩,
 ⟨none, none, .st 5 (.t 4) (.t 44)⟩,
 ⟨some 5, none, .mv (.c (.d (.bool true)))⟩]) (
 .ret)))))),
 [.cell 4 5, .t 5]⟩

theorem k_spec_SubNetwork : cFun Try.prog Try.f15 = some C_spec_SubNetwork.erase := by kernel_rfl

def L0_impl_SubNetwork : C :=
 .seq (
 .reg [⟨some 117, none, .bin .lss (.t 116) (.c (.d (.int 100)))⟩]) (
 .seq (
 .cond (.t 117) (
 .skip) (
 .exit 8)) (
 .seq (
 .block 9 (
 .seq (
 .reg [⟨some 118, none, .mv (.t 116)⟩,
 ⟨some 17, none, .mv (.t 118)⟩]) (
 .seq (
 .reg [⟨some 119, none, .mv (.t 17)⟩,
 ⟨some 120, none, .aix 1 100 (.t 9) (.t 119)⟩,
 ⟨some 121, none, .ld (.t 120)⟩,
 ⟨some 122, none, .mv (.t 121)⟩,
 ⟨some 123, some (122, true), .mv (.t 17)⟩,
 ⟨some 124, some (122, true), .aix 1 100 (.t 10) (.t 123)⟩,
 ⟨some 125, some (122, true), .ld (.t 124)⟩,
 ⟨some 126, none, .pick (.t 122) (.t 125) (.c (.d (.bool false)))⟩,
 ⟨some 127, none, .mv (.t 126)⟩,
 ⟨some 128, some (127, true), .fld 4 (.t 2)⟩,
 ⟨some 129, some (127, true), .ld (.t 128)⟩,
 ⟨some 130, some (127, true), .mv (.t 17)⟩,
 ⟨some 131, some (127, true), .call 67 [(.t 129), (.t 130)]⟩,
 ⟨some 132, some (127, true), .not (.t 131)⟩,
 ⟨some 133, none, .pick (.t 127) (.t 132) (.c (.d (.bool false)))⟩]) (
 .cond (.t 133) (
 .reg [⟨some 134, none, .fld 4 (.t 8)⟩,
 ⟨some 135, none, .ld (.t 134)⟩,
 ⟨some 136, none, .mv (.t 17)⟩,
 ⟨some 137, none, .mksl 1 1 [.d (.int 0)] [(0, 1, (.t 136))]⟩,
 ⟨some 138, none, .app 1 8 [.d (.int 0)] (.t 135) (.t 137)⟩,
 ⟨some 139, none, .fld 4 (.t 8)⟩,
 ⟨none, none, .st 1 (.t 139) (.t 138)⟩]) (
 .skip))))) (
 .reg [⟨some 140, none, .bin .add (.t 116) (.c (.d (.int 1)))⟩,
 ⟨some 116, none, .mv (.t 140)⟩])))

def L1_impl_SubNetwork : C :=
 .seq (
 .reg [⟨some 103, none, .bin .lss (.t 102) (.t 101)⟩]) (
 .seq (
 .cond (.t 103) (
 .skip) (
 .exit 6)) (
 .seq (
 .block 7 (
 .seq (
 .reg [⟨some 104, none, .idx 1 (.t 100) (.t 102)⟩,
 ⟨some 105, none, .ld (.t 104)⟩,
 ⟨some 16, none, .mv (.t 105)⟩]) (
 .seq (
 .reg [⟨some 106, none, .mv (.t 16)⟩,
 ⟨some 107, none, .aix 1 100 (.t 9) (.t 106)⟩,
 ⟨some 108, none, .ld (.t 107)⟩]) (
 .cond (.t 108) (
 .reg [⟨some 109, none, .fld 4 (.t 8)⟩,
 ⟨some 110, none, .ld (.t 109)⟩,
 ⟨some 111, none, .mv (.t 16)⟩,
 ⟨some 112, none, .mksl 1 1 [.d (.int 0)] [(0, 1, (.t 111))]⟩,
 ⟨some 113, none, .app 1 8 [.d (.int 0)] (.t 110) (.t 112)⟩,
 ⟨some 114, none, .fld 4 (.t 8)⟩,
 ⟨none, none, .st 1 (.t 114) (.t 113)⟩]) (
 .skip))))) (
 .reg [⟨some 115, none, .bin .add (.t 102) (.c (.d (.int 1)))⟩,
 ⟨some 102, none, .mv (.t 115)⟩])))

def L2_impl_SubNetwork : C :=
 .seq (
 .reg [⟨some 87, none, .bin .lss (.t 86) (.t 85)⟩]) (
 .seq (
 .cond (.t 87) (
 .skip) (
 .exit 4)) (
 .seq (
 .block 5 (
 .seq (
 .reg [⟨some 88, none, .mv (.t 86)⟩,
 ⟨some 89, none, .idx 3 (.t 84) (.t 86)⟩,
 ⟨some 90, none, .ldn 3 (.t 89)⟩,
 ⟨some 14, none, .zer [.nil, .nil, .nil]⟩,
 ⟨some 13, none, .mv (.t 88)⟩,
 ⟨none, none, .st 3 (.t 14) (.t 90)⟩]) (
 .seq (
 .reg [⟨some 91, none, .mv (.t 1)⟩,
 ⟨some 92, none, .mv (.t 13)⟩,
 ⟨some 93, none, .call 67 [(.t 91), (.t 92)]⟩,
 ⟨some 94, none, .not (.t 93)⟩]) (
 .cond (.t 94) (
 .reg [⟨some 95, none, .fld 0 (.t 14)⟩,
 ⟨some 96, none, .ld (.t 95)⟩,
 ⟨some 97, none, .call 69 [(.t 10), (.t 96)]⟩]) (
 .skip))))) (
 .reg [⟨some 98, none, .bin .add (.t 86) (.c (.d (.int 1)))⟩,
 ⟨some 86, none, .mv (.t 98)⟩])))

def L3_impl_SubNetwork : C :=
 .seq (
 .reg [⟨some 61, none, .bin .lss (.t 60) (.t 59)⟩]) (
 .seq (
 .cond (.t 61) (
 .skip) (
 .exit 2)) (
 .seq (
 .block 3 (
 .seq (
 .reg [⟨some 62, none, .idx 1 (.t 58) (.t 60)⟩,
 ⟨some 63, none, .ld (.t 62)⟩,
 ⟨some 12, none, .mv (.t 63)⟩]) (
 .seq (
 .draw [⟨some 64, none, .fld 3 (.t 8)⟩,
 ⟨some 65, none, .ld (.t 64)⟩,
 ⟨some 66, none, .fld 3 (.t 2)⟩,
 ⟨some 67, none, .ld (.t 66)⟩,
 ⟨some 68, none, .mv (.t 12)⟩,
 ⟨some 69, none, .idx 3 (.t 67) (.t 68)⟩,
 ⟨some 70, none, .ldn 3 (.t 69)⟩,
 ⟨some 71, none, .call 68 [(.t 70)]⟩,
 ⟨some 72, none, .mksl 3 1 [.nil, .nil, .nil] [(0, 3, (.t 71))]⟩]
 [⟨some 73, none, .app 3 72 [.nil, .nil, .nil] (.t 65) (.t 72)⟩,
 ⟨some 74, none, .fld 3 (.t 8)⟩,
 ⟨none, none, .st 1 (.t 74) (.t 73)⟩]) (
 .reg [⟨some 75, none, .fld 3 (.t 2)⟩,
 ⟨some 76, none, .ld (.t 75)⟩,
 ⟨some 77, none, .mv (.t 12)⟩,
 ⟨some 78, none, .idx 3 (.t 76) (.t 77)⟩,
 ⟨some 79, none, .fld 0 (.t 78)⟩,
 ⟨some 80, none, .ld (.t 79)⟩,
 ⟨some 81, none, .call 69 [(.t 9), (.t 80)]⟩])))) (
 .reg [⟨some 82, none, .bin .add (.t 60) (.c (.d (.int 1)))⟩,
 ⟨some 60, none, .mv (.t 82)⟩])))

def L4_impl_SubNetwork : C :=
 .seq (
 .reg [⟨some 33, none, .bin .lss (.t 32) (.t 31)⟩]) (
 .seq (
 .cond (.t 33) (
 .skip) (
 .exit 0)) (
 .seq (
 .block 1 (
 .seq (
 .reg [⟨some 34, none, .mv (.t 32)⟩,
 ⟨some 35, none, .idx 1 (.t 30) (.t 32)⟩,
 ⟨some 36, none, .ld (.t 35)⟩,
 ⟨some 6, none, .mv (.t 34)⟩,
 ⟨some 7, none, .mv (.t 36)⟩]) (
 .seq (
 .reg [⟨some 37, none, .mv (.t 7)⟩,
 ⟨some 38, none, .bin .lss (.t 37) (.c (.d (.int 0)))⟩,
 ⟨some 39, none, .mv (.t 38)⟩,
 ⟨some 40, some (39, false), .mv (.t 7)⟩,
 ⟨some 41, some (39, false), .fld 3 (.t 2)⟩,
 ⟨some 42, some (39, false), .ld (.t 41)⟩,
 ⟨some 43, some (39, false), .len (.t 42)⟩,
 ⟨some 44, some (39, false), .bin .geq (.t 40) (.t 43)⟩,
 ⟨some 45, none, .pick (.t 39) (.c (.d (.bool true))) (.t 44)⟩,
 ⟨some 46, none, .mv (.t 45)⟩,
 ⟨some 47, some (46, false), .mv (.t 1)⟩,
 ⟨some 48, some (46, false), .mv (.t 6)⟩,
 ⟨some 49, some (46, false), .slc 1 (.t 47) none (some (.t 48))⟩,
 ⟨some 50, some (46, false), .mv (.t 7)⟩,
 ⟨some 51, some (46, false), .call 67 [(.t 49), (.t 50)]⟩,
 ⟨some 52, none, .pick (.t 46) (.c (.d (.bool true))) (.t 51)⟩]) (
 .cond (.t 52) (
 .seq (
 .reg [⟨some 53, none, .agg [.d (.int 0), .d (.int 0), .d (.int 0), .nil, .nil] []⟩,
 ⟨none, none, .st 5 (.t 4) (.t 53)⟩,
 ⟨some 5, none, .mv (.c (.d (.bool false)))⟩]) (
 .ret)) (
 .skip))))) (
 .reg [⟨some 54, none, .bin .add (.t 32) (.c (.d (.int 1)))⟩,
 ⟨some 32, none, .mv (.t 54)⟩])))

def C_impl_SubNetwork : Fun := ⟨2, 146,
 .seq (
 .reg [⟨some 2, none, .box (.t 0)⟩,
 ⟨some 4, none, .zer [.d (.int 0), .d (.int 0), .d (.int 0), .nil, .nil]⟩,
 ⟨some 5, none, .mv (.c (.d (.bool false)))⟩]) (
 .seq (
 .seq (
 .reg [⟨some 18, none, .ldn 5 (.t 2)⟩,
 ⟨some 19, none, .call 66 [(.t 18)]⟩,
 ⟨some 20, none, .not (.t 19)⟩,
 ⟨some 21, none, .mv (.t 20)⟩,
 ⟨some 22, some (21, false), .mv (.t 1)⟩,
 ⟨some 23, some (21, false), .len (.t 22)⟩,
 ⟨some 24, some (21, false), .fld 3 (.t 2)⟩,
 ⟨some 25, some (21, false), .ld (.t 24)⟩,
 ⟨some 26, some (21, false), .len (.t 25)⟩,
 ⟨some 27, some (21, false), .bin .gtr (.t 23) (.t 26)⟩,
 ⟨some 28, none, .pick (.t 21) (.c (.d (.bool true))) (.t 27)⟩]) (
 .cond (.t 28) (
 .seq (
 .reg [⟨some 29, none, .agg [.d (.int 0), .d (.int 0), .d (.int 0), .nil, .nil] []⟩,
 ⟨none, none, .st 5 (.t 4) (.t 29)⟩,
 ⟨some 5, none, .mv (.c (.d (.bool false)))⟩]) (
 .ret)) (
 .skip))) (
 .seq (
 .seq (
 .reg [⟨some 30, none, .mv (.t 1)⟩,
 ⟨some 31, none, .len (.t 30)⟩,
 ⟨some 32, none, .mv (.c (.d (.int 0)))⟩]) (
 .block 0 (
 .loop L4_impl_SubNetwork))) (
 .seq (
 .reg [⟨some 55, none, .fld 0 (.t 2)⟩,
 ⟨some 56, none, .ldn 3 (.t 55)⟩,
 ⟨some 57, none, .agg [.d (.int 0), .d (.int 0), .d (.int 0), .nil, .nil] [(0, 3, (.t 56))]⟩,
 ⟨some 8, none, .zer [.d (.int 0), .d (.int 0), .d (.int 0), .nil, .nil]⟩,
 ⟨none, none, .st 5 (.t 8) (.t 57)⟩]) (
 .seq (
 .reg [⟨some 9, none, .zer (reps 100 (.d (.bool false)))⟩,
 ⟨some 10, none, .zer (reps 100 (.d (.bool false)))⟩]) (
 .seq (
 .seq (
 .reg [⟨some 58, none, .mv (.t 1)⟩,
 ⟨some 59, none, .len (.t 58)⟩,
 ⟨some 60, none, .mv (.c (.d (.int 0)))⟩]) (
 .block 2 (
 .loop L3_impl_SubNetwork))) (
 .seq (
 .seq (
 .reg [⟨some 83, none, .fld 3 (.t 2)⟩,
 ⟨some 84, none, .ld (.t 83)⟩,
 ⟨some 85, none, .len (.t 84)⟩,
 ⟨some 86, none, .mv (.c (.d (.int 0)))⟩]) (
 .block 4 (
 .loop L2_impl_SubNetwork))) (
 .seq (
 .seq (
 .reg [⟨some 99, none, .fld 4 (.t 2)⟩,
 ⟨some 100, none, .ld (.t 99)⟩,
 ⟨some 101, none, .len (.t 100)⟩,
 ⟨some 102, none, .mv (.c (.d (.int 0)))⟩]) (
 .block 6 (
 .loop L1_impl_SubNetwork))) (
 .seq (
 .seq (
 .reg [⟨some 116, none, .mv (.c (.d (.int 0)))⟩]) (
 .block 8 (
 .loop L0_impl_SubNetwork))) (
 .seq (
 .seq (
 .reg [⟨some 141, none, .ldn 5 (.t 8)⟩,
 ⟨some 142, none, .call 66 [(.t 141)]⟩,
 ⟨some 143, none, .not (.t 142)⟩]) (
 .cond (.t 143) (
 .seq (
 .reg [⟨some 144, none, .agg [.d (.int 0), .d (.int 0), .d (.int 0), .nil, .nil] []⟩,
 ⟨none, none, .st 5 (.t 4) (.t 144)⟩,
 ⟨some 5, none, .mv (.c (.d (.bool false)))⟩]) (
 .ret)) (
 .skip))) (
 .seq (
 .reg [⟨some 145, none, .ldn 5 (.t 8)⟩,
 ⟨none, none, .st 5 (.t 4) (.t 145)⟩,
 ⟨some 5, none, .mv (.c (.d (.bool true)))⟩]) (
 .ret))))))))))),
 [.cell 4 5, .t 5]⟩

theorem k_impl_SubNetwork : cFun Try.prog Try.f18 = some C_impl_SubNetwork.erase := by kernel_rfl

def L0_spec_l13Sub : C :=
 .seq (
 .reg [⟨some 78, none, .bin .lss (.t 77) (.t 76)⟩]) (
 .seq (
 .cond (.t 78) (
 .skip) (
 .exit 6)) (
 .seq (
 .block 7 (
 .seq (
 .reg [⟨some 79, none, .idx 1 (.t 75) (.t 77)⟩,
 ⟨some 80, none, .ld (.t 79)⟩,
 ⟨some 14, none, .mv (.t 80)⟩]) (
 .seq (
 .reg [⟨some 81, none, .fld 4 (.t 2)⟩,
 ⟨some 82, none, .ld (.t 81)⟩,
 ⟨some 83, none, .mv (.t 14)⟩,
 ⟨some 84, none, .call 63 [(.t 82), (.t 83)]⟩,
 ⟨some 85, none, .bin .lss (.t 84) (.c (.d (.int 0)))⟩,
 ⟨some 86, none, .mv (.t 85)⟩,
 ⟨some 87, some (86, true), .mv (.t 6)⟩,
 ⟨some 88, some (86, true), .mv (.t 14)⟩,
 ⟨some 89, some (86, true), .call 95 [(.t 87), (.t 88)]⟩,
 ⟨some 90, some (86, true), .bin .gtr (.t 89) (.c (.d (.int 0)))⟩,
 ⟨some 91, none, .pick (.t 86) (.t 90) (.c (.d (.bool false)))⟩]) (
 .cond (.t 91) (
 .reg [⟨some 92, none, .fld 4 (.t 5)⟩,
 ⟨some 93, none, .ld (.t 92)⟩,
 ⟨some 94, none, .mv (.t 14)⟩,
 ⟨some 95, none, .mksl 1 1 [.d (.int 0)] [(0, 1, (.t 94))]⟩,
 ⟨some 96, none, .app 1 8 [.d (.int 0)] (.t 93) (.t 95)⟩,
 ⟨some 97, none, .fld 4 (.t 5)⟩,
 ⟨none, none, .st 1 (.t 97) (.t 96)⟩]) (
 .skip))))) (
 .reg [⟨some 98, none, .bin .add (.t 77) (.c (.d (.int 1)))⟩,
 ⟨some 77, none, .mv (.t 98)⟩])))

def L1_spec_l13Sub : C :=
 .seq (
 .reg [⟨some 58, none, .bin .lss (.t 57) (.t 56)⟩]) (
 .seq (
 .cond (.t 58) (
 .skip) (
 .exit 4)) (
 .seq (
 .block 5 (
 .seq (
 .reg [⟨some 59, none, .idx 1 (.t 55) (.t 57)⟩,
 ⟨some 60, none, .ld (.t 59)⟩,
 ⟨some 12, none, .mv (.t 60)⟩]) (
 .seq (
 .reg [⟨some 61, none, .fld 3 (.t 5)⟩,
 ⟨some 62, none, .ld (.t 61)⟩,
 ⟨some 63, none, .mv (.t 12)⟩,
 ⟨some 64, none, .call 95 [(.t 62), (.t 63)]⟩,
 ⟨some 65, none, .bin .gtr (.t 64) (.c (.d (.int 0)))⟩]) (
 .cond (.t 65) (
 .reg [⟨some 66, none, .fld 4 (.t 5)⟩,
 ⟨some 67, none, .ld (.t 66)⟩,
 ⟨some 68, none, .mv (.t 12)⟩,
 ⟨some 69, none, .mksl 1 1 [.d (.int 0)] [(0, 1, (.t 68))]⟩,
 ⟨some 70, none, .app 1 8 [.d (.int 0)] (.t 67) (.t 69)⟩,
 ⟨some 71, none, .fld 4 (.t 5)⟩,
 ⟨none, none, .st 1 (.t 71) (.t 70)⟩]) (
 .skip))))) (
 .reg [⟨some 72, none, .bin .add (.t 57) (.c (.d (.int 1)))⟩,
 ⟨some 57, none, .mv (.t 72)⟩])))

def L2_spec_l13Sub : C :=
 .seq (
 .reg [⟨some 41, none, .bin .lss (.t 40) (.t 39)⟩]) (
 .seq (
 .cond (.t 41) (
 .skip) (
 .exit 2)) (
 .seq (
 .block 3 (
 .seq (
 .reg [⟨some 42, none, .mv (.t 40)⟩,
 ⟨some 43, none, .idx 3 (.t 38) (.t 40)⟩,
 ⟨some 44, none, .ldn 3 (.t 43)⟩,
 ⟨some 10, none, .zer [.nil, .nil, .nil]⟩,
 ⟨some 9, none, .mv (.t 42)⟩,
 ⟨none, none, .st 3 (.t 10) (.t 44)⟩]) (
 .seq (
 .reg [⟨some 45, none, .mv (.t 1)⟩,
 ⟨some 46, none, .mv (.t 9)⟩,
 ⟨some 47, none, .call 63 [(.t 45), (.t 46)]⟩,
 ⟨some 48, none, .bin .lss (.t 47) (.c (.d (.int 0)))⟩]) (
 .cond (.t 48) (
 .reg [⟨some 49, none, .mv (.t 6)⟩,
 ⟨some 50, none, .ldn 3 (.t 10)⟩,
 ⟨some 51, none, .mksl 3 1 [.nil, .nil, .nil] [(0, 3, (.t 50))]⟩,
 ⟨some 52, none, .app 3 72 [.nil, .nil, .nil] (.t 49) (.t 51)⟩,
 ⟨some 6, none, .mv (.t 52)⟩]) (
 .skip))))) (
 .reg [⟨some 53, none, .bin .add (.t 40) (.c (.d (.int 1)))⟩,
 ⟨some 40, none, .mv (.t 53)⟩])))

def L3_spec_l13Sub : C :=
 .seq (
 .reg [⟨some 22, none, .bin .lss (.t 21) (.t 20)⟩]) (
 .seq (
 .cond (.t 22) (
 .skip) (
 .exit 0)) (
 .seq (
 .block 1 (
 .seq (
 .reg [⟨some 23, none, .idx 1 (.t 19) (.t 21)⟩,
 ⟨some 24, none, .ld (.t 23)⟩,
 ⟨some 8, none, .mv (.t 24)⟩]) (
 .draw [⟨some 25, none, .fld 3 (.t 5)⟩,
 ⟨some 26, none, .ld (.t 25)⟩,
 ⟨some 27, none, .fld 3 (.t 2)⟩,
 ⟨some 28, none, .ld (.t 27)⟩,
 ⟨some 29, none, .mv (.t 8)⟩,
 ⟨some 30, none, .idx 3 (.t 28) (.t 29)⟩,
 ⟨some 31, none, .ldn 3 (.t 30)⟩,
 ⟨some 32, none, .call 139 [(.t 31)]⟩,
 ⟨some 33, none, .mksl 3 1 [.nil, .nil, .nil] [(0, 3, (.t 32))]⟩]
 [⟨some 34, none, .app 3 72 [.nil, .nil, .nil] (.t 26) (.t 33)⟩,
 ⟨some 35, none, .fld 3 (.t 5)⟩,
 ⟨none, none, .st 1 (.t 35) (.t 34)⟩]))) (
 .reg [⟨some 36, none, .bin .add (.t 21) (.c (.d (.int 1)))⟩,
 ⟨some 21, none, .mv (.t 36)⟩])))

def C_spec_l13Sub : Fun := ⟨2, 100,
 .seq (
 .reg [⟨some 2, none, .box (.t 0)⟩,
 ⟨some 4, none, .zer [.d (.int 0), .d (.int 0), .d (.int 0), .nil, .nil]⟩]) (
 .seq (
 .reg [⟨some 15, none, .fld 0 (.t 2)⟩,
 ⟨some 16, none, .ldn 3 (.t 15)⟩,
 ⟨some 17, none, .agg [.d (.int 0), .d (.int 0), .d (.int 0), .nil, .nil] [(0, 3, (.t 16))]⟩,
 ⟨some 5, none, .zer [.d (.int 0), .d (.int 0), .d (.int 0), .nil, .nil]⟩,
 ⟨none, none, .st 5 (.t 5) (.t 17)⟩]) (
 .seq (
 .reg [⟨some 18, none, .mksl 3 0 [.nil, .nil, .nil] []⟩,
 ⟨some 6, none, .mv (.t 18)⟩]) (
 .seq (
 .seq (
 .reg [⟨some 19, none, .mv (.t 1)⟩,
 ⟨some 20, none, .len (.t 19)⟩,
 ⟨some 21, none, .mv (.c (.d (.int 0)))⟩]) (
 .block 0 (
 .loop L3_spec_l13Sub))) (
 .seq (
 .seq (
 .reg [⟨some 37, none, .fld 3 (.t 2)⟩,
 ⟨some 38, none, .ld (.t 37)⟩,
 ⟨some 39, none, .len (.t 38)⟩,
 ⟨some 40, none, .mv (.c (.d (.int 0)))⟩]) (
 .block 2 (
 .loop L2_spec_l13Sub))) (
 .seq (
 .seq (
 .reg [⟨some 54, none, .fld 4 (.t 2)⟩,
 ⟨some 55, none, .ld (.t 54)⟩,
 ⟨some 56, none, .len (.t 55)⟩,
 ⟨some 57, none, .mv (.c (.d (.int 0)))⟩]) (
 .block 4 (
 .loop L1_spec_l13Sub))) (
 .seq (
 .seq (
 .reg [⟨some 73, none, .fld 3 (.t 5)⟩,
 ⟨some 74, none, .ld (.t 73)⟩,
 ⟨some 75, none, .call 76 [(.t 74)]⟩,
 ⟨some 76, none, .len (.t 75)⟩,
 ⟨some 77, none, .mv (.c (.d (.int 0)))⟩]) (
 .block 6 (
 .loop L0_spec_l13Sub))) (
 .seq (
 .reg [⟨some 99, none, .ldn 5 (.t 5)⟩,
 ⟨none, none, .st 5 (.t 4) (.t 99)⟩]) (
 .ret)))))))),
 [.cell 4 5]⟩

theorem k_spec_l13Sub : cFun Try.prog Try.f64 = some C_spec_l13Sub.erase := by kernel_rfl
end Go.Proofs.Ytcgnehacihjnkaa
