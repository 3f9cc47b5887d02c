/-
  The compiled code of functions of the seat (written by mkcode.py). No condition.
-/
import Derived.Test.YtcgnehacihjnkaaLiftE
import Derived.Test.YtcgnehacihjnkaaProg
import Derived.KernelRfl
namespace Go.Proofs.Ytcgnehacihjnkaa
open Go.Lift

def L0_impl_RelabelNetwork : C :=
 .seq (
 .reg [⟨some 81, none, .bin .lss (.t 80) (.t 79)⟩]) (
 .seq (
 .cond (.t 81) (
 .skip) (
 .exit 6)) (
 .seq (
 .block 7 (
 .seq (
 .reg [⟨some 82, none, .mv (.t 80)⟩,
 ⟨some 83, none, .idx 1 (.t 78) (.t 80)⟩,
 ⟨some 84, none, .ld (.t 83)⟩,
 ⟨some 17, none, .mv (.t 82)⟩,
 ⟨some 18, none, .mv (.t 84)⟩]) (
 .draw [⟨some 85, none, .fld 4 (.t 12)⟩,
 ⟨some 86, none, .ld (.t 85)⟩,
 ⟨some 87, none, .mv (.t 17)⟩,
 ⟨some 88, none, .mv (.t 18)⟩,
 ⟨some 89, none, .mv (.t 1)⟩,
 ⟨some 90, none, .mv (.t 2)⟩,
 ⟨some 91, none, .call 80 [(.t 88), (.t 89), (.t 90)]⟩]
 [⟨some 92, none, .idx 1 (.t 86) (.t 87)⟩,
 ⟨none, none, .st 1 (.t 92) (.t 91)⟩]))) (
 .reg [⟨some 93, none, .bin .add (.t 80) (.c (.d (.int 1)))⟩,
 ⟨some 80, none, .mv (.t 93)⟩])))

def L1_impl_RelabelNetwork : C :=
 .seq (
 .reg [⟨some 63, none, .bin .lss (.t 62) (.t 61)⟩]) (
 .seq (
 .cond (.t 63) (
 .skip) (
 .exit 4)) (
 .seq (
 .block 5 (
 .seq (
 .reg [⟨some 64, none, .mv (.t 62)⟩,
 ⟨some 65, none, .idx 1 (.t 60) (.t 62)⟩,
 ⟨some 66, none, .ld (.t 65)⟩,
 ⟨some 15, none, .mv (.t 64)⟩,
 ⟨some 16, none, .mv (.t 66)⟩]) (
 .draw [⟨some 67, none, .fld 0 (.t 14)⟩,
 ⟨some 68, none, .ld (.t 67)⟩,
 ⟨some 69, none, .mv (.t 15)⟩,
 ⟨some 70, none, .mv (.t 16)⟩,
 ⟨some 71, none, .mv (.t 1)⟩,
 ⟨some 72, none, .mv (.t 2)⟩,
 ⟨some 73, none, .call 80 [(.t 70), (.t 71), (.t 72)]⟩]
 [⟨some 74, none, .idx 1 (.t 68) (.t 69)⟩,
 ⟨none, none, .st 1 (.t 74) (.t 73)⟩]))) (
 .reg [⟨some 75, none, .bin .add (.t 62) (.c (.d (.int 1)))⟩,
 ⟨some 62, none, .mv (.t 75)⟩])))

def L2_impl_RelabelNetwork : C :=
 .seq (
 .reg [⟨some 56, none, .bin .lss (.t 55) (.t 54)⟩]) (
 .seq (
 .gh (.cond (.t 56) (
 .skip) (
 .exit 2))) (
 .seq (
 .block 3 (
 .seq (
 .reg [⟨some 57, none, .idx 3 (.t 53) (.t 55)⟩,
 ⟨some 58, none, .ldn 3 (.t 57)⟩,
 ⟨some 14, none, .zer [.nil, .nil, .nil]⟩,
 ⟨none, none, .st 3 (.t 14) (.t 58)⟩]) (
 .seq (
 .reg [⟨some 59, none, .fld 0 (.t 14)⟩,
 ⟨some 60, none, .ld (.t 59)⟩,
 ⟨some 61, none, .len (.t 60)⟩,
 ⟨some 62, none, .mv (.c (.d (.int 0)))⟩]) (
 .block 4 (
 .loop L1_impl_RelabelNetwork))))) (
 .reg [⟨some 76, none, .bin .add (.t 55) (.c (.d (.int 1)))⟩,
 ⟨some 55, none, .mv (.t 76)⟩])))

def L3_impl_RelabelNetwork : C :=
 .seq (
 .reg [⟨some 34, none, .bin .lss (.t 33) (.t 32)⟩]) (
 .seq (
 .cond (.t 34) (
 .skip) (
 .exit 0)) (
 .seq (
 .block 1 (
 .seq (
 .reg [⟨some 35, none, .idx 1 (.t 31) (.t 33)⟩,
 ⟨some 36, none, .ld (.t 35)⟩,
 ⟨some 10, none, .mv (.t 36)⟩]) (
 .seq (
 .reg [⟨some 37, none, .mv (.t 10)⟩,
 ⟨some 38, none, .mv (.t 1)⟩,
 ⟨some 39, none, .mv (.t 2)⟩,
 ⟨some 40, none, .call 80 [(.t 37), (.t 38), (.t 39)]⟩,
 ⟨some 11, none, .mv (.t 40)⟩]) (
 .seq (
 .seq (
 .reg [⟨some 41, none, .mv (.t 8)⟩,
 ⟨some 42, none, .mv (.t 11)⟩,
 ⟨some 43, none, .call 67 [(.t 41), (.t 42)]⟩]) (
 .cond (.t 43) (
 .seq (
 .reg [⟨some 44, none, .agg [.d (.int 0), .d (.int 0), .d (.int 0), .nil, .nil] []⟩,
 ⟨none, none, .st 5 (.t 6) (.t 44)⟩,
 ⟨some 7, none, .mv (.c (.d (.bool false)))⟩]) (
 .ret)) (
 .skip))) (
 .reg [⟨some 45, none, .mv (.t 8)⟩,
 ⟨some 46, none, .mv (.t 11)⟩,
 ⟨some 47, none, .mksl 1 1 [.d (.int 0)] [(0, 1, (.t 46))]⟩,
 ⟨some 48, none, .app 1 8 [.d (.int 0)] (.t 45) (.t 47)⟩,
 ⟨some 8, none, .mv (.t 48)⟩]))))) (
 .reg [⟨some 49, none, .bin .add (.t 33) (.c (.d (.int 1)))⟩,
 ⟨some 33, none, .mv (.t 49)⟩])))

def C_impl_RelabelNetwork : Fun := ⟨3, 99,
 .seq (
 .reg [⟨some 3, none, .box (.t 0)⟩,
 ⟨some 6, none, .zer [.d (.int 0), .d (.int 0), .d (.int 0), .nil, .nil]⟩,
 ⟨some 7, none, .mv (.c (.d (.bool false)))⟩]) (
 .seq (
 .seq (
 .reg [⟨some 19, none, .ldn 5 (.t 3)⟩,
 ⟨some 20, none, .call 66 [(.t 19)]⟩,
 ⟨some 21, none, .not (.t 20)⟩,
 ⟨some 22, none, .mv (.t 21)⟩,
 ⟨some 23, some (22, false), .mv (.t 1)⟩,
 ⟨some 24, some (22, false), .len (.t 23)⟩,
 ⟨some 25, some (22, false), .mv (.t 2)⟩,
 ⟨some 26, some (22, false), .len (.t 25)⟩,
 ⟨some 27, some (22, false), .bin .neq (.t 24) (.t 26)⟩,
 ⟨some 28, none, .pick (.t 22) (.c (.d (.bool true))) (.t 27)⟩]) (
 .cond (.t 28) (
 .seq (
 .reg [⟨some 29, none, .agg [.d (.int 0), .d (.int 0), .d (.int 0), .nil, .nil] []⟩,
 ⟨none, none, .st 5 (.t 6) (.t 29)⟩,
 ⟨some 7, none, .mv (.c (.d (.bool false)))⟩]) (
 .ret)) (
 .skip))) (
 .seq (
 .reg [⟨some 8, none, .mv (.c (.nil))⟩]) (
 .seq (
 .seq (
 .reg [⟨some 30, none, .ldn 5 (.t 3)⟩,
 ⟨some 31, none, .call 79 [(.t 30)]⟩,
 ⟨some 32, none, .len (.t 31)⟩,
 ⟨some 33, none, .mv (.c (.d (.int 0)))⟩]) (
 .block 0 (
 .loop L3_impl_RelabelNetwork))) (
 .seq (
 .reg [⟨some 50, none, .ldn 5 (.t 3)⟩,
 ⟨some 51, none, .call 81 [(.t 50)]⟩,
 ⟨some 12, none, .zer [.d (.int 0), .d (.int 0), .d (.int 0), .nil, .nil]⟩,
 ⟨none, none, .st 5 (.t 12) (.t 51)⟩]) (
 .seq (
 .seq (
 .reg [⟨some 52, none, .fld 3 (.t 12)⟩,
 ⟨some 53, none, .ld (.t 52)⟩,
 ⟨some 54, none, .len (.t 53)⟩,
 ⟨some 55, none, .mv (.c (.d (.int 0)))⟩]) (
 .block 2 (
 .loop L2_impl_RelabelNetwork))) (
 .seq (
 .seq (
 .reg [⟨some 77, none, .fld 4 (.t 12)⟩,
 ⟨some 78, none, .ld (.t 77)⟩,
 ⟨some 79, none, .len (.t 78)⟩,
 ⟨some 80, none, .mv (.c (.d (.int 0)))⟩]) (
 .block 6 (
 .loop L0_impl_RelabelNetwork))) (
 .seq (
 .seq (
 .reg [⟨some 94, none, .ldn 5 (.t 12)⟩,
 ⟨some 95, none, .call 66 [(.t 94)]⟩,
 ⟨some 96, none, .not (.t 95)⟩]) (
 .cond (.t 96) (
 .seq (
 .reg [⟨some 97, none, .agg [.d (.int 0), .d (.int 0), .d (.int 0), .nil, .nil] []⟩,
 ⟨none, none, .st 5 (.t 6) (.t 97)⟩,
 ⟨some 7, none, .mv (.c (.d (.bool false)))⟩]) (
 .ret)) (
 .skip))) (
 .seq (
 .reg [⟨some 98, none, .ldn 5 (.t 12)⟩,
 ⟨none, none, .st 5 (.t 6) (.t 98)⟩,
 ⟨some 7, none, .mv (.c (.d (.bool true)))⟩]) (
 .ret))))))))),
 [.cell 6 5, .t 7]⟩

theorem k_impl_RelabelNetwork : cFun Try.prog Try.f27 = some C_impl_RelabelNetwork.erase := by kernel_rfl

def L0_spec_RelabelNetwork : C :=
 .seq (
 .reg [⟨some 59, none, .bin .lss (.t 58) (.t 57)⟩]) (
 .seq (
 .gh (.cond (.t 59) (
 .skip) (
 .exit 2))) (
 .seq (
 .block 3 (
 .seq (
 .reg [⟨some 60, none, .mv (.t 58)⟩,
 ⟨some 61, none, .idx 3 (.t 56) (.t 58)⟩,
 ⟨some 62, none, .ldn 3 (.t 61)⟩,
 ⟨some 14, none, .zer [.nil, .nil, .nil]⟩,
 ⟨some 13, none, .mv (.t 60)⟩,
 ⟨none, none, .st 3 (.t 14) (.t 62)⟩]) (
 .draw [⟨some 63, none, .fld 3 (.t 12)⟩,
 ⟨some 64, none, .ld (.t 63)⟩,
 ⟨some 65, none, .mv (.t 13)⟩,
 ⟨some 66, none, .fld 0 (.t 14)⟩,
 ⟨some 67, none, .ld (.t 66)⟩,
 ⟨some 68, none, .mv (.t 1)⟩,
 ⟨some 69, none, .mv (.t 2)⟩,
 ⟨some 70, none, .call 77 [(.t 67), (.t 68), (.t 69)]⟩]
 [⟨some 71, none, .idx 3 (.t 64) (.t 65)⟩,
 ⟨some 72, none, .fld 0 (.t 71)⟩,
 ⟨none, none, .st 1 (.t 72) (.t 70)⟩]))) (
 .reg [⟨some 73, none, .bin .add (.t 58) (.c (.d (.int 1)))⟩,
 ⟨some 58, none, .mv (.t 73)⟩])))

def L1_spec_RelabelNetwork : C :=
 .seq (
 .reg [⟨some 36, none, .bin .lss (.t 35) (.t 34)⟩]) (
 .seq (
 .cond (.t 36) (
 .skip) (
 .exit 0)) (
 .seq (
 .block 1 (
 .seq (
 .reg [⟨some 37, none, .mv (.t 35)⟩,
 ⟨some 38, none, .idx 1 (.t 33) (.t 35)⟩,
 ⟨some 39, none, .ld (.t 38)⟩,
 ⟨some 10, none, .mv (.t 37)⟩,
 ⟨some 11, none, .mv (.t 39)⟩]) (
 .seq (
 .reg [⟨some 40, none, .mv (.t 11)⟩,
 ⟨some 41, none, .call 62 [(.t 40), (.c (.d (.int 0))), (.c (.d (.int 99)))]⟩,
 ⟨some 42, none, .not (.t 41)⟩,
 ⟨some 43, none, .mv (.t 42)⟩,
 ⟨some 44, some (43, false), .mv (.t 9)⟩,
 ⟨some 45, some (43, false), .mv (.t 10)⟩,
 ⟨some 46, some (43, false), .slc 1 (.t 44) none (some (.t 45))⟩,
 ⟨some 47, some (43, false), .mv (.t 11)⟩,
 ⟨some 48, some (43, false), .call 63 [(.t 46), (.t 47)]⟩,
 ⟨some 49, some (43, false), .bin .geq (.t 48) (.c (.d (.int 0)))⟩,
 ⟨some 50, none, .pick (.t 43) (.c (.d (.bool true))) (.t 49)⟩]) (
 .cond (.t 50) (
 .seq (
 .reg [⟨some 51, none, .agg [.d (.int 0), .d (.int 0), .d (.int 0), .nil, .nil] []⟩,
 ⟨none, none, .st 5 (.t 6) (.t 51)⟩,
 ⟨some 7, none, .mv (.c (.d (.bool false)))⟩]) (
 .ret)) (
 .skip))))) (
 .reg [⟨some 52, none, .bin .add (.t 35) (.c (.d (.int 1)))⟩,
 ⟨some 35, none, .mv (.t 52)⟩])))

def C_spec_RelabelNetwork : Fun := ⟨3, 81,
 .seq (
 .reg [⟨some 3, none, .box (.t 0)⟩,
 ⟨some 6, none, .zer [.d (.int 0), .d (.int 0), .d (.int 0), .nil, .nil]⟩,
 ⟨some 7, none, .mv (.c (.d (.bool false)))⟩]) (
 .seq (
 .seq (
 .reg [⟨some 15, none, .ldn 5 (.t 3)⟩,
 ⟨some 16, none, .call 61 [(.t 15)]⟩,
 ⟨some 17, none, .not (.t 16)⟩,
 ⟨some 18, none, .mv (.t 17)⟩,
 ⟨some 19, some (18, false), .mv (.t 1)⟩,
 ⟨some 20, some (18, false), .len (.t 19)⟩,
 ⟨some 21, some (18, false), .mv (.t 2)⟩,
 ⟨some 22, some (18, false), .len (.t 21)⟩,
 ⟨some 23, some (18, false), .bin .neq (.t 20) (.t 22)⟩,
 ⟨some 24, none, .pick (.t 18) (.c (.d (.bool true))) (.t 23)⟩]) (
 .cond (.t 24) (
 .seq (
 .reg [⟨some 25, none, .agg [.d (.int 0), .d (.int 0), .d (.int 0), .nil, .nil] []⟩,
 ⟨none, none, .st 5 (.t 6) (.t 25)⟩,
 ⟨some 7, none, .mv (.c (.d (.bool false)))⟩]) (
 .ret)) (
 .skip))) (
 .seq (
 .reg [⟨some 26, none, .fld 3 (.t 3)⟩,
 ⟨some 27, none, .ld (.t 26)⟩,
 ⟨some 28, none, .call 76 [(.t 27)]⟩,
 ⟨some 8, none, .mv (.t 28)⟩]) (
 .seq (
 .reg [⟨some 29, none, .mv (.t 8)⟩,
 ⟨some 30, none, .mv (.t 1)⟩,
 ⟨some 31, none, .mv (.t 2)⟩,
 ⟨some 32, none, .call 77 [(.t 29), (.t 30), (.t 31)]⟩,
 ⟨some 9, none, .mv (.t 32)⟩]) (
 .seq (
 .seq (
 .reg [⟨some 33, none, .mv (.t 9)⟩,
 ⟨some 34, none, .len (.t 33)⟩,
 ⟨some 35, none, .mv (.c (.d (.int 0)))⟩]) (
 .block 0 (
 .loop L1_spec_RelabelNetwork))) (
 .seq (
 .reg [⟨some 53, none, .ldn 5 (.t 3)⟩,
 ⟨some 54, none, .call 78 [(.t 53)]⟩,
 ⟨some 12, none, .zer [.d (.int 0), .d (.int 0), .d (.int 0), .nil, .nil]⟩,
 ⟨none, none, .st 5 (.t 12) (.t 54)⟩]) (
 .seq (
 .seq (
 .reg [⟨some 55, none, .fld 3 (.t 12)⟩,
 ⟨some 56, none, .ld (.t 55)⟩,
 ⟨some 57, none, .len (.t 56)⟩,
 ⟨some 58, none, .mv (.c (.d (.int 0)))⟩]) (
 .block 2 (
 .loop L0_spec_RelabelNetwork))) (
 .seq (
 .reg [⟨some 74, none, .fld 4 (.t 3)⟩,
 ⟨some 75, none, .ld (.t 74)⟩,
 ⟨some 76, none, .mv (.t 1)⟩,
 ⟨some 77, none, .mv (.t 2)⟩,
 ⟨some 78, none, .call 77 [(.t 75), (.t 76), (.t 77)]⟩,
 ⟨some 79, none, .fld 4 (.t 12)⟩,
 ⟨none, none, .st 1 (.t 79) (.t 78)⟩]) (
 .seq (
 .reg [⟨some 80, none, .ldn 5 (.t 12)⟩,
 ⟨none, none, .st 5 (.t 6) (.t 80)⟩,
 ⟨some 7, none, .mv (.c (.d (.bool true)))⟩]) (
 .ret))))))))),
 [.cell 6 5, .t 7]⟩

theorem k_spec_RelabelNetwork : cFun Try.prog Try.f26 = some C_spec_RelabelNetwork.erase := by kernel_rfl
end Go.Proofs.Ytcgnehacihjnkaa
