/-
  The compiled code of functions of the seat (written by mkcode.py). No condition.
-/
import Derived.Test.YtjncdanegoileaaLiftE
import Derived.Test.YtjncdanegoileaaProg
import Derived.KernelRfl
namespace Go.Proofs.Ytjncdanegoileaa
open Go.Lift

def C_spec_SliceNetwork : Fun := ⟨3, 22,
 .seq (
 .reg [⟨some 3, none, .box (.t 0)⟩,
 ⟨some 6, none, .zer [.d (.int 0), .d (.int 0), .d (.int 0), .nil, .nil]⟩,
 ⟨some 7, none, .mv (.c (.d (.bool false)))⟩]) (
 .seq (
 .seq (
 .reg [⟨some 8, none, .mv (.t 2)⟩,
 ⟨some 9, none, .ldn 5 (.t 3)⟩,
 ⟨some 10, none, .mv (.t 1)⟩,
 ⟨some 11, none, .call 51 [(.t 9), (.t 10)]⟩,
 ⟨some 12, none, .bin .sub (.t 11) (.c (.d (.int 1)))⟩,
 ⟨some 13, none, .call 50 [(.t 8), (.c (.d (.int 0))), (.t 12)]⟩,
 ⟨some 14, none, .not (.t 13)⟩]) (
 .cond (.t 14) (
 .seq (
 .reg [⟨some 15, none, .agg [.d (.int 0), .d (.int 0), .d (.int 0), .nil, .nil] []⟩,
 ⟨none, none, .st 5 (.t 6) (.t 15)⟩,
 ⟨some 7, none, .mv (.c (.d (.bool false)))⟩]) (
 .ret)) (
 .skip))) (
 .seq (
 .reg [⟨some 16, none, .ldn 5 (.t 3)⟩,
 ⟨some 17, none, .mv (.t 1)⟩,
 ⟨some 18, none, .mksl 1 1 [.d (.int 0)] [(0, 1, (.t 17))]⟩,
 ⟨some 19, none, .mv (.t 2)⟩,
 ⟨some 20, none, .mksl 1 1 [.d (.int 0)] [(0, 1, (.t 19))]⟩,
 ⟨some 21, none, .call 52 [(.t 16), (.t 18), (.t 20)]⟩,
 ⟨none, none, .st 5 (.t 6) (.t 21)⟩,
 ⟨some 7, none, .mv (.c (.d (.bool true)))⟩]) (
 .ret))),
 [.cell 6 5, .t 7]⟩

theorem k_spec_SliceNetwork : cFun Try.prog Try.f19 = some C_spec_SliceNetwork.erase := by kernel_rfl

def L0_impl_SliceNetwork : C :=
 .seq (
 .reg [⟨some 38, none, .bin .lss (.t 37) (.t 36)⟩]) (
 .seq (
 .cond (.t 38) (
 .skip) (
 .exit 0)) (
 .seq (
 .block 1 (
 .seq (
 .reg [⟨some 39, none, .idx 3 (.t 35) (.t 37)⟩,
 ⟨some 40, none, .ldn 3 (.t 39)⟩,
 ⟨some 10, none, .zer [.nil, .nil, .nil]⟩,
 ⟨none, none, .st 3 (.t 10) (.t 40)⟩]) (
 .seq (
 .reg [⟨some 41, none, .ldn 3 (.t 10)⟩,
 ⟨some 42, none, .call 59 [(.t 41)]⟩,
 ⟨some 11, none, .zer [.nil, .nil, .nil]⟩,
 ⟨none, none, .st 3 (.t 11) (.t 42)⟩]) (
 .seq (
 .seq (
 .reg [⟨some 43, none, .ldn 3 (.t 10)⟩,
 ⟨some 44, none, .mv (.t 1)⟩,
 ⟨some 45, none, .call 60 [(.t 43), (.t 44)]⟩,
 ⟨some 46, none, .bin .geq (.t 45) (.c (.d (.int 0)))⟩]) (
 .cond (.t 46) (
 .reg [⟨some 48, none, .fld 0 (.t 3)⟩,
 ⟨some 49, none, .ldn 3 (.t 48)⟩,
 ⟨some 50, none, .ldn 3 (.t 10)⟩,
 ⟨some 51, none, .mv (.t 1)⟩,
 ⟨some 52, none, .mv (.t 2)⟩,
 ⟨some 53, none, .call 61 [(.t 49), (.t 50), (.t 51), (.t 52)]⟩,
 ⟨some 47, none, .mv (.t 53)⟩,
 ⟨some 54, none, .ext 0 (.t 47)⟩,
 ⟨some 55, none, .ext 1 (.t 47)⟩,
 ⟨none, none, .st 3 (.t 11) (.t 54)⟩]) (
 .skip))) (
 .reg [⟨some 56, none, .fld 3 (.t 8)⟩,
 ⟨some 57, none, .ld (.t 56)⟩,
 ⟨some 58, none, .ldn 3 (.t 11)⟩,
 ⟨some 59, none, .mksl 3 1 [.nil, .nil, .nil] [(0, 3, (.t 58))]⟩,
 ⟨some 60, none, .app 3 72 [.nil, .nil, .nil] (.t 57) (.t 59)⟩,
 ⟨some 61, none, .fld 3 (.t 8)⟩,
 ⟨none, none, .st 1 (.t 61) (.t 60)⟩]))))) (
 .reg [⟨some 62, none, .bin .add (.t 37) (.c (.d (.int 1)))⟩,
 ⟨some 37, none, .mv (.t 62)⟩])))

def C_impl_SliceNetwork : Fun := ⟨3, 64,
 .seq (
 .reg [⟨some 3, none, .box (.t 0)⟩,
 ⟨some 6, none, .zer [.d (.int 0), .d (.int 0), .d (.int 0), .nil, .nil]⟩,
 ⟨some 7, none, .mv (.c (.d (.bool false)))⟩]) (
 .seq (
 .seq (
 .reg [⟨some 12, none, .ldn 5 (.t 3)⟩,
 ⟨some 13, none, .call 56 [(.t 12)]⟩,
 ⟨some 14, none, .not (.t 13)⟩,
 ⟨some 15, none, .mv (.t 14)⟩,
 ⟨some 16, some (15, false), .mv (.t 2)⟩,
 ⟨some 17, some (15, false), .bin .lss (.t 16) (.c (.d (.int 0)))⟩,
 ⟨some 18, none, .pick (.t 15) (.c (.d (.bool true))) (.t 17)⟩,
 ⟨some 19, none, .mv (.t 18)⟩,
 ⟨some 20, some (19, false), .mv (.t 2)⟩,
 ⟨some 21, some (19, false), .ldn 5 (.t 3)⟩,
 ⟨some 22, some (19, false), .mv (.t 1)⟩,
 ⟨some 23, some (19, false), .call 57 [(.t 21), (.t 22)]⟩,
 ⟨some 24, some (19, false), .bin .geq (.t 20) (.t 23)⟩,
 ⟨some 25, none, .pick (.t 19) (.c (.d (.bool true))) (.t 24)⟩]) (
 .cond (.t 25) (
 .seq (
 .reg [⟨some 26, none, .agg [.d (.int 0), .d (.int 0), .d (.int 0), .nil, .nil] []⟩,
 ⟨none, none, .st 5 (.t 6) (.t 26)⟩,
 ⟨some 7, none, .mv (.c (.d (.bool false)))⟩]) (
 .ret)) (
 .skip))) (
 .seq (
 .draw [⟨some 27, none, .fld 0 (.t 3)⟩,
 ⟨some 28, none, .ldn 3 (.t 27)⟩,
 ⟨some 29, none, .fld 4 (.t 3)⟩,
 ⟨some 30, none, .ld (.t 29)⟩,
 ⟨some 31, none, .mv (.t 1)⟩,
 ⟨some 32, none, .call 58 [(.t 30), (.t 31)]⟩,
 ⟨some 33, none, .agg [.d (.int 0), .d (.int 0), .d (.int 0), .nil, .nil] [(0, 3, (.t 28)), (4, 1, (.t 32))]⟩,
 ⟨some 8, none, .zer [.d (.int 0), .d (.int 0), .d (.int 0), .nil, .nil]⟩]
 [⟨none, none, .st 5 (.t 8) (.t 33)⟩]) (
 .seq (
 .seq (
 .reg [⟨some 34, none, .fld 3 (.t 3)⟩,
 ⟨some 35, none, .ld (.t 34)⟩,
 ⟨some 36, none, .len (.t 35)⟩,
 ⟨some 37, none, .mv (.c (.d (.int 0)))⟩]) (
 .block 0 (
 .loop L0_impl_SliceNetwork))) (
 .seq (
 .reg [⟨some 63, none, .ldn 5 (.t 8)⟩,
 ⟨none, none, .st 5 (.t 6) (.t 63)⟩,
 ⟨some 7, none, .mv (.c (.d (.bool true)))⟩]) (
 .ret))))),
 [.cell 6 5, .t 7]⟩

theorem k_impl_SliceNetwork : cFun Try.prog Try.f21 = some C_impl_SliceNetwork.erase := by kernel_rfl

def L0_spec_l15Slice : C :=
 .seq (
 .reg [⟨some 37, none, .bin .lss (.t 36) (.t 35)⟩]) (
 .seq (
 .cond (.t 37) (
 .skip) (
 .exit 2)) (
 .seq (
 .block 3 (
 .seq (
 .reg [⟨some 38, none, .idx 3 (.t 34) (.t 36)⟩,
 ⟨some 39, none, .ldn 3 (.t 38)⟩,
 ⟨some 11, none, .zer [.nil, .nil, .nil]⟩,
 ⟨none, none, .st 3 (.t 11) (.t 39)⟩]) (
 .draw [⟨some 40, none, .fld 3 (.t 7)⟩,
 ⟨some 41, none, .ld (.t 40)⟩,
 ⟨some 42, none, .fld 0 (.t 3)⟩,
 ⟨some 43, none, .ldn 3 (.t 42)⟩,
 ⟨some 44, none, .ldn 3 (.t 11)⟩,
 ⟨some 45, none, .mv (.t 1)⟩,
 ⟨some 46, none, .mv (.t 2)⟩,
 ⟨some 47, none, .call 107 [(.t 43), (.t 44), (.t 45), (.t 46)]⟩,
 ⟨some 48, none, .mksl 3 1 [.nil, .nil, .nil] [(0, 3, (.t 47))]⟩]
 [⟨some 49, none, .app 3 72 [.nil, .nil, .nil] (.t 41) (.t 48)⟩,
 ⟨some 50, none, .fld 3 (.t 7)⟩,
 ⟨none, none, .st 1 (.t 50) (.t 49)⟩]))) (
 .reg [⟨some 51, none, .bin .add (.t 36) (.c (.d (.int 1)))⟩,
 ⟨some 36, none, .mv (.t 51)⟩])))

def L1_spec_l15Slice : C :=
 .seq (
 .reg [⟨some 19, none, .bin .lss (.t 18) (.t 17)⟩]) (
 .seq (
 .cond (.t 19) (
 .skip) (
 .exit 0)) (
 .seq (
 .block 1 (
 .seq (
 .reg [⟨some 20, none, .idx 1 (.t 16) (.t 18)⟩,
 ⟨some 21, none, .ld (.t 20)⟩,
 ⟨some 9, none, .mv (.t 21)⟩]) (
 .seq (
 .reg [⟨some 22, none, .mv (.t 1)⟩,
 ⟨some 23, none, .mv (.t 9)⟩,
 ⟨some 24, none, .call 88 [(.t 22), (.t 23)]⟩,
 ⟨some 25, none, .bin .lss (.t 24) (.c (.d (.int 0)))⟩]) (
 .cond (.t 25) (
 .reg [⟨some 26, none, .fld 4 (.t 7)⟩,
 ⟨some 27, none, .ld (.t 26)⟩,
 ⟨some 28, none, .mv (.t 9)⟩,
 ⟨some 29, none, .mksl 1 1 [.d (.int 0)] [(0, 1, (.t 28))]⟩,
 ⟨some 30, none, .app 1 8 [.d (.int 0)] (.t 27) (.t 29)⟩,
 ⟨some 31, none, .fld 4 (.t 7)⟩,
 ⟨none, none, .st 1 (.t 31) (.t 30)⟩]) (
 .skip))))) (
 .reg [⟨some 32, none, .bin .add (.t 18) (.c (.d (.int 1)))⟩,
 ⟨some 18, none, .mv (.t 32)⟩])))

def C_spec_l15Slice : Fun := ⟨3, 53,
 .seq (
 .reg [⟨some 3, none, .box (.t 0)⟩,
 ⟨some 6, none, .zer [.d (.int 0), .d (.int 0), .d (.int 0), .nil, .nil]⟩]) (
 .seq (
 .reg [⟨some 12, none, .fld 0 (.t 3)⟩,
 ⟨some 13, none, .ldn 3 (.t 12)⟩,
 ⟨some 14, none, .agg [.d (.int 0), .d (.int 0), .d (.int 0), .nil, .nil] [(0, 3, (.t 13))]⟩,
 ⟨some 7, none, .zer [.d (.int 0), .d (.int 0), .d (.int 0), .nil, .nil]⟩,
 ⟨none, none, .st 5 (.t 7) (.t 14)⟩]) (
 .seq (
 .seq (
 .reg [⟨some 15, none, .fld 4 (.t 3)⟩,
 ⟨some 16, none, .ld (.t 15)⟩,
 ⟨some 17, none, .len (.t 16)⟩,
 ⟨some 18, none, .mv (.c (.d (.int 0)))⟩]) (
 .block 0 (
 .loop L1_spec_l15Slice))) (
 .seq (
 .seq (
 .reg [⟨some 33, none, .fld 3 (.t 3)⟩,
 ⟨some 34, none, .ld (.t 33)⟩,
 ⟨some 35, none, .len (.t 34)⟩,
 ⟨some 36, none, .mv (.c (.d (.int 0)))⟩]) (
 .block 2 (
 .loop L0_spec_l15Slice))) (
 .seq (
 .reg [⟨some 52, none, .ldn 5 (.t 7)⟩,
 ⟨none, none, .st 5 (.t 6) (.t 52)⟩]) (
 .ret))))),
 [.cell 6 5]⟩

theorem k_spec_l15Slice : cFun Try.prog Try.f52 = some C_spec_l15Slice.erase := by kernel_rfl
end Go.Proofs.Ytjncdanegoileaa
