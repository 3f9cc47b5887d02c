/-
  The compiled code of functions of the seat (written by mkcode.py). No condition.
-/
import Derived.Test.YtbebaoibniajpaaLiftE
import Derived.Test.YtbebaoibniajpaaProg
import Derived.KernelRfl
namespace Go.Proofs.Ytbebaoibniajpaa
open Go.Lift

def C_laws_szNetwork : Fun := ⟨2, 18,
 .seq (
 .reg [⟨some 2, none, .box (.t 0)⟩,
 ⟨some 4, none, .mv (.c (.d (.int 0)))⟩]) (
 .seq (
 .reg [⟨some 5, none, .fld 3 (.t 2)⟩,
 ⟨some 6, none, .ld (.t 5)⟩,
 ⟨some 7, none, .mv (.t 1)⟩,
 ⟨some 8, none, .call 53 [(.t 6), (.t 7)]⟩,
 ⟨some 1, none, .mv (.t 8)⟩]) (
 .seq (
 .seq (
 .reg [⟨some 9, none, .mv (.t 1)⟩,
 ⟨some 10, none, .bin .lss (.t 9) (.c (.d (.int 0)))⟩]) (
 .cond (.t 10) (
 .seq (
 .reg [⟨some 4, none, .mv (.c (.d (.int (-1))))⟩]) (
 .ret)) (
 .skip))) (
 .seq (
 .reg [⟨some 11, none, .fld 4 (.t 2)⟩,
 ⟨some 12, none, .ld (.t 11)⟩,
 ⟨some 13, none, .mv (.t 1)⟩,
 ⟨some 14, none, .call 54 [(.t 12), (.t 13)]⟩,
 ⟨some 1, none, .mv (.t 14)⟩]) (
 .seq (
 .seq (
 .reg [⟨some 15, none, .mv (.t 1)⟩,
 ⟨some 16, none, .bin .lss (.t 15) (.c (.d (.int 0)))⟩]) (
 .cond (.t 16) (
 .seq (
 .reg [⟨some 4, none, .mv (.c (.d (.int (-1))))⟩]) (
 .ret)) (
 .skip))) (
 .seq (
 .reg [⟨some 17, none, .mv (.t 1)⟩,
 ⟨some 4, none, .mv (.t 17)⟩]) (
 .ret)))))),
 [.t 4]⟩

theorem k_laws_szNetwork : cFun Try.prog Try.f15 = some C_laws_szNetwork.erase := by kernel_rfl

def L0_spec_NetworkOk : C :=
 .seq (
 .reg [⟨some 35, none, .bin .lss (.t 34) (.t 33)⟩]) (
 .seq (
 .cond (.t 35) (
 .skip) (
 .exit 2)) (
 .seq (
 .block 3 (
 .seq (
 .reg [⟨some 36, none, .mv (.t 34)⟩,
 ⟨some 37, none, .idx 1 (.t 32) (.t 34)⟩,
 ⟨some 38, none, .ld (.t 37)⟩,
 ⟨some 5, none, .mv (.t 36)⟩,
 ⟨some 6, none, .mv (.t 38)⟩]) (
 .seq (
 .reg [⟨some 39, none, .fld 3 (.t 1)⟩,
 ⟨some 40, none, .ld (.t 39)⟩,
 ⟨some 41, none, .mv (.t 3)⟩,
 ⟨some 42, none, .slc 3 (.t 40) none (some (.t 41))⟩,
 ⟨some 43, none, .mv (.t 6)⟩,
 ⟨some 44, none, .call 57 [(.t 42), (.t 43)]⟩,
 ⟨some 7, none, .mv (.t 44)⟩]) (
 .seq (
 .reg [⟨some 45, none, .mv (.t 7)⟩,
 ⟨some 46, none, .bin .gtr (.t 45) (.c (.d (.int 0)))⟩,
 ⟨some 47, none, .mv (.t 46)⟩,
 ⟨some 48, some (47, true), .mv (.t 7)⟩,
 ⟨some 49, some (47, true), .fld 1 (.t 4)⟩,
 ⟨some 50, some (47, true), .ld (.t 49)⟩,
 ⟨some 51, some (47, true), .mv (.t 5)⟩,
 ⟨some 52, some (47, true), .idx 1 (.t 50) (.t 51)⟩,
 ⟨some 53, some (47, true), .ld (.t 52)⟩,
 ⟨some 54, some (47, true), .bin .neq (.t 48) (.t 53)⟩,
 ⟨some 55, none, .pick (.t 47) (.t 54) (.c (.d (.bool false)))⟩]) (
 .cond (.t 55) (
 .seq (
 .reg [⟨some 2, none, .mv (.c (.d (.bool false)))⟩]) (
 .ret)) (
 .skip)))))) (
 .reg [⟨some 56, none, .bin .add (.t 34) (.c (.d (.int 1)))⟩,
 ⟨some 34, none, .mv (.t 56)⟩])))

def L1_spec_NetworkOk : C :=
 .seq (
 .reg [⟨some 22, none, .bin .lss (.t 21) (.t 20)⟩]) (
 .seq (
 .cond (.t 22) (
 .skip) (
 .exit 0)) (
 .seq (
 .block 1 (
 .seq (
 .reg [⟨some 23, none, .mv (.t 21)⟩,
 ⟨some 24, none, .idx 3 (.t 19) (.t 21)⟩,
 ⟨some 25, none, .ldn 3 (.t 24)⟩,
 ⟨some 4, none, .zer [.nil, .nil, .nil]⟩,
 ⟨some 3, none, .mv (.t 23)⟩,
 ⟨none, none, .st 3 (.t 4) (.t 25)⟩]) (
 .seq (
 .seq (
 .reg [⟨some 26, none, .fld 0 (.t 1)⟩,
 ⟨some 27, none, .ldn 3 (.t 26)⟩,
 ⟨some 28, none, .ldn 3 (.t 4)⟩,
 ⟨some 29, none, .call 56 [(.t 27), (.t 28)]⟩,
 ⟨some 30, none, .not (.t 29)⟩]) (
 .cond (.t 30) (
 .seq (
 .reg [⟨some 2, none, .mv (.c (.d (.bool false)))⟩]) (
 .ret)) (
 .skip))) (
 .seq (
 .reg [⟨some 31, none, .fld 0 (.t 4)⟩,
 ⟨some 32, none, .ld (.t 31)⟩,
 ⟨some 33, none, .len (.t 32)⟩,
 ⟨some 34, none, .mv (.c (.d (.int 0)))⟩]) (
 .block 2 (
 .loop L0_spec_NetworkOk)))))) (
 .reg [⟨some 57, none, .bin .add (.t 21) (.c (.d (.int 1)))⟩,
 ⟨some 21, none, .mv (.t 57)⟩])))

def C_spec_NetworkOk : Fun := ⟨1, 68,
 .seq (
 .reg [⟨some 1, none, .box (.t 0)⟩,
 ⟨some 2, none, .mv (.c (.d (.bool false)))⟩]) (
 .seq (
 .seq (
 .reg [⟨some 8, none, .fld 0 (.t 1)⟩,
 ⟨some 9, none, .ldn 3 (.t 8)⟩,
 ⟨some 10, none, .call 55 [(.t 9)]⟩,
 ⟨some 11, none, .not (.t 10)⟩,
 ⟨some 12, none, .mv (.t 11)⟩,
 ⟨some 13, some (12, false), .fld 3 (.t 1)⟩,
 ⟨some 14, some (12, false), .ld (.t 13)⟩,
 ⟨some 15, some (12, false), .len (.t 14)⟩,
 ⟨some 16, some (12, false), .bin .gtr (.t 15) (.c (.d (.int 12)))⟩,
 ⟨some 17, none, .pick (.t 12) (.c (.d (.bool true))) (.t 16)⟩]) (
 .cond (.t 17) (
 .seq (
 .reg [⟨some 2, none, .mv (.c (.d (.bool false)))⟩]) (
 .ret)) (
 .skip))) (
 .seq (
 .seq (
 .reg [⟨some 18, none, .fld 3 (.t 1)⟩,
 ⟨some 19, none, .ld (.t 18)⟩,
 ⟨some 20, none, .len (.t 19)⟩,
 ⟨some 21, none, .mv (.c (.d (.int 0)))⟩]) (
 .block 0 (
 .loop L1_spec_NetworkOk))) (
 .seq (
 .draw [⟨some 58, none, .fld 4 (.t 1)⟩,
 ⟨some 59, none, .ld (.t 58)⟩,
 ⟨some 60, none, .fld 3 (.t 1)⟩,
 ⟨some 61, none, .ld (.t 60)⟩,
 ⟨some 62, none, .fld 4 (.t 1)⟩,
 ⟨some 63, none, .ld (.t 62)⟩,
 ⟨some 64, none, .call 59 [(.t 61), (.t 63)]⟩]
 [⟨some 65, none, .agg [.nil, .nil, .nil] [(0, 1, (.t 59)), (1, 1, (.t 64))]⟩,
 ⟨some 66, none, .call 58 [(.t 65)]⟩,
 ⟨some 67, none, .bin .geq (.t 66) (.c (.d (.int 0)))⟩,
 ⟨some 2, none, .mv (.t 67)⟩]) (
 .ret)))),
 [.t 2]⟩

theorem k_spec_NetworkOk : cFun Try.prog Try.f16 = some C_spec_NetworkOk.erase := by kernel_rfl

def C_laws_toNetwork : Fun := ⟨1, 17,
 .seq (
 .reg [⟨some 1, none, .box (.t 0)⟩,
 ⟨some 2, none, .zer [.d (.int 0), .d (.int 0), .d (.int 0), .nil, .nil]⟩]) (
 .seq (
 .reg [⟨some 3, none, .zer [.d (.int 0), .d (.int 0), .d (.int 0), .nil, .nil]⟩]) (
 .seq (
 .reg [⟨some 4, none, .fld 0 (.t 1)⟩,
 ⟨some 5, none, .ldn 3 (.t 4)⟩,
 ⟨some 6, none, .call 26 [(.t 5)]⟩,
 ⟨some 7, none, .fld 0 (.t 3)⟩,
 ⟨none, none, .st 3 (.t 7) (.t 6)⟩]) (
 .seq (
 .reg [⟨some 8, none, .fld 3 (.t 1)⟩,
 ⟨some 9, none, .ld (.t 8)⟩,
 ⟨some 10, none, .call 60 [(.t 9)]⟩,
 ⟨some 11, none, .fld 3 (.t 3)⟩,
 ⟨none, none, .st 1 (.t 11) (.t 10)⟩]) (
 .seq (
 .reg [⟨some 12, none, .fld 4 (.t 1)⟩,
 ⟨some 13, none, .ld (.t 12)⟩,
 ⟨some 14, none, .call 28 [(.t 13)]⟩,
 ⟨some 15, none, .fld 4 (.t 3)⟩,
 ⟨none, none, .st 1 (.t 15) (.t 14)⟩]) (
 .seq (
 .reg [⟨some 16, none, .ldn 5 (.t 3)⟩,
 ⟨none, none, .st 5 (.t 2) (.t 16)⟩]) (
 .ret)))))),
 [.cell 2 5]⟩

theorem k_laws_toNetwork : cFun Try.prog Try.f17 = some C_laws_toNetwork.erase := by kernel_rfl

def L0_impl_NetworkOk : C :=
 .seq (
 .reg [⟨some 50, none, .bin .lss (.t 49) (.t 48)⟩]) (
 .seq (
 .cond (.t 50) (
 .skip) (
 .exit 2)) (
 .seq (
 .block 3 (
 .seq (
 .reg [⟨some 51, none, .idx 1 (.t 47) (.t 49)⟩,
 ⟨some 52, none, .ld (.t 51)⟩,
 ⟨some 8, none, .mv (.t 52)⟩]) (
 .seq (
 .reg [⟨some 53, none, .mv (.t 8)⟩,
 ⟨some 54, none, .bin .lss (.t 53) (.c (.d (.int 0)))⟩,
 ⟨some 55, none, .mv (.t 54)⟩,
 ⟨some 56, some (55, false), .mv (.t 8)⟩,
 ⟨some 57, some (55, false), .bin .gtr (.t 56) (.c (.d (.int 99)))⟩,
 ⟨some 58, none, .pick (.t 55) (.c (.d (.bool true))) (.t 57)⟩,
 ⟨some 59, none, .mv (.t 58)⟩,
 ⟨some 60, some (59, false), .mv (.t 8)⟩,
 ⟨some 61, some (59, false), .aix 1 100 (.t 5) (.t 60)⟩,
 ⟨some 62, some (59, false), .ld (.t 61)⟩,
 ⟨some 63, some (59, false), .bin .eql (.t 62) (.c (.d (.int 0)))⟩,
 ⟨some 64, none, .pick (.t 59) (.c (.d (.bool true))) (.t 63)⟩]) (
 .cond (.t 64) (
 .seq (
 .reg [⟨some 2, none, .mv (.c (.d (.bool false)))⟩]) (
 .ret)) (
 .skip))))) (
 .reg [⟨some 65, none, .bin .add (.t 49) (.c (.d (.int 1)))⟩,
 ⟨some 49, none, .mv (.t 65)⟩])))

def L1_impl_NetworkOk : C :=
 .seq (
 .reg [⟨some 29, none, .bin .lss (.t 28) (.t 27)⟩]) (
 .seq (
 .cond (.t 29) (
 .skip) (
 .exit 0)) (
 .seq (
 .block 1 (
 .seq (
 .reg [⟨some 30, none, .idx 3 (.t 26) (.t 28)⟩,
 ⟨some 31, none, .ldn 3 (.t 30)⟩,
 ⟨some 4, none, .zer [.nil, .nil, .nil]⟩,
 ⟨none, none, .st 3 (.t 4) (.t 31)⟩]) (
 .seq (
 .reg [⟨some 32, none, .fld 0 (.t 1)⟩,
 ⟨some 33, none, .ldn 3 (.t 32)⟩,
 ⟨some 34, none, .ldn 3 (.t 4)⟩,
 ⟨some 35, none, .call 62 [(.t 33), (.t 34)]⟩,
 ⟨some 36, none, .not (.t 35)⟩]) (
 .cond (.t 36) (
 .seq (
 .reg [⟨some 2, none, .mv (.c (.d (.bool false)))⟩]) (
 .ret)) (
 .skip))))) (
 .reg [⟨some 37, none, .bin .add (.t 28) (.c (.d (.int 1)))⟩,
 ⟨some 28, none, .mv (.t 37)⟩])))

def C_impl_NetworkOk : Fun := ⟨1, 72,
 .seq (
 .reg [⟨some 1, none, .box (.t 0)⟩,
 ⟨some 2, none, .mv (.c (.d (.bool false)))⟩]) (
 .seq (
 .seq (
 .reg [⟨some 9, none, .fld 0 (.t 1)⟩,
 ⟨some 10, none, .ldn 3 (.t 9)⟩,
 ⟨some 11, none, .call 61 [(.t 10)]⟩,
 ⟨some 12, none, .not (.t 11)⟩,
 ⟨some 13, none, .mv (.t 12)⟩,
 ⟨some 14, some (13, false), .fld 3 (.t 1)⟩,
 ⟨some 15, some (13, false), .ld (.t 14)⟩,
 ⟨some 16, some (13, false), .len (.t 15)⟩,
 ⟨some 17, some (13, false), .bin .gtr (.t 16) (.c (.d (.int 12)))⟩,
 ⟨some 18, none, .pick (.t 13) (.c (.d (.bool true))) (.t 17)⟩,
 ⟨some 19, none, .mv (.t 18)⟩,
 ⟨some 20, some (19, false), .fld 4 (.t 1)⟩,
 ⟨some 21, some (19, false), .ld (.t 20)⟩,
 ⟨some 22, some (19, false), .len (.t 21)⟩,
 ⟨some 23, some (19, false), .bin .gtr (.t 22) (.c (.d (.int 12)))⟩,
 ⟨some 24, none, .pick (.t 19) (.c (.d (.bool true))) (.t 23)⟩]) (
 .cond (.t 24) (
 .seq (
 .reg [⟨some 2, none, .mv (.c (.d (.bool false)))⟩]) (
 .ret)) (
 .skip))) (
 .seq (
 .seq (
 .reg [⟨some 25, none, .fld 3 (.t 1)⟩,
 ⟨some 26, none, .ld (.t 25)⟩,
 ⟨some 27, none, .len (.t 26)⟩,
 ⟨some 28, none, .mv (.c (.d (.int 0)))⟩]) (
 .block 0 (
 .loop L1_impl_NetworkOk))) (
 .seq (
 .reg [⟨some 39, none, .fld 3 (.t 1)⟩,
 ⟨some 40, none, .ld (.t 39)⟩,
 ⟨some 41, none, .call 63 [(.t 40)]⟩,
 ⟨some 38, none, .mv (.t 41)⟩,
 ⟨some 42, none, .ext 0 (.t 38)⟩,
 ⟨some 43, none, .ext 1 (.t 38)⟩,
 ⟨some 5, none, .zer (reps 100 (.d (.int 0)))⟩,
 ⟨none, none, .st 100 (.t 5) (.t 42)⟩,
 ⟨some 6, none, .mv (.t 43)⟩]) (
 .seq (
 .seq (
 .reg [⟨some 44, none, .mv (.t 6)⟩,
 ⟨some 45, none, .not (.t 44)⟩]) (
 .cond (.t 45) (
 .seq (
 .reg [⟨some 2, none, .mv (.c (.d (.bool false)))⟩]) (
 .ret)) (
 .skip))) (
 .seq (
 .seq (
 .reg [⟨some 46, none, .fld 4 (.t 1)⟩,
 ⟨some 47, none, .ld (.t 46)⟩,
 ⟨some 48, none, .len (.t 47)⟩,
 ⟨some 49, none, .mv (.c (.d (.int 0)))⟩]) (
 .block 2 (
 .loop L0_impl_NetworkOk))) (
 .seq (
 .reg [⟨some 66, none, .ldn 100 (.t 5)⟩,
 ⟨some 67, none, .fld 4 (.t 1)⟩,
 ⟨some 68, none, .ld (.t 67)⟩,
 ⟨some 69, none, .call 65 [(.t 66), (.t 68)]⟩,
 ⟨some 70, none, .call 64 [(.t 69)]⟩,
 ⟨some 71, none, .bin .neq (.t 70) (.c (.d (.int (-1))))⟩,
 ⟨some 2, none, .mv (.t 71)⟩]) (
 .ret))))))),
 [.t 2]⟩

theorem k_impl_NetworkOk : cFun Try.prog Try.f18 = some C_impl_NetworkOk.erase := by kernel_rfl

def C_laws_eqNetwork : Fun := ⟨2, 23,
 .seq (
 .reg [⟨some 2, none, .box (.t 0)⟩,
 ⟨some 3, none, .box (.t 1)⟩,
 ⟨some 4, none, .mv (.c (.d (.bool false)))⟩]) (
 .seq (
 .seq (
 .reg [⟨some 5, none, .fld 0 (.t 2)⟩,
 ⟨some 6, none, .ldn 3 (.t 5)⟩,
 ⟨some 7, none, .fld 0 (.t 3)⟩,
 ⟨some 8, none, .ldn 3 (.t 7)⟩,
 ⟨some 9, none, .call 66 [(.t 6), (.t 8)]⟩,
 ⟨some 10, none, .not (.t 9)⟩]) (
 .cond (.t 10) (
 .seq (
 .reg [⟨some 4, none, .mv (.c (.d (.bool false)))⟩]) (
 .ret)) (
 .skip))) (
 .seq (
 .seq (
 .reg [⟨some 11, none, .fld 3 (.t 2)⟩,
 ⟨some 12, none, .ld (.t 11)⟩,
 ⟨some 13, none, .fld 3 (.t 3)⟩,
 ⟨some 14, none, .ld (.t 13)⟩,
 ⟨some 15, none, .call 67 [(.t 12), (.t 14)]⟩,
 ⟨some 16, none, .not (.t 15)⟩]) (
 .cond (.t 16) (
 .seq (
 .reg [⟨some 4, none, .mv (.c (.d (.bool false)))⟩]) (
 .ret)) (
 .skip))) (
 .seq (
 .seq (
 .reg [⟨some 17, none, .fld 4 (.t 2)⟩,
 ⟨some 18, none, .ld (.t 17)⟩,
 ⟨some 19, none, .fld 4 (.t 3)⟩,
 ⟨some 20, none, .ld (.t 19)⟩,
 ⟨some 21, none, .call 31 [(.t 18), (.t 20)]⟩,
 ⟨some 22, none, .not (.t 21)⟩]) (
 .cond (.t 22) (
 .seq (
 .reg [⟨some 4, none, .mv (.c (.d (.bool false)))⟩]) (
 .ret)) (
 .skip))) (
 .seq (
 .reg [⟨some 4, none, .mv (.c (.d (.bool true)))⟩]) (
 .ret))))),
 [.t 4]⟩

theorem k_laws_eqNetwork : cFun Try.prog Try.f19 = some C_laws_eqNetwork.erase := by kernel_rfl

def C_spec_DimOf : Fun := ⟨2, 12,
 .seq (
 .reg [⟨some 2, none, .box (.t 0)⟩,
 ⟨some 4, none, .mv (.c (.d (.int 0)))⟩]) (
 .seq (
 .seq (
 .reg [⟨some 5, none, .ldn 5 (.t 2)⟩,
 ⟨some 6, none, .call 16 [(.t 5)]⟩,
 ⟨some 7, none, .not (.t 6)⟩]) (
 .cond (.t 7) (
 .seq (
 .reg [⟨some 4, none, .mv (.c (.d (.int 0)))⟩]) (
 .ret)) (
 .skip))) (
 .seq (
 .reg [⟨some 8, none, .fld 3 (.t 2)⟩,
 ⟨some 9, none, .ld (.t 8)⟩,
 ⟨some 10, none, .mv (.t 1)⟩,
 ⟨some 11, none, .call 57 [(.t 9), (.t 10)]⟩,
 ⟨some 4, none, .mv (.t 11)⟩]) (
 .ret))),
 [.t 4]⟩

theorem k_spec_DimOf : cFun Try.prog Try.f20 = some C_spec_DimOf.erase := by kernel_rfl

def C_impl_DimOf : Fun := ⟨2, 27,
 .seq (
 .reg [⟨some 2, none, .box (.t 0)⟩,
 ⟨some 4, none, .mv (.c (.d (.int 0)))⟩]) (
 .seq (
 .seq (
 .reg [⟨some 7, none, .ldn 5 (.t 2)⟩,
 ⟨some 8, none, .call 18 [(.t 7)]⟩,
 ⟨some 9, none, .not (.t 8)⟩,
 ⟨some 10, none, .mv (.t 9)⟩,
 ⟨some 11, some (10, false), .mv (.t 1)⟩,
 ⟨some 12, some (10, false), .bin .lss (.t 11) (.c (.d (.int 0)))⟩,
 ⟨some 13, none, .pick (.t 10) (.c (.d (.bool true))) (.t 12)⟩,
 ⟨some 14, none, .mv (.t 13)⟩,
 ⟨some 15, some (14, false), .mv (.t 1)⟩,
 ⟨some 16, some (14, false), .bin .gtr (.t 15) (.c (.d (.int 99)))⟩,
 ⟨some 17, none, .pick (.t 14) (.c (.d (.bool true))) (.t 16)⟩]) (
 .cond (.t 17) (
 .seq (
 .reg [⟨some 4, none, .mv (.c (.d (.int 0)))⟩]) (
 .ret)) (
 .skip))) (
 .seq (
 .reg [⟨some 19, none, .fld 3 (.t 2)⟩,
 ⟨some 20, none, .ld (.t 19)⟩,
 ⟨some 21, none, .call 63 [(.t 20)]⟩,
 ⟨some 18, none, .mv (.t 21)⟩,
 ⟨some 22, none, .ext 0 (.t 18)⟩,
 ⟨some 23, none, .ext 1 (.t 18)⟩,
 ⟨some 5, none, .zer (reps 100 (.d (.int 0)))⟩,
 ⟨none, none, .st 100 (.t 5) (.t 22)⟩,
 ⟨some 6, none, .mv (.t 23)⟩]) (
 .seq (
 .reg [⟨some 24, none, .mv (.t 1)⟩,
 ⟨some 25, none, .aix 1 100 (.t 5) (.t 24)⟩,
 ⟨some 26, none, .ld (.t 25)⟩,
 ⟨some 4, none, .mv (.t 26)⟩]) (
 .ret)))),
 [.t 4]⟩

theorem k_impl_DimOf : cFun Try.prog Try.f21 = some C_impl_DimOf.erase := by kernel_rfl

def L0_spec_CostBound : C :=
 .seq (
 .reg [⟨some 13, none, .bin .lss (.t 12) (.t 11)⟩]) (
 .seq (
 .cond (.t 13) (
 .skip) (
 .exit 0)) (
 .seq (
 .block 1 (
 .seq (
 .reg [⟨some 14, none, .idx 3 (.t 10) (.t 12)⟩,
 ⟨some 15, none, .ldn 3 (.t 14)⟩,
 ⟨some 5, none, .zer [.nil, .nil, .nil]⟩,
 ⟨none, none, .st 3 (.t 5) (.t 15)⟩]) (
 .seq (
 .reg [⟨some 16, none, .fld 3 (.t 1)⟩,
 ⟨some 17, none, .ld (.t 16)⟩,
 ⟨some 18, none, .len (.t 17)⟩,
 ⟨some 19, none, .bin .gtr (.t 18) (.c (.d (.int 1)))⟩]) (
 .cond (.t 19) (
 .reg [⟨some 20, none, .mv (.t 3)⟩,
 ⟨some 21, none, .ldn 3 (.t 5)⟩,
 ⟨some 22, none, .call 68 [(.t 21)]⟩,
 ⟨some 23, none, .mnx true (.t 20) (.t 22)⟩,
 ⟨some 3, none, .mv (.t 23)⟩]) (
 .skip))))) (
 .reg [⟨some 24, none, .bin .add (.t 12) (.c (.d (.int 1)))⟩,
 ⟨some 12, none, .mv (.t 24)⟩])))

def C_spec_CostBound : Fun := ⟨1, 26,
 .seq (
 .reg [⟨some 1, none, .box (.t 0)⟩,
 ⟨some 2, none, .mv (.c (.d (.int 0)))⟩]) (
 .seq (
 .seq (
 .reg [⟨some 6, none, .ldn 5 (.t 1)⟩,
 ⟨some 7, none, .call 16 [(.t 6)]⟩,
 ⟨some 8, none, .not (.t 7)⟩]) (
 .cond (.t 8) (
 .seq (
 .reg [⟨some 2, none, .mv (.c (.d (.int (-1))))⟩]) (
 .ret)) (
 .skip))) (
 .seq (
 .reg [⟨some 3, none, .mv (.c (.d (.int 0)))⟩]) (
 .seq (
 .seq (
 .reg [⟨some 9, none, .fld 3 (.t 1)⟩,
 ⟨some 10, none, .ld (.t 9)⟩,
 ⟨some 11, none, .len (.t 10)⟩,
 ⟨some 12, none, .mv (.c (.d (.int 0)))⟩]) (
 .block 0 (
 .loop L0_spec_CostBound))) (
 .seq (
 .reg [⟨some 25, none, .mv (.t 3)⟩,
 ⟨some 2, none, .mv (.t 25)⟩]) (
 .ret))))),
 [.t 2]⟩

theorem k_spec_CostBound : cFun Try.prog Try.f22 = some C_spec_CostBound.erase := by kernel_rfl

def L0_impl_CostBound : C :=
 .seq (
 .reg [⟨some 17, none, .bin .lss (.t 16) (.t 15)⟩]) (
 .seq (
 .cond (.t 17) (
 .skip) (
 .exit 0)) (
 .seq (
 .block 1 (
 .seq (
 .reg [⟨some 18, none, .idx 3 (.t 14) (.t 16)⟩,
 ⟨some 19, none, .ldn 3 (.t 18)⟩,
 ⟨some 5, none, .zer [.nil, .nil, .nil]⟩,
 ⟨none, none, .st 3 (.t 5) (.t 19)⟩]) (
 .reg [⟨some 20, none, .mv (.t 3)⟩,
 ⟨some 21, none, .fld 1 (.t 5)⟩,
 ⟨some 22, none, .ld (.t 21)⟩,
 ⟨some 23, none, .call 69 [(.t 22)]⟩,
 ⟨some 24, none, .mnx true (.t 20) (.t 23)⟩,
 ⟨some 3, none, .mv (.t 24)⟩]))) (
 .reg [⟨some 25, none, .bin .add (.t 16) (.c (.d (.int 1)))⟩,
 ⟨some 16, none, .mv (.t 25)⟩])))

def C_impl_CostBound : Fun := ⟨1, 28,
 .seq (
 .reg [⟨some 1, none, .box (.t 0)⟩,
 ⟨some 2, none, .mv (.c (.d (.int 0)))⟩]) (
 .seq (
 .seq (
 .reg [⟨some 6, none, .ldn 5 (.t 1)⟩,
 ⟨some 7, none, .call 18 [(.t 6)]⟩,
 ⟨some 8, none, .not (.t 7)⟩]) (
 .cond (.t 8) (
 .seq (
 .reg [⟨some 2, none, .mv (.c (.d (.int (-1))))⟩]) (
 .ret)) (
 .skip))) (
 .seq (
 .seq (
 .reg [⟨some 9, none, .fld 3 (.t 1)⟩,
 ⟨some 10, none, .ld (.t 9)⟩,
 ⟨some 11, none, .len (.t 10)⟩,
 ⟨some 12, none, .bin .lss (.t 11) (.c (.d (.int 2)))⟩]) (
 .cond (.t 12) (
 .seq (
 .reg [⟨some 2, none, .mv (.c (.d (.int 0)))⟩]) (
 .ret)) (
 .skip))) (
 .seq (
 .reg [⟨some 3, none, .mv (.c (.d (.int 0)))⟩]) (
 .seq (
 .seq (
 .reg [⟨some 13, none, .fld 3 (.t 1)⟩,
 ⟨some 14, none, .ld (.t 13)⟩,
 ⟨some 15, none, .len (.t 14)⟩,
 ⟨some 16, none, .mv (.c (.d (.int 0)))⟩]) (
 .block 0 (
 .loop L0_impl_CostBound))) (
 .seq (
 .reg [⟨some 26, none, .mv (.t 3)⟩,
 ⟨some 27, none, .mnx false (.t 26) (.c (.d (.int 1000000000)))⟩,
 ⟨some 2, none, .mv (.t 27)⟩]) (
 .ret)))))),
 [.t 2]⟩

theorem k_impl_CostBound : cFun Try.prog Try.f23 = some C_impl_CostBound.erase := by kernel_rfl

def C_spec_SplitLabel : Fun := ⟨5, 81,
 .seq (
 .reg [⟨some 5, none, .box (.t 0)⟩,
 ⟨some 6, none, .box (.t 1)⟩,
 ⟨some 10, none, .zer [.nil, .nil, .nil]⟩,
 ⟨some 11, none, .mv (.c (.d (.bool false)))⟩]) (
 .seq (
 .reg [⟨some 15, none, .fld 0 (.t 6)⟩,
 ⟨some 16, none, .ld (.t 15)⟩,
 ⟨some 17, none, .mv (.t 2)⟩,
 ⟨some 18, none, .call 70 [(.t 16), (.t 17)]⟩,
 ⟨some 12, none, .mv (.t 18)⟩]) (
 .seq (
 .seq (
 .draw [⟨some 19, none, .ldn 3 (.t 5)⟩,
 ⟨some 20, none, .ldn 3 (.t 6)⟩,
 ⟨some 21, none, .call 56 [(.t 19), (.t 20)]⟩,
 ⟨some 22, none, .not (.t 21)⟩,
 ⟨some 23, none, .mv (.t 22)⟩,
 ⟨some 24, some (23, false), .mv (.t 12)⟩,
 ⟨some 25, some (23, false), .bin .lss (.t 24) (.c (.d (.int 0)))⟩,
 ⟨some 26, none, .pick (.t 23) (.c (.d (.bool true))) (.t 25)⟩,
 ⟨some 27, none, .mv (.t 26)⟩,
 ⟨some 28, some (27, false), .mv (.t 3)⟩,
 ⟨some 29, some (27, false), .len (.t 28)⟩,
 ⟨some 30, some (27, false), .bin .lss (.t 29) (.c (.d (.int 1)))⟩,
 ⟨some 31, none, .pick (.t 27) (.c (.d (.bool true))) (.t 30)⟩,
 ⟨some 32, none, .mv (.t 31)⟩,
 ⟨some 33, some (32, false), .mv (.t 3)⟩,
 ⟨some 34, some (32, false), .mv (.t 4)⟩,
 ⟨some 35, some (32, false), .call 71 [(.t 33), (.t 34)]⟩,
 ⟨some 36, some (32, false), .not (.t 35)⟩,
 ⟨some 37, none, .pick (.t 32) (.c (.d (.bool true))) (.t 36)⟩,
 ⟨some 38, none, .mv (.t 37)⟩,
 ⟨some 39, some (38, false), .mv (.t 4)⟩,
 ⟨some 40, some (38, false), .call 72 [(.t 39), (.c (.d (.int 4096)))]⟩,
 ⟨some 41, some (38, false), .fld 1 (.t 6)⟩,
 ⟨some 42, some (38, false), .ld (.t 41)⟩,
 ⟨some 43, some (38, false), .mv (.t 12)⟩,
 ⟨some 44, some (38, false), .idx 1 (.t 42) (.t 43)⟩,
 ⟨some 45, some (38, false), .ld (.t 44)⟩]
 [⟨some 46, some (38, false), .bin .neq (.t 40) (.t 45)⟩,
 ⟨some 47, none, .pick (.t 38) (.c (.d (.bool true))) (.t 46)⟩]) (
 .cond (.t 47) (
 .seq (
 .reg [⟨some 48, none, .agg [.nil, .nil, .nil] []⟩,
 ⟨none, none, .st 3 (.t 10) (.t 48)⟩,
 ⟨some 11, none, .mv (.c (.d (.bool false)))⟩]) (
 .ret)) (
 .skip))) (
 .seq (
 .reg [⟨some 49, none, .ldn 3 (.t 6)⟩,
 ⟨some 50, none, .mv (.t 2)⟩,
 ⟨some 51, none, .mksl 1 1 [.d (.int 0)] [(0, 1, (.t 50))]⟩,
 ⟨some 52, none, .call 73 [(.t 49), (.t 51)]⟩,
 ⟨some 13, none, .mv (.t 52)⟩]) (
 .seq (
 .draw [⟨some 53, none, .ldn 3 (.t 5)⟩,
 ⟨some 54, none, .ldn 3 (.t 6)⟩,
 ⟨some 55, none, .mv (.t 13)⟩,
 ⟨some 56, none, .call 75 [(.t 55)]⟩,
 ⟨some 57, none, .mv (.t 2)⟩,
 ⟨some 58, none, .mksl 1 1 [.d (.int 0)] [(0, 1, (.t 57))]⟩,
 ⟨some 59, none, .app 1 8 [.d (.int 0)] (.t 56) (.t 58)⟩,
 ⟨some 60, none, .call 74 [(.t 53), (.t 54), (.t 59)]⟩,
 ⟨some 14, none, .zer [.nil, .nil, .nil]⟩]
 [⟨none, none, .st 3 (.t 14) (.t 60)⟩]) (
 .seq (
 .reg [⟨some 61, none, .mv (.t 13)⟩,
 ⟨some 62, none, .mv (.t 3)⟩,
 ⟨some 63, none, .app 1 8 [.d (.int 0)] (.t 61) (.t 62)⟩,
 ⟨some 64, none, .fld 0 (.t 14)⟩,
 ⟨none, none, .st 1 (.t 64) (.t 63)⟩]) (
 .seq (
 .reg [⟨some 65, none, .fld 1 (.t 14)⟩,
 ⟨some 66, none, .ld (.t 65)⟩,
 ⟨some 67, none, .fld 1 (.t 14)⟩,
 ⟨some 68, none, .ld (.t 67)⟩,
 ⟨some 69, none, .len (.t 68)⟩,
 ⟨some 70, none, .bin .sub (.t 69) (.c (.d (.int 1)))⟩,
 ⟨some 71, none, .slc 1 (.t 66) none (some (.t 70))⟩,
 ⟨some 72, none, .call 75 [(.t 71)]⟩,
 ⟨some 73, none, .mv (.t 4)⟩,
 ⟨some 74, none, .app 1 8 [.d (.int 0)] (.t 72) (.t 73)⟩,
 ⟨some 75, none, .fld 1 (.t 14)⟩,
 ⟨none, none, .st 1 (.t 75) (.t 74)⟩]) (
 .seq (
 .seq (
 .reg [⟨some 76, none, .ldn 3 (.t 14)⟩,
 ⟨some 77, none, .call 58 [(.t 76)]⟩,
 ⟨some 78, none, .bin .lss (.t 77) (.c (.d (.int 0)))⟩]) (
 .cond (.t 78) (
 .seq (
 .reg [⟨some 79, none, .agg [.nil, .nil, .nil] []⟩,
 ⟨none, none, .st 3 (.t 10) (.t 79)⟩,
 ⟨some 11, none, .mv (.c (.d (.bool false)))⟩]) (
 .ret)) (
 .skip))) (
 .seq (
 .reg [⟨some 80, none, .ldn 3 (.t 14)⟩,
 ⟨none, none, .st 3 (.t 10) (.t 80)⟩,
 ⟨some 11, none, .mv (.c (.d (.bool true)))⟩]) (
 .ret))))))))),
 [.cell 10 3, .t 11]⟩

theorem k_spec_SplitLabel : cFun Try.prog Try.f25 = some C_spec_SplitLabel.erase := by kernel_rfl

def C_impl_SplitLabel : Fun := ⟨5, 78,
 .seq (
 .reg [⟨some 5, none, .box (.t 0)⟩,
 ⟨some 6, none, .box (.t 1)⟩,
 ⟨some 10, none, .zer [.nil, .nil, .nil]⟩,
 ⟨some 11, none, .mv (.c (.d (.bool false)))⟩]) (
 .seq (
 .seq (
 .reg [⟨some 16, none, .ldn 3 (.t 5)⟩,
 ⟨some 17, none, .ldn 3 (.t 6)⟩,
 ⟨some 18, none, .call 62 [(.t 16), (.t 17)]⟩,
 ⟨some 19, none, .not (.t 18)⟩,
 ⟨some 20, none, .mv (.t 19)⟩,
 ⟨some 21, some (20, false), .ldn 3 (.t 6)⟩,
 ⟨some 22, some (20, false), .mv (.t 2)⟩,
 ⟨some 23, some (20, false), .call 76 [(.t 21), (.t 22)]⟩,
 ⟨some 24, some (20, false), .bin .lss (.t 23) (.c (.d (.int 0)))⟩,
 ⟨some 25, none, .pick (.t 20) (.c (.d (.bool true))) (.t 24)⟩,
 ⟨some 26, none, .mv (.t 25)⟩,
 ⟨some 27, some (26, false), .mv (.t 3)⟩,
 ⟨some 28, some (26, false), .len (.t 27)⟩,
 ⟨some 29, some (26, false), .bin .eql (.t 28) (.c (.d (.int 0)))⟩,
 ⟨some 30, none, .pick (.t 26) (.c (.d (.bool true))) (.t 29)⟩]) (
 .cond (.t 30) (
 .seq (
 .reg [⟨some 31, none, .agg [.nil, .nil, .nil] []⟩,
 ⟨none, none, .st 3 (.t 10) (.t 31)⟩,
 ⟨some 11, none, .mv (.c (.d (.bool false)))⟩]) (
 .ret)) (
 .skip))) (
 .seq (
 .seq (
 .draw [⟨some 32, none, .mv (.t 3)⟩,
 ⟨some 33, none, .mv (.t 4)⟩,
 ⟨some 34, none, .agg [.nil, .nil, .nil] [(0, 1, (.t 32)), (1, 1, (.t 33))]⟩,
 ⟨some 35, none, .call 64 [(.t 34)]⟩,
 ⟨some 36, none, .fld 1 (.t 6)⟩,
 ⟨some 37, none, .ld (.t 36)⟩,
 ⟨some 38, none, .ldn 3 (.t 6)⟩,
 ⟨some 39, none, .mv (.t 2)⟩,
 ⟨some 40, none, .call 76 [(.t 38), (.t 39)]⟩]
 [⟨some 41, none, .idx 1 (.t 37) (.t 40)⟩,
 ⟨some 42, none, .ld (.t 41)⟩,
 ⟨some 43, none, .bin .neq (.t 35) (.t 42)⟩]) (
 .cond (.t 43) (
 .seq (
 .reg [⟨some 44, none, .agg [.nil, .nil, .nil] []⟩,
 ⟨none, none, .st 3 (.t 10) (.t 44)⟩,
 ⟨some 11, none, .mv (.c (.d (.bool false)))⟩]) (
 .ret)) (
 .skip))) (
 .seq (
 .reg [⟨some 45, none, .fld 0 (.t 6)⟩,
 ⟨some 46, none, .ld (.t 45)⟩,
 ⟨some 47, none, .mv (.t 2)⟩,
 ⟨some 48, none, .call 77 [(.t 46), (.t 47)]⟩,
 ⟨some 12, none, .mv (.t 48)⟩]) (
 .seq (
 .draw [⟨some 49, none, .ldn 3 (.t 5)⟩,
 ⟨some 50, none, .ldn 3 (.t 6)⟩,
 ⟨some 51, none, .mv (.t 12)⟩,
 ⟨some 52, none, .call 79 [(.t 51)]⟩,
 ⟨some 53, none, .mv (.t 2)⟩,
 ⟨some 54, none, .mksl 1 1 [.d (.int 0)] [(0, 1, (.t 53))]⟩,
 ⟨some 55, none, .app 1 8 [.d (.int 0)] (.t 52) (.t 54)⟩,
 ⟨some 56, none, .call 78 [(.t 49), (.t 50), (.t 55)]⟩,
 ⟨some 13, none, .zer [.nil, .nil, .nil]⟩]
 [⟨none, none, .st 3 (.t 13) (.t 56)⟩]) (
 .seq (
 .reg [⟨some 57, none, .mv (.t 12)⟩,
 ⟨some 58, none, .len (.t 57)⟩,
 ⟨some 14, none, .mv (.t 58)⟩]) (
 .seq (
 .draw [⟨some 59, none, .mv (.t 12)⟩,
 ⟨some 60, none, .mv (.t 3)⟩,
 ⟨some 61, none, .app 1 8 [.d (.int 0)] (.t 59) (.t 60)⟩,
 ⟨some 62, none, .fld 1 (.t 13)⟩,
 ⟨some 63, none, .ld (.t 62)⟩,
 ⟨some 64, none, .mv (.t 14)⟩,
 ⟨some 65, none, .slc 1 (.t 63) none (some (.t 64))⟩,
 ⟨some 66, none, .call 79 [(.t 65)]⟩,
 ⟨some 67, none, .mv (.t 4)⟩,
 ⟨some 68, none, .app 1 8 [.d (.int 0)] (.t 66) (.t 67)⟩,
 ⟨some 69, none, .fld 2 (.t 13)⟩,
 ⟨some 70, none, .ld (.t 69)⟩,
 ⟨some 71, none, .agg [.nil, .nil, .nil] [(0, 1, (.t 61)), (1, 1, (.t 68)), (2, 1, (.t 70))]⟩,
 ⟨some 15, none, .zer [.nil, .nil, .nil]⟩]
 [⟨none, none, .st 3 (.t 15) (.t 71)⟩]) (
 .seq (
 .seq (
 .reg [⟨some 72, none, .ldn 3 (.t 5)⟩,
 ⟨some 73, none, .ldn 3 (.t 15)⟩,
 ⟨some 74, none, .call 62 [(.t 72), (.t 73)]⟩,
 ⟨some 75, none, .not (.t 74)⟩]) (
 .cond (.t 75) (
 .seq (
 .reg [⟨some 76, none, .agg [.nil, .nil, .nil] []⟩,
 ⟨none, none, .st 3 (.t 10) (.t 76)⟩,
 ⟨some 11, none, .mv (.c (.d (.bool false)))⟩]) (
 .ret)) (
 .skip))) (
 .seq (
 .reg [⟨some 77, none, .ldn 3 (.t 15)⟩,
 ⟨none, none, .st 3 (.t 10) (.t 77)⟩,
 ⟨some 11, none, .mv (.c (.d (.bool true)))⟩]) (
 .ret))))))))),
 [.cell 10 3, .t 11]⟩

theorem k_impl_SplitLabel : cFun Try.prog Try.f29 = some C_impl_SplitLabel.erase := by kernel_rfl

def L0_spec_FixLabels : C :=
 .seq (
 .reg [⟨some 28, none, .bin .lss (.t 27) (.t 26)⟩]) (
 .seq (
 .cond (.t 28) (
 .skip) (
 .exit 0)) (
 .seq (
 .block 1 (
 .seq (
 .reg [⟨some 29, none, .mv (.t 27)⟩,
 ⟨some 30, none, .idx 1 (.t 25) (.t 27)⟩,
 ⟨some 31, none, .ld (.t 30)⟩,
 ⟨some 10, none, .mv (.t 29)⟩,
 ⟨some 11, none, .mv (.t 31)⟩]) (
 .seq (
 .reg [⟨some 32, none, .fld 0 (.t 5)⟩,
 ⟨some 33, none, .ld (.t 32)⟩,
 ⟨some 34, none, .mv (.t 11)⟩,
 ⟨some 35, none, .call 70 [(.t 33), (.t 34)]⟩,
 ⟨some 12, none, .mv (.t 35)⟩]) (
 .seq (
 .draw [⟨some 36, none, .mv (.t 12)⟩,
 ⟨some 37, none, .bin .geq (.t 36) (.c (.d (.int 0)))⟩,
 ⟨some 38, none, .mv (.t 37)⟩,
 ⟨some 39, some (38, true), .mv (.t 2)⟩,
 ⟨some 40, some (38, true), .mv (.t 10)⟩,
 ⟨some 41, some (38, true), .slc 1 (.t 39) none (some (.t 40))⟩,
 ⟨some 42, some (38, true), .mv (.t 11)⟩,
 ⟨some 43, some (38, true), .call 70 [(.t 41), (.t 42)]⟩,
 ⟨some 44, some (38, true), .bin .lss (.t 43) (.c (.d (.int 0)))⟩,
 ⟨some 45, none, .pick (.t 38) (.t 44) (.c (.d (.bool false)))⟩,
 ⟨some 46, none, .mv (.t 45)⟩,
 ⟨some 47, some (46, true), .mv (.t 3)⟩,
 ⟨some 48, some (46, true), .mv (.t 10)⟩,
 ⟨some 49, some (46, true), .idx 1 (.t 47) (.t 48)⟩,
 ⟨some 50, some (46, true), .ld (.t 49)⟩,
 ⟨some 51, some (46, true), .fld 1 (.t 5)⟩,
 ⟨some 52, some (46, true), .ld (.t 51)⟩,
 ⟨some 53, some (46, true), .mv (.t 12)⟩,
 ⟨some 54, some (46, true), .idx 1 (.t 52) (.t 53)⟩,
 ⟨some 55, some (46, true), .ld (.t 54)⟩,
 ⟨some 56, some (46, true), .bin .sub (.t 55) (.c (.d (.int 1)))⟩]
 [⟨some 57, some (46, true), .call 80 [(.t 50), (.c (.d (.int 0))), (.t 56)]⟩,
 ⟨some 58, some (46, true), .not (.t 57)⟩,
 ⟨some 59, none, .pick (.t 46) (.t 58) (.c (.d (.bool false)))⟩]) (
 .cond (.t 59) (
 .seq (
 .reg [⟨some 60, none, .agg [.nil, .nil, .nil] []⟩,
 ⟨none, none, .st 3 (.t 8) (.t 60)⟩,
 ⟨some 9, none, .mv (.c (.d (.bool false)))⟩]) (
 .ret)) (
 .skip)))))) (
 .reg [⟨some 61, none, .bin .add (.t 27) (.c (.d (.int 1)))⟩,
 ⟨some 27, none, .mv (.t 61)⟩])))

def C_spec_FixLabels : Fun := ⟨4, 67,
 .seq (
 .reg [⟨some 4, none, .box (.t 0)⟩,
 ⟨some 5, none, .box (.t 1)⟩,
 ⟨some 8, none, .zer [.nil, .nil, .nil]⟩,
 ⟨some 9, none, .mv (.c (.d (.bool false)))⟩]) (
 .seq (
 .seq (
 .reg [⟨some 13, none, .ldn 3 (.t 4)⟩,
 ⟨some 14, none, .ldn 3 (.t 5)⟩,
 ⟨some 15, none, .call 56 [(.t 13), (.t 14)]⟩,
 ⟨some 16, none, .not (.t 15)⟩,
 ⟨some 17, none, .mv (.t 16)⟩,
 ⟨some 18, some (17, false), .mv (.t 2)⟩,
 ⟨some 19, some (17, false), .len (.t 18)⟩,
 ⟨some 20, some (17, false), .mv (.t 3)⟩,
 ⟨some 21, some (17, false), .len (.t 20)⟩,
 ⟨some 22, some (17, false), .bin .neq (.t 19) (.t 21)⟩,
 ⟨some 23, none, .pick (.t 17) (.c (.d (.bool true))) (.t 22)⟩]) (
 .cond (.t 23) (
 .seq (
 .reg [⟨some 24, none, .agg [.nil, .nil, .nil] []⟩,
 ⟨none, none, .st 3 (.t 8) (.t 24)⟩,
 ⟨some 9, none, .mv (.c (.d (.bool false)))⟩]) (
 .ret)) (
 .skip))) (
 .seq (
 .seq (
 .reg [⟨some 25, none, .mv (.t 2)⟩,
 ⟨some 26, none, .len (.t 25)⟩,
 ⟨some 27, none, .mv (.c (.d (.int 0)))⟩]) (
 .block 0 (
 .loop L0_spec_FixLabels))) (
 .seq (
 .reg [⟨some 62, none, .ldn 3 (.t 4)⟩,
 ⟨some 63, none, .ldn 3 (.t 5)⟩,
 ⟨some 64, none, .mv (.t 2)⟩,
 ⟨some 65, none, .mv (.t 3)⟩,
 ⟨some 66, none, .call 81 [(.t 62), (.t 63), (.t 64), (.t 65)]⟩,
 ⟨none, none, .st 3 (.t 8) (.t 66)⟩,
 ⟨some 9, none, .mv (.c (.d (.bool true)))⟩]) (
 .ret)))),
 [.cell 8 3, .t 9]⟩

theorem k_spec_FixLabels : cFun Try.prog Try.f35 = some C_spec_FixLabels.erase := by kernel_rfl

def L0_impl_FixLabels : C :=
 .seq (
 .reg [⟨some 32, none, .bin .lss (.t 31) (.t 30)⟩]) (
 .seq (
 .cond (.t 32) (
 .skip) (
 .exit 0)) (
 .seq (
 .block 1 (
 .seq (
 .reg [⟨some 33, none, .mv (.t 31)⟩,
 ⟨some 34, none, .idx 1 (.t 29) (.t 31)⟩,
 ⟨some 35, none, .ld (.t 34)⟩,
 ⟨some 11, none, .mv (.t 33)⟩,
 ⟨some 12, none, .mv (.t 35)⟩]) (
 .seq (
 .seq (
 .reg [⟨some 36, none, .ldn 3 (.t 10)⟩,
 ⟨some 37, none, .mv (.t 12)⟩,
 ⟨some 38, none, .call 76 [(.t 36), (.t 37)]⟩,
 ⟨some 39, none, .bin .lss (.t 38) (.c (.d (.int 0)))⟩]) (
 .cond (.t 39) (
 .exit 1) (
 .skip))) (
 .seq (
 .draw [⟨some 41, none, .ldn 3 (.t 4)⟩,
 ⟨some 42, none, .ldn 3 (.t 10)⟩,
 ⟨some 43, none, .mv (.t 12)⟩,
 ⟨some 44, none, .mv (.t 3)⟩,
 ⟨some 45, none, .mv (.t 11)⟩,
 ⟨some 46, none, .idx 1 (.t 44) (.t 45)⟩,
 ⟨some 47, none, .ld (.t 46)⟩,
 ⟨some 48, none, .call 83 [(.t 41), (.t 42), (.t 43), (.t 47)]⟩,
 ⟨some 40, none, .mv (.t 48)⟩,
 ⟨some 49, none, .ext 0 (.t 40)⟩,
 ⟨some 50, none, .ext 1 (.t 40)⟩,
 ⟨some 13, none, .zer [.nil, .nil, .nil]⟩]
 [⟨none, none, .st 3 (.t 13) (.t 49)⟩,
 ⟨some 14, none, .mv (.t 50)⟩]) (
 .seq (
 .seq (
 .reg [⟨some 51, none, .mv (.t 14)⟩,
 ⟨some 52, none, .not (.t 51)⟩]) (
 .cond (.t 52) (
 .seq (
 .reg [⟨some 53, none, .agg [.nil, .nil, .nil] []⟩,
 ⟨none, none, .st 3 (.t 8) (.t 53)⟩,
 ⟨some 9, none, .mv (.c (.d (.bool false)))⟩]) (
 .ret)) (
 .skip))) (
 .reg [⟨some 54, none, .ldn 3 (.t 13)⟩,
 ⟨none, none, .st 3 (.t 10) (.t 54)⟩])))))) (
 .reg [⟨some 55, none, .bin .add (.t 31) (.c (.d (.int 1)))⟩,
 ⟨some 31, none, .mv (.t 55)⟩])))

def C_impl_FixLabels : Fun := ⟨4, 57,
 .seq (
 .reg [⟨some 4, none, .box (.t 0)⟩,
 ⟨some 5, none, .box (.t 1)⟩,
 ⟨some 8, none, .zer [.nil, .nil, .nil]⟩,
 ⟨some 9, none, .mv (.c (.d (.bool false)))⟩]) (
 .seq (
 .seq (
 .reg [⟨some 15, none, .ldn 3 (.t 4)⟩,
 ⟨some 16, none, .ldn 3 (.t 5)⟩,
 ⟨some 17, none, .call 62 [(.t 15), (.t 16)]⟩,
 ⟨some 18, none, .not (.t 17)⟩,
 ⟨some 19, none, .mv (.t 18)⟩,
 ⟨some 20, some (19, false), .mv (.t 2)⟩,
 ⟨some 21, some (19, false), .len (.t 20)⟩,
 ⟨some 22, some (19, false), .mv (.t 3)⟩,
 ⟨some 23, some (19, false), .len (.t 22)⟩,
 ⟨some 24, some (19, false), .bin .neq (.t 21) (.t 23)⟩,
 ⟨some 25, none, .pick (.t 19) (.c (.d (.bool true))) (.t 24)⟩]) (
 .cond (.t 25) (
 .seq (
 .reg [⟨some 26, none, .agg [.nil, .nil, .nil] []⟩,
 ⟨none, none, .st 3 (.t 8) (.t 26)⟩,
 ⟨some 9, none, .mv (.c (.d (.bool false)))⟩]) (
 .ret)) (
 .skip))) (
 .seq (
 .reg [⟨some 27, none, .ldn 3 (.t 5)⟩,
 ⟨some 28, none, .call 82 [(.t 27)]⟩,
 ⟨some 10, none, .zer [.nil, .nil, .nil]⟩,
 ⟨none, none, .st 3 (.t 10) (.t 28)⟩]) (
 .seq (
 .seq (
 .reg [⟨some 29, none, .mv (.t 2)⟩,
 ⟨some 30, none, .len (.t 29)⟩,
 ⟨some 31, none, .mv (.c (.d (.int 0)))⟩]) (
 .block 0 (
 .loop L0_impl_FixLabels))) (
 .seq (
 .reg [⟨some 56, none, .ldn 3 (.t 10)⟩,
 ⟨none, none, .st 3 (.t 8) (.t 56)⟩,
 ⟨some 9, none, .mv (.c (.d (.bool true)))⟩]) (
 .ret))))),
 [.cell 8 3, .t 9]⟩

theorem k_impl_FixLabels : cFun Try.prog Try.f36 = some C_impl_FixLabels.erase := by kernel_rfl

def L0_spec_FuseLabels : C :=
 .seq (
 .reg [⟨some 29, none, .bin .lss (.t 28) (.t 27)⟩]) (
 .seq (
 .cond (.t 29) (
 .skip) (
 .exit 0)) (
 .seq (
 .block 1 (
 .seq (
 .reg [⟨some 30, none, .mv (.t 28)⟩,
 ⟨some 31, none, .idx 1 (.t 26) (.t 28)⟩,
 ⟨some 32, none, .ld (.t 31)⟩,
 ⟨some 10, none, .mv (.t 30)⟩,
 ⟨some 11, none, .mv (.t 32)⟩]) (
 .seq (
 .reg [⟨some 33, none, .fld 0 (.t 5)⟩,
 ⟨some 34, none, .ld (.t 33)⟩,
 ⟨some 35, none, .mv (.t 11)⟩,
 ⟨some 36, none, .call 70 [(.t 34), (.t 35)]⟩,
 ⟨some 37, none, .bin .lss (.t 36) (.c (.d (.int 0)))⟩,
 ⟨some 38, none, .mv (.t 37)⟩,
 ⟨some 39, some (38, false), .mv (.t 2)⟩,
 ⟨some 40, some (38, false), .mv (.t 10)⟩,
 ⟨some 41, some (38, false), .slc 1 (.t 39) none (some (.t 40))⟩,
 ⟨some 42, some (38, false), .mv (.t 11)⟩,
 ⟨some 43, some (38, false), .call 70 [(.t 41), (.t 42)]⟩,
 ⟨some 44, some (38, false), .bin .geq (.t 43) (.c (.d (.int 0)))⟩,
 ⟨some 45, none, .pick (.t 38) (.c (.d (.bool true))) (.t 44)⟩]) (
 .cond (.t 45) (
 .seq (
 .reg [⟨some 46, none, .agg [.nil, .nil, .nil] []⟩,
 ⟨none, none, .st 3 (.t 8) (.t 46)⟩,
 ⟨some 9, none, .mv (.c (.d (.bool false)))⟩]) (
 .ret)) (
 .skip))))) (
 .reg [⟨some 47, none, .bin .add (.t 28) (.c (.d (.int 1)))⟩,
 ⟨some 28, none, .mv (.t 47)⟩])))

def C_spec_FuseLabels : Fun := ⟨4, 85,
 .seq (
 .reg [⟨some 4, none, .box (.t 0)⟩,
 ⟨some 5, none, .box (.t 1)⟩,
 ⟨some 8, none, .zer [.nil, .nil, .nil]⟩,
 ⟨some 9, none, .mv (.c (.d (.bool false)))⟩]) (
 .seq (
 .seq (
 .reg [⟨some 16, none, .ldn 3 (.t 4)⟩,
 ⟨some 17, none, .ldn 3 (.t 5)⟩,
 ⟨some 18, none, .call 56 [(.t 16), (.t 17)]⟩,
 ⟨some 19, none, .not (.t 18)⟩,
 ⟨some 20, none, .mv (.t 19)⟩,
 ⟨some 21, some (20, false), .mv (.t 2)⟩,
 ⟨some 22, some (20, false), .len (.t 21)⟩,
 ⟨some 23, some (20, false), .bin .lss (.t 22) (.c (.d (.int 1)))⟩,
 ⟨some 24, none, .pick (.t 20) (.c (.d (.bool true))) (.t 23)⟩]) (
 .cond (.t 24) (
 .seq (
 .reg [⟨some 25, none, .agg [.nil, .nil, .nil] []⟩,
 ⟨none, none, .st 3 (.t 8) (.t 25)⟩,
 ⟨some 9, none, .mv (.c (.d (.bool false)))⟩]) (
 .ret)) (
 .skip))) (
 .seq (
 .seq (
 .reg [⟨some 26, none, .mv (.t 2)⟩,
 ⟨some 27, none, .len (.t 26)⟩,
 ⟨some 28, none, .mv (.c (.d (.int 0)))⟩]) (
 .block 0 (
 .loop L0_spec_FuseLabels))) (
 .seq (
 .reg [⟨some 48, none, .ldn 3 (.t 5)⟩,
 ⟨some 49, none, .mv (.t 2)⟩,
 ⟨some 50, none, .call 73 [(.t 48), (.t 49)]⟩,
 ⟨some 12, none, .mv (.t 50)⟩]) (
 .seq (
 .draw [⟨some 51, none, .ldn 3 (.t 4)⟩,
 ⟨some 52, none, .ldn 3 (.t 5)⟩,
 ⟨some 53, none, .mv (.t 12)⟩,
 ⟨some 54, none, .call 75 [(.t 53)]⟩,
 ⟨some 55, none, .mv (.t 2)⟩,
 ⟨some 56, none, .app 1 8 [.d (.int 0)] (.t 54) (.t 55)⟩,
 ⟨some 57, none, .call 74 [(.t 51), (.t 52), (.t 56)]⟩,
 ⟨some 13, none, .zer [.nil, .nil, .nil]⟩]
 [⟨none, none, .st 3 (.t 13) (.t 57)⟩]) (
 .seq (
 .reg [⟨some 58, none, .mv (.t 12)⟩,
 ⟨some 59, none, .len (.t 58)⟩,
 ⟨some 14, none, .mv (.t 59)⟩]) (
 .seq (
 .reg [⟨some 60, none, .fld 1 (.t 13)⟩,
 ⟨some 61, none, .ld (.t 60)⟩,
 ⟨some 62, none, .mv (.t 14)⟩,
 ⟨some 63, none, .slc 1 (.t 61) (some (.t 62)) none⟩,
 ⟨some 64, none, .call 72 [(.t 63), (.c (.d (.int 4096)))]⟩,
 ⟨some 15, none, .mv (.t 64)⟩]) (
 .seq (
 .reg [⟨some 65, none, .mv (.t 12)⟩,
 ⟨some 66, none, .call 75 [(.t 65)]⟩,
 ⟨some 67, none, .mv (.t 3)⟩,
 ⟨some 68, none, .mksl 1 1 [.d (.int 0)] [(0, 1, (.t 67))]⟩,
 ⟨some 69, none, .app 1 8 [.d (.int 0)] (.t 66) (.t 68)⟩,
 ⟨some 70, none, .fld 0 (.t 13)⟩,
 ⟨none, none, .st 1 (.t 70) (.t 69)⟩]) (
 .seq (
 .reg [⟨some 71, none, .fld 1 (.t 13)⟩,
 ⟨some 72, none, .ld (.t 71)⟩,
 ⟨some 73, none, .mv (.t 14)⟩,
 ⟨some 74, none, .slc 1 (.t 72) none (some (.t 73))⟩,
 ⟨some 75, none, .call 75 [(.t 74)]⟩,
 ⟨some 76, none, .mv (.t 15)⟩,
 ⟨some 77, none, .mksl 1 1 [.d (.int 0)] [(0, 1, (.t 76))]⟩,
 ⟨some 78, none, .app 1 8 [.d (.int 0)] (.t 75) (.t 77)⟩,
 ⟨some 79, none, .fld 1 (.t 13)⟩,
 ⟨none, none, .st 1 (.t 79) (.t 78)⟩]) (
 .seq (
 .seq (
 .reg [⟨some 80, none, .ldn 3 (.t 13)⟩,
 ⟨some 81, none, .call 58 [(.t 80)]⟩,
 ⟨some 82, none, .bin .lss (.t 81) (.c (.d (.int 0)))⟩]) (
 .cond (.t 82) (
 .seq (
 .reg [⟨some 83, none, .agg [.nil, .nil, .nil] []⟩,
 ⟨none, none, .st 3 (.t 8) (.t 83)⟩,
 ⟨some 9, none, .mv (.c (.d (.bool false)))⟩]) (
 .ret)) (
 .skip))) (
 .seq (
 .reg [⟨some 84, none, .ldn 3 (.t 13)⟩,
 ⟨none, none, .st 3 (.t 8) (.t 84)⟩,
 ⟨some 9, none, .mv (.c (.d (.bool true)))⟩]) (
 .ret))))))))))),
 [.cell 8 3, .t 9]⟩

theorem k_spec_FuseLabels : cFun Try.prog Try.f37 = some C_spec_FuseLabels.erase := by kernel_rfl

def L0_impl_FuseLabels : C :=
 .seq (
 .reg [⟨some 60, none, .bin .lss (.t 59) (.t 58)⟩]) (
 .seq (
 .cond (.t 60) (
 .skip) (
 .exit 2)) (
 .seq (
 .block 3 (
 .seq (
 .reg [⟨some 61, none, .idx 1 (.t 57) (.t 59)⟩,
 ⟨some 62, none, .ld (.t 61)⟩,
 ⟨some 14, none, .mv (.t 62)⟩]) (
 .seq (
 .reg [⟨some 63, none, .mv (.t 2)⟩,
 ⟨some 64, none, .mv (.t 14)⟩,
 ⟨some 65, none, .call 84 [(.t 63), (.t 64)]⟩,
 ⟨some 66, none, .not (.t 65)⟩]) (
 .cond (.t 66) (
 .reg [⟨some 67, none, .mv (.t 12)⟩,
 ⟨some 68, none, .mv (.t 14)⟩,
 ⟨some 69, none, .mksl 1 1 [.d (.int 0)] [(0, 1, (.t 68))]⟩,
 ⟨some 70, none, .app 1 8 [.d (.int 0)] (.t 67) (.t 69)⟩,
 ⟨some 12, none, .mv (.t 70)⟩]) (
 .skip))))) (
 .reg [⟨some 71, none, .bin .add (.t 59) (.c (.d (.int 1)))⟩,
 ⟨some 59, none, .mv (.t 71)⟩])))

def L1_impl_FuseLabels : C :=
 .seq (
 .reg [⟨some 39, none, .bin .lss (.t 38) (.t 37)⟩]) (
 .seq (
 .cond (.t 39) (
 .skip) (
 .exit 0)) (
 .seq (
 .block 1 (
 .seq (
 .reg [⟨some 40, none, .mv (.t 38)⟩,
 ⟨some 41, none, .idx 1 (.t 36) (.t 38)⟩,
 ⟨some 42, none, .ld (.t 41)⟩,
 ⟨some 10, none, .mv (.t 40)⟩,
 ⟨some 11, none, .mv (.t 42)⟩]) (
 .seq (
 .reg [⟨some 43, none, .ldn 3 (.t 5)⟩,
 ⟨some 44, none, .mv (.t 11)⟩,
 ⟨some 45, none, .call 76 [(.t 43), (.t 44)]⟩,
 ⟨some 46, none, .bin .lss (.t 45) (.c (.d (.int 0)))⟩,
 ⟨some 47, none, .mv (.t 46)⟩,
 ⟨some 48, some (47, false), .mv (.t 2)⟩,
 ⟨some 49, some (47, false), .mv (.t 10)⟩,
 ⟨some 50, some (47, false), .slc 1 (.t 48) none (some (.t 49))⟩,
 ⟨some 51, some (47, false), .mv (.t 11)⟩,
 ⟨some 52, some (47, false), .call 84 [(.t 50), (.t 51)]⟩,
 ⟨some 53, none, .pick (.t 47) (.c (.d (.bool true))) (.t 52)⟩]) (
 .cond (.t 53) (
 .seq (
 .reg [⟨some 54, none, .agg [.nil, .nil, .nil] []⟩,
 ⟨none, none, .st 3 (.t 8) (.t 54)⟩,
 ⟨some 9, none, .mv (.c (.d (.bool false)))⟩]) (
 .ret)) (
 .skip))))) (
 .reg [⟨some 55, none, .bin .add (.t 38) (.c (.d (.int 1)))⟩,
 ⟨some 38, none, .mv (.t 55)⟩])))

def C_impl_FuseLabels : Fun := ⟨4, 106,
 .seq (
 .reg [⟨some 4, none, .box (.t 0)⟩,
 ⟨some 5, none, .box (.t 1)⟩,
 ⟨some 8, none, .zer [.nil, .nil, .nil]⟩,
 ⟨some 9, none, .mv (.c (.d (.bool false)))⟩]) (
 .seq (
 .seq (
 .reg [⟨some 18, none, .ldn 3 (.t 4)⟩,
 ⟨some 19, none, .ldn 3 (.t 5)⟩,
 ⟨some 20, none, .call 62 [(.t 18), (.t 19)]⟩,
 ⟨some 21, none, .not (.t 20)⟩,
 ⟨some 22, none, .mv (.t 21)⟩,
 ⟨some 23, some (22, false), .mv (.t 2)⟩,
 ⟨some 24, some (22, false), .len (.t 23)⟩,
 ⟨some 25, some (22, false), .bin .eql (.t 24) (.c (.d (.int 0)))⟩,
 ⟨some 26, none, .pick (.t 22) (.c (.d (.bool true))) (.t 25)⟩,
 ⟨some 27, none, .mv (.t 26)⟩,
 ⟨some 28, some (27, false), .mv (.t 2)⟩,
 ⟨some 29, some (27, false), .len (.t 28)⟩,
 ⟨some 30, some (27, false), .fld 0 (.t 5)⟩,
 ⟨some 31, some (27, false), .ld (.t 30)⟩,
 ⟨some 32, some (27, false), .len (.t 31)⟩,
 ⟨some 33, some (27, false), .bin .gtr (.t 29) (.t 32)⟩,
 ⟨some 34, none, .pick (.t 27) (.c (.d (.bool true))) (.t 33)⟩]) (
 .cond (.t 34) (
 .seq (
 .reg [⟨some 35, none, .agg [.nil, .nil, .nil] []⟩,
 ⟨none, none, .st 3 (.t 8) (.t 35)⟩,
 ⟨some 9, none, .mv (.c (.d (.bool false)))⟩]) (
 .ret)) (
 .skip))) (
 .seq (
 .seq (
 .reg [⟨some 36, none, .mv (.t 2)⟩,
 ⟨some 37, none, .len (.t 36)⟩,
 ⟨some 38, none, .mv (.c (.d (.int 0)))⟩]) (
 .block 0 (
 .loop L1_impl_FuseLabels))) (
 .seq (
 .reg [⟨some 12, none, .mv (.c (.nil))⟩]) (
 .seq (
 .seq (
 .reg [⟨some 56, none, .fld 0 (.t 5)⟩,
 ⟨some 57, none, .ld (.t 56)⟩,
 ⟨some 58, none, .len (.t 57)⟩,
 ⟨some 59, none, .mv (.c (.d (.int 0)))⟩]) (
 .block 2 (
 .loop L0_impl_FuseLabels))) (
 .seq (
 .draw [⟨some 72, none, .ldn 3 (.t 4)⟩,
 ⟨some 73, none, .ldn 3 (.t 5)⟩,
 ⟨some 74, none, .mv (.t 12)⟩,
 ⟨some 75, none, .call 79 [(.t 74)]⟩,
 ⟨some 76, none, .mv (.t 2)⟩,
 ⟨some 77, none, .app 1 8 [.d (.int 0)] (.t 75) (.t 76)⟩,
 ⟨some 78, none, .call 78 [(.t 72), (.t 73), (.t 77)]⟩,
 ⟨some 15, none, .zer [.nil, .nil, .nil]⟩]
 [⟨none, none, .st 3 (.t 15) (.t 78)⟩]) (
 .seq (
 .reg [⟨some 79, none, .mv (.t 12)⟩,
 ⟨some 80, none, .len (.t 79)⟩,
 ⟨some 16, none, .mv (.t 80)⟩]) (
 .seq (
 .draw [⟨some 81, none, .mv (.t 12)⟩,
 ⟨some 82, none, .mv (.t 3)⟩,
 ⟨some 83, none, .mksl 1 1 [.d (.int 0)] [(0, 1, (.t 82))]⟩,
 ⟨some 84, none, .app 1 8 [.d (.int 0)] (.t 81) (.t 83)⟩,
 ⟨some 85, none, .fld 1 (.t 15)⟩,
 ⟨some 86, none, .ld (.t 85)⟩,
 ⟨some 87, none, .mv (.t 16)⟩,
 ⟨some 88, none, .slc 1 (.t 86) none (some (.t 87))⟩,
 ⟨some 89, none, .call 79 [(.t 88)]⟩,
 ⟨some 90, none, .fld 1 (.t 15)⟩,
 ⟨some 91, none, .ld (.t 90)⟩,
 ⟨some 92, none, .mv (.t 16)⟩,
 ⟨some 93, none, .slc 1 (.t 91) (some (.t 92)) none⟩,
 ⟨some 94, none, .call 69 [(.t 93)]⟩,
 ⟨some 95, none, .mksl 1 1 [.d (.int 0)] [(0, 1, (.t 94))]⟩,
 ⟨some 96, none, .app 1 8 [.d (.int 0)] (.t 89) (.t 95)⟩,
 ⟨some 97, none, .fld 2 (.t 15)⟩,
 ⟨some 98, none, .ld (.t 97)⟩,
 ⟨some 99, none, .agg [.nil, .nil, .nil] [(0, 1, (.t 84)), (1, 1, (.t 96)), (2, 1, (.t 98))]⟩,
 ⟨some 17, none, .zer [.nil, .nil, .nil]⟩]
 [⟨none, none, .st 3 (.t 17) (.t 99)⟩]) (
 .seq (
 .seq (
 .reg [⟨some 100, none, .ldn 3 (.t 4)⟩,
 ⟨some 101, none, .ldn 3 (.t 17)⟩,
 ⟨some 102, none, .call 62 [(.t 100), (.t 101)]⟩,
 ⟨some 103, none, .not (.t 102)⟩]) (
 .cond (.t 103) (
 .seq (
 .reg [⟨some 104, none, .agg [.nil, .nil, .nil] []⟩,
 ⟨none, none, .st 3 (.t 8) (.t 104)⟩,
 ⟨some 9, none, .mv (.c (.d (.bool false)))⟩]) (
 .ret)) (
 .skip))) (
 .seq (
 .reg [⟨some 105, none, .ldn 3 (.t 17)⟩,
 ⟨none, none, .st 3 (.t 8) (.t 105)⟩,
 ⟨some 9, none, .mv (.c (.d (.bool true)))⟩]) (
 .ret)))))))))),
 [.cell 8 3, .t 9]⟩

theorem k_impl_FuseLabels : cFun Try.prog Try.f38 = some C_impl_FuseLabels.erase := by kernel_rfl

def C_spec_LabelsOf : Fun := ⟨1, 9,
 .seq (
 .reg [⟨some 1, none, .box (.t 0)⟩,
 ⟨some 2, none, .mv (.c (.nil))⟩]) (
 .seq (
 .seq (
 .reg [⟨some 3, none, .ldn 5 (.t 1)⟩,
 ⟨some 4, none, .call 16 [(.t 3)]⟩,
 ⟨some 5, none, .not (.t 4)⟩]) (
 .cond (.t 5) (
 .seq (
 .reg [⟨some 2, none, .mv (.c (.nil))⟩]) (
 .ret)) (
 .skip))) (
 .seq (
 .reg [⟨some 6, none, .fld 3 (.t 1)⟩,
 ⟨some 7, none, .ld (.t 6)⟩,
 ⟨some 8, none, .call 85 [(.t 7)]⟩,
 ⟨some 2, none, .mv (.t 8)⟩]) (
 .ret))),
 [.t 2]⟩

theorem k_spec_LabelsOf : cFun Try.prog Try.f39 = some C_spec_LabelsOf.erase := by kernel_rfl

def C_impl_LabelsOf : Fun := ⟨1, 16,
 .seq (
 .reg [⟨some 1, none, .box (.t 0)⟩,
 ⟨some 2, none, .mv (.c (.nil))⟩]) (
 .seq (
 .seq (
 .reg [⟨some 5, none, .ldn 5 (.t 1)⟩,
 ⟨some 6, none, .call 18 [(.t 5)]⟩,
 ⟨some 7, none, .not (.t 6)⟩]) (
 .cond (.t 7) (
 .seq (
 .reg [⟨some 2, none, .mv (.c (.nil))⟩]) (
 .ret)) (
 .skip))) (
 .seq (
 .reg [⟨some 9, none, .fld 3 (.t 1)⟩,
 ⟨some 10, none, .ld (.t 9)⟩,
 ⟨some 11, none, .call 63 [(.t 10)]⟩,
 ⟨some 8, none, .mv (.t 11)⟩,
 ⟨some 12, none, .ext 0 (.t 8)⟩,
 ⟨some 13, none, .ext 1 (.t 8)⟩,
 ⟨some 3, none, .zer (reps 100 (.d (.int 0)))⟩,
 ⟨none, none, .st 100 (.t 3) (.t 12)⟩,
 ⟨some 4, none, .mv (.t 13)⟩]) (
 .seq (
 .reg [⟨some 14, none, .ldn 100 (.t 3)⟩,
 ⟨some 15, none, .call 86 [(.t 14)]⟩,
 ⟨some 2, none, .mv (.t 15)⟩]) (
 .ret)))),
 [.t 2]⟩

theorem k_impl_LabelsOf : cFun Try.prog Try.f40 = some C_impl_LabelsOf.erase := by kernel_rfl

def C_laws_markNetwork : Fun := ⟨2, 14,
 .seq (
 .reg [⟨some 2, none, .box (.t 0)⟩,
 ⟨some 4, none, .mv (.c (.d (.int 0)))⟩]) (
 .seq (
 .reg [⟨some 5, none, .fld 3 (.t 2)⟩,
 ⟨some 6, none, .ld (.t 5)⟩,
 ⟨some 7, none, .mv (.t 1)⟩,
 ⟨some 8, none, .call 87 [(.t 6), (.t 7)]⟩,
 ⟨some 1, none, .mv (.t 8)⟩]) (
 .seq (
 .reg [⟨some 9, none, .fld 4 (.t 2)⟩,
 ⟨some 10, none, .ld (.t 9)⟩,
 ⟨some 11, none, .mv (.t 1)⟩,
 ⟨some 12, none, .call 33 [(.t 10), (.t 11)]⟩,
 ⟨some 1, none, .mv (.t 12)⟩]) (
 .seq (
 .reg [⟨some 13, none, .mv (.t 1)⟩,
 ⟨some 4, none, .mv (.t 13)⟩]) (
 .ret)))),
 [.t 4]⟩

theorem k_laws_markNetwork : cFun Try.prog Try.f41 = some C_laws_markNetwork.erase := by kernel_rfl

def C_spec_UsesOf : Fun := ⟨2, 12,
 .seq (
 .reg [⟨some 2, none, .box (.t 0)⟩,
 ⟨some 4, none, .mv (.c (.nil))⟩]) (
 .seq (
 .seq (
 .reg [⟨some 5, none, .ldn 5 (.t 2)⟩,
 ⟨some 6, none, .call 16 [(.t 5)]⟩,
 ⟨some 7, none, .not (.t 6)⟩]) (
 .cond (.t 7) (
 .seq (
 .reg [⟨some 4, none, .mv (.c (.nil))⟩]) (
 .ret)) (
 .skip))) (
 .seq (
 .reg [⟨some 8, none, .fld 3 (.t 2)⟩,
 ⟨some 9, none, .ld (.t 8)⟩,
 ⟨some 10, none, .mv (.t 1)⟩,
 ⟨some 11, none, .call 88 [(.t 9), (.t 10)]⟩,
 ⟨some 4, none, .mv (.t 11)⟩]) (
 .ret))),
 [.t 4]⟩

theorem k_spec_UsesOf : cFun Try.prog Try.f43 = some C_spec_UsesOf.erase := by kernel_rfl

def L0_impl_UsesOf : C :=
 .seq (
 .reg [⟨some 15, none, .bin .lss (.t 14) (.t 13)⟩]) (
 .seq (
 .cond (.t 15) (
 .skip) (
 .exit 0)) (
 .seq (
 .block 1 (
 .seq (
 .reg [⟨some 16, none, .mv (.t 14)⟩,
 ⟨some 17, none, .idx 3 (.t 12) (.t 14)⟩,
 ⟨some 18, none, .ldn 3 (.t 17)⟩,
 ⟨some 7, none, .zer [.nil, .nil, .nil]⟩,
 ⟨some 6, none, .mv (.t 16)⟩,
 ⟨none, none, .st 3 (.t 7) (.t 18)⟩]) (
 .seq (
 .reg [⟨some 19, none, .ldn 3 (.t 7)⟩,
 ⟨some 20, none, .mv (.t 1)⟩,
 ⟨some 21, none, .call 76 [(.t 19), (.t 20)]⟩,
 ⟨some 22, none, .bin .geq (.t 21) (.c (.d (.int 0)))⟩]) (
 .cond (.t 22) (
 .reg [⟨some 23, none, .mv (.t 5)⟩,
 ⟨some 24, none, .mv (.t 6)⟩,
 ⟨some 25, none, .mksl 1 1 [.d (.int 0)] [(0, 1, (.t 24))]⟩,
 ⟨some 26, none, .app 1 8 [.d (.int 0)] (.t 23) (.t 25)⟩,
 ⟨some 5, none, .mv (.t 26)⟩]) (
 .skip))))) (
 .reg [⟨some 27, none, .bin .add (.t 14) (.c (.d (.int 1)))⟩,
 ⟨some 14, none, .mv (.t 27)⟩])))

def C_impl_UsesOf : Fun := ⟨2, 29,
 .seq (
 .reg [⟨some 2, none, .box (.t 0)⟩,
 ⟨some 4, none, .mv (.c (.nil))⟩]) (
 .seq (
 .seq (
 .reg [⟨some 8, none, .ldn 5 (.t 2)⟩,
 ⟨some 9, none, .call 18 [(.t 8)]⟩,
 ⟨some 10, none, .not (.t 9)⟩]) (
 .cond (.t 10) (
 .seq (
 .reg [⟨some 4, none, .mv (.c (.nil))⟩]) (
 .ret)) (
 .skip))) (
 .seq (
 .reg [⟨some 5, none, .mv (.c (.nil))⟩]) (
 .seq (
 .seq (
 .reg [⟨some 11, none, .fld 3 (.t 2)⟩,
 ⟨some 12, none, .ld (.t 11)⟩,
 ⟨some 13, none, .len (.t 12)⟩,
 ⟨some 14, none, .mv (.c (.d (.int 0)))⟩]) (
 .block 0 (
 .loop L0_impl_UsesOf))) (
 .seq (
 .reg [⟨some 28, none, .mv (.t 5)⟩,
 ⟨some 4, none, .mv (.t 28)⟩]) (
 .ret))))),
 [.t 4]⟩

theorem k_impl_UsesOf : cFun Try.prog Try.f44 = some C_impl_UsesOf.erase := by kernel_rfl

def C_spec_EliminationOk : Fun := ⟨2, 13,
 .seq (
 .reg [⟨some 2, none, .box (.t 0)⟩,
 ⟨some 4, none, .mv (.c (.d (.bool false)))⟩]) (
 .seq (
 .reg [⟨some 5, none, .ldn 5 (.t 2)⟩,
 ⟨some 6, none, .call 16 [(.t 5)]⟩,
 ⟨some 7, none, .mv (.t 6)⟩,
 ⟨some 8, some (7, true), .ldn 5 (.t 2)⟩,
 ⟨some 9, some (7, true), .call 90 [(.t 8)]⟩,
 ⟨some 10, some (7, true), .mv (.t 1)⟩,
 ⟨some 11, some (7, true), .call 89 [(.t 9), (.t 10)]⟩,
 ⟨some 12, none, .pick (.t 7) (.t 11) (.c (.d (.bool false)))⟩,
 ⟨some 4, none, .mv (.t 12)⟩]) (
 .ret)),
 [.t 4]⟩

theorem k_spec_EliminationOk : cFun Try.prog Try.f45 = some C_spec_EliminationOk.erase := by kernel_rfl

def C_impl_EliminationOk : Fun := ⟨2, 13,
 .seq (
 .reg [⟨some 2, none, .box (.t 0)⟩,
 ⟨some 4, none, .mv (.c (.d (.bool false)))⟩]) (
 .seq (
 .reg [⟨some 5, none, .ldn 5 (.t 2)⟩,
 ⟨some 6, none, .call 18 [(.t 5)]⟩,
 ⟨some 7, none, .mv (.t 6)⟩,
 ⟨some 8, some (7, true), .ldn 5 (.t 2)⟩,
 ⟨some 9, some (7, true), .call 50 [(.t 8)]⟩,
 ⟨some 10, some (7, true), .mv (.t 1)⟩,
 ⟨some 11, some (7, true), .call 91 [(.t 9), (.t 10)]⟩,
 ⟨some 12, none, .pick (.t 7) (.t 11) (.c (.d (.bool false)))⟩,
 ⟨some 4, none, .mv (.t 12)⟩]) (
 .ret)),
 [.t 4]⟩

theorem k_impl_EliminationOk : cFun Try.prog Try.f46 = some C_impl_EliminationOk.erase := by kernel_rfl

def L0_spec_NeighborsOf : C :=
 .seq (
 .reg [⟨some 25, none, .bin .lss (.t 24) (.t 23)⟩]) (
 .seq (
 .cond (.t 25) (
 .skip) (
 .exit 0)) (
 .seq (
 .block 1 (
 .seq (
 .reg [⟨some 26, none, .mv (.t 24)⟩,
 ⟨some 27, none, .idx 3 (.t 22) (.t 24)⟩,
 ⟨some 28, none, .ldn 3 (.t 27)⟩,
 ⟨some 7, none, .zer [.nil, .nil, .nil]⟩,
 ⟨some 6, none, .mv (.t 26)⟩,
 ⟨none, none, .st 3 (.t 7) (.t 28)⟩]) (
 .seq (
 .draw [⟨some 29, none, .mv (.t 6)⟩,
 ⟨some 30, none, .mv (.t 1)⟩,
 ⟨some 31, none, .bin .neq (.t 29) (.t 30)⟩,
 ⟨some 32, none, .mv (.t 31)⟩,
 ⟨some 33, some (32, true), .ldn 3 (.t 7)⟩,
 ⟨some 34, some (32, true), .fld 3 (.t 2)⟩,
 ⟨some 35, some (32, true), .ld (.t 34)⟩,
 ⟨some 36, some (32, true), .mv (.t 1)⟩,
 ⟨some 37, some (32, true), .idx 3 (.t 35) (.t 36)⟩,
 ⟨some 38, some (32, true), .ldn 3 (.t 37)⟩]
 [⟨some 39, some (32, true), .call 92 [(.t 33), (.t 38)]⟩,
 ⟨some 40, none, .pick (.t 32) (.t 39) (.c (.d (.bool false)))⟩]) (
 .cond (.t 40) (
 .reg [⟨some 41, none, .mv (.t 5)⟩,
 ⟨some 42, none, .mv (.t 6)⟩,
 ⟨some 43, none, .mksl 1 1 [.d (.int 0)] [(0, 1, (.t 42))]⟩,
 ⟨some 44, none, .app 1 8 [.d (.int 0)] (.t 41) (.t 43)⟩,
 ⟨some 5, none, .mv (.t 44)⟩]) (
 .skip))))) (
 .reg [⟨some 45, none, .bin .add (.t 24) (.c (.d (.int 1)))⟩,
 ⟨some 24, none, .mv (.t 45)⟩])))

def C_spec_NeighborsOf : Fun := ⟨2, 47,
 .seq (
 .reg [⟨some 2, none, .box (.t 0)⟩,
 ⟨some 4, none, .mv (.c (.nil))⟩]) (
 .seq (
 .seq (
 .reg [⟨some 8, none, .ldn 5 (.t 2)⟩,
 ⟨some 9, none, .call 16 [(.t 8)]⟩,
 ⟨some 10, none, .not (.t 9)⟩,
 ⟨some 11, none, .mv (.t 10)⟩,
 ⟨some 12, some (11, false), .mv (.t 1)⟩,
 ⟨some 13, some (11, false), .fld 3 (.t 2)⟩,
 ⟨some 14, some (11, false), .ld (.t 13)⟩,
 ⟨some 15, some (11, false), .len (.t 14)⟩,
 ⟨some 16, some (11, false), .bin .sub (.t 15) (.c (.d (.int 1)))⟩,
 ⟨some 17, some (11, false), .call 80 [(.t 12), (.c (.d (.int 0))), (.t 16)]⟩,
 ⟨some 18, some (11, false), .not (.t 17)⟩,
 ⟨some 19, none, .pick (.t 11) (.c (.d (.bool true))) (.t 18)⟩]) (
 .cond (.t 19) (
 .seq (
 .reg [⟨some 4, none, .mv (.c (.nil))⟩]) (
 .ret)) (
 .skip))) (
 .seq (
 .reg [⟨some 20, none, .mksl 1 0 [.d (.int 0)] []⟩,
 ⟨some 5, none, .mv (.t 20)⟩]) (
 .seq (
 .seq (
 .reg [⟨some 21, none, .fld 3 (.t 2)⟩,
 ⟨some 22, none, .ld (.t 21)⟩,
 ⟨some 23, none, .len (.t 22)⟩,
 ⟨some 24, none, .mv (.c (.d (.int 0)))⟩]) (
 .block 0 (
 .loop L0_spec_NeighborsOf))) (
 .seq (
 .reg [⟨some 46, none, .mv (.t 5)⟩,
 ⟨some 4, none, .mv (.t 46)⟩]) (
 .ret))))),
 [.t 4]⟩

theorem k_spec_NeighborsOf : cFun Try.prog Try.f47 = some C_spec_NeighborsOf.erase := by kernel_rfl

def L0_impl_NeighborsOf : C :=
 .seq (
 .reg [⟨some 26, none, .bin .lss (.t 25) (.t 24)⟩]) (
 .seq (
 .cond (.t 26) (
 .skip) (
 .exit 0)) (
 .seq (
 .block 1 (
 .seq (
 .reg [⟨some 27, none, .mv (.t 25)⟩,
 ⟨some 28, none, .idx 3 (.t 23) (.t 25)⟩,
 ⟨some 29, none, .ldn 3 (.t 28)⟩,
 ⟨some 7, none, .zer [.nil, .nil, .nil]⟩,
 ⟨some 6, none, .mv (.t 27)⟩,
 ⟨none, none, .st 3 (.t 7) (.t 29)⟩]) (
 .seq (
 .draw [⟨some 30, none, .mv (.t 6)⟩,
 ⟨some 31, none, .mv (.t 1)⟩,
 ⟨some 32, none, .bin .neq (.t 30) (.t 31)⟩,
 ⟨some 33, none, .mv (.t 32)⟩,
 ⟨some 34, some (33, true), .fld 0 (.t 7)⟩,
 ⟨some 35, some (33, true), .ld (.t 34)⟩,
 ⟨some 36, some (33, true), .fld 3 (.t 2)⟩,
 ⟨some 37, some (33, true), .ld (.t 36)⟩,
 ⟨some 38, some (33, true), .mv (.t 1)⟩,
 ⟨some 39, some (33, true), .idx 3 (.t 37) (.t 38)⟩,
 ⟨some 40, some (33, true), .fld 0 (.t 39)⟩,
 ⟨some 41, some (33, true), .ld (.t 40)⟩]
 [⟨some 42, some (33, true), .call 93 [(.t 35), (.t 41)]⟩,
 ⟨some 43, none, .pick (.t 33) (.t 42) (.c (.d (.bool false)))⟩]) (
 .cond (.t 43) (
 .reg [⟨some 44, none, .mv (.t 5)⟩,
 ⟨some 45, none, .mv (.t 6)⟩,
 ⟨some 46, none, .mksl 1 1 [.d (.int 0)] [(0, 1, (.t 45))]⟩,
 ⟨some 47, none, .app 1 8 [.d (.int 0)] (.t 44) (.t 46)⟩,
 ⟨some 5, none, .mv (.t 47)⟩]) (
 .skip))))) (
 .reg [⟨some 48, none, .bin .add (.t 25) (.c (.d (.int 1)))⟩,
 ⟨some 25, none, .mv (.t 48)⟩])))

def C_impl_NeighborsOf : Fun := ⟨2, 50,
 .seq (
 .reg [⟨some 2, none, .box (.t 0)⟩,
 ⟨some 4, none, .mv (.c (.nil))⟩]) (
 .seq (
 .seq (
 .reg [⟨some 8, none, .ldn 5 (.t 2)⟩,
 ⟨some 9, none, .call 18 [(.t 8)]⟩,
 ⟨some 10, none, .not (.t 9)⟩,
 ⟨some 11, none, .mv (.t 10)⟩,
 ⟨some 12, some (11, false), .mv (.t 1)⟩,
 ⟨some 13, some (11, false), .bin .lss (.t 12) (.c (.d (.int 0)))⟩,
 ⟨some 14, none, .pick (.t 11) (.c (.d (.bool true))) (.t 13)⟩,
 ⟨some 15, none, .mv (.t 14)⟩,
 ⟨some 16, some (15, false), .mv (.t 1)⟩,
 ⟨some 17, some (15, false), .fld 3 (.t 2)⟩,
 ⟨some 18, some (15, false), .ld (.t 17)⟩,
 ⟨some 19, some (15, false), .len (.t 18)⟩,
 ⟨some 20, some (15, false), .bin .geq (.t 16) (.t 19)⟩,
 ⟨some 21, none, .pick (.t 15) (.c (.d (.bool true))) (.t 20)⟩]) (
 .cond (.t 21) (
 .seq (
 .reg [⟨some 4, none, .mv (.c (.nil))⟩]) (
 .ret)) (
 .skip))) (
 .seq (
 .reg [⟨some 5, none, .mv (.c (.nil))⟩]) (
 .seq (
 .seq (
 .reg [⟨some 22, none, .fld 3 (.t 2)⟩,
 ⟨some 23, none, .ld (.t 22)⟩,
 ⟨some 24, none, .len (.t 23)⟩,
 ⟨some 25, none, .mv (.c (.d (.int 0)))⟩]) (
 .block 0 (
 .loop L0_impl_NeighborsOf))) (
 .seq (
 .reg [⟨some 49, none, .mv (.t 5)⟩,
 ⟨some 4, none, .mv (.t 49)⟩]) (
 .ret))))),
 [.t 4]⟩

theorem k_impl_NeighborsOf : cFun Try.prog Try.f48 = some C_impl_NeighborsOf.erase := by kernel_rfl

def C_spec_ClosedLabels : Fun := ⟨1, 8,
 .seq (
 .reg [⟨some 1, none, .box (.t 0)⟩,
 ⟨some 2, none, .mv (.c (.nil))⟩]) (
 .seq (
 .seq (
 .reg [⟨some 3, none, .ldn 5 (.t 1)⟩,
 ⟨some 4, none, .call 16 [(.t 3)]⟩,
 ⟨some 5, none, .not (.t 4)⟩]) (
 .cond (.t 5) (
 .seq (
 .reg [⟨some 2, none, .mv (.c (.nil))⟩]) (
 .ret)) (
 .skip))) (
 .seq (
 .reg [⟨some 6, none, .ldn 5 (.t 1)⟩,
 ⟨some 7, none, .call 90 [(.t 6)]⟩,
 ⟨some 2, none, .mv (.t 7)⟩]) (
 .ret))),
 [.t 2]⟩

theorem k_spec_ClosedLabels : cFun Try.prog Try.f49 = some C_spec_ClosedLabels.erase := by kernel_rfl

def L0_impl_ClosedLabels : C :=
 .seq (
 .reg [⟨some 10, none, .bin .lss (.t 9) (.t 8)⟩]) (
 .seq (
 .cond (.t 10) (
 .skip) (
 .exit 0)) (
 .seq (
 .block 1 (
 .seq (
 .reg [⟨some 11, none, .idx 1 (.t 7) (.t 9)⟩,
 ⟨some 12, none, .ld (.t 11)⟩,
 ⟨some 5, none, .mv (.t 12)⟩]) (
 .seq (
 .reg [⟨some 13, none, .fld 4 (.t 1)⟩,
 ⟨some 14, none, .ld (.t 13)⟩,
 ⟨some 15, none, .mv (.t 5)⟩,
 ⟨some 16, none, .call 84 [(.t 14), (.t 15)]⟩,
 ⟨some 17, none, .not (.t 16)⟩]) (
 .cond (.t 17) (
 .reg [⟨some 18, none, .mv (.t 3)⟩,
 ⟨some 19, none, .mv (.t 5)⟩,
 ⟨some 20, none, .mksl 1 1 [.d (.int 0)] [(0, 1, (.t 19))]⟩,
 ⟨some 21, none, .app 1 8 [.d (.int 0)] (.t 18) (.t 20)⟩,
 ⟨some 3, none, .mv (.t 21)⟩]) (
 .skip))))) (
 .reg [⟨some 22, none, .bin .add (.t 9) (.c (.d (.int 1)))⟩,
 ⟨some 9, none, .mv (.t 22)⟩])))

def C_impl_ClosedLabels : Fun := ⟨1, 24,
 .seq (
 .reg [⟨some 1, none, .box (.t 0)⟩,
 ⟨some 2, none, .mv (.c (.nil))⟩]) (
 .seq (
 .reg [⟨some 3, none, .mv (.c (.nil))⟩]) (
 .seq (
 .seq (
 .reg [⟨some 6, none, .ldn 5 (.t 1)⟩,
 ⟨some 7, none, .call 40 [(.t 6)]⟩,
 ⟨some 8, none, .len (.t 7)⟩,
 ⟨some 9, none, .mv (.c (.d (.int 0)))⟩]) (
 .block 0 (
 .loop L0_impl_ClosedLabels))) (
 .seq (
 .reg [⟨some 23, none, .mv (.t 3)⟩,
 ⟨some 2, none, .mv (.t 23)⟩]) (
 .ret)))),
 [.t 2]⟩

theorem k_impl_ClosedLabels : cFun Try.prog Try.f50 = some C_impl_ClosedLabels.erase := by kernel_rfl

def L0_spec_SliceCount : C :=
 .seq (
 .reg [⟨some 21, none, .bin .lss (.t 20) (.t 19)⟩]) (
 .seq (
 .cond (.t 21) (
 .skip) (
 .exit 0)) (
 .seq (
 .block 1 (
 .seq (
 .reg [⟨some 22, none, .mv (.t 20)⟩,
 ⟨some 23, none, .idx 1 (.t 18) (.t 20)⟩,
 ⟨some 24, none, .ld (.t 23)⟩,
 ⟨some 6, none, .mv (.t 22)⟩,
 ⟨some 7, none, .mv (.t 24)⟩]) (
 .seq (
 .reg [⟨some 25, none, .mv (.t 5)⟩,
 ⟨some 26, none, .mv (.t 7)⟩,
 ⟨some 27, none, .call 70 [(.t 25), (.t 26)]⟩,
 ⟨some 28, none, .bin .lss (.t 27) (.c (.d (.int 0)))⟩,
 ⟨some 29, none, .mv (.t 28)⟩,
 ⟨some 30, some (29, false), .mv (.t 1)⟩,
 ⟨some 31, some (29, false), .mv (.t 6)⟩,
 ⟨some 32, some (29, false), .slc 1 (.t 30) none (some (.t 31))⟩,
 ⟨some 33, some (29, false), .mv (.t 7)⟩,
 ⟨some 34, some (29, false), .call 70 [(.t 32), (.t 33)]⟩,
 ⟨some 35, some (29, false), .bin .geq (.t 34) (.c (.d (.int 0)))⟩,
 ⟨some 36, none, .pick (.t 29) (.c (.d (.bool true))) (.t 35)⟩]) (
 .cond (.t 36) (
 .seq (
 .reg [⟨some 4, none, .mv (.c (.d (.int (-1))))⟩]) (
 .ret)) (
 .skip))))) (
 .reg [⟨some 37, none, .bin .add (.t 20) (.c (.d (.int 1)))⟩,
 ⟨some 20, none, .mv (.t 37)⟩])))

def C_spec_SliceCount : Fun := ⟨2, 43,
 .seq (
 .reg [⟨some 2, none, .box (.t 0)⟩,
 ⟨some 4, none, .mv (.c (.d (.int 0)))⟩]) (
 .seq (
 .seq (
 .reg [⟨some 8, none, .ldn 5 (.t 2)⟩,
 ⟨some 9, none, .call 16 [(.t 8)]⟩,
 ⟨some 10, none, .not (.t 9)⟩,
 ⟨some 11, none, .mv (.t 10)⟩,
 ⟨some 12, some (11, false), .mv (.t 1)⟩,
 ⟨some 13, some (11, false), .len (.t 12)⟩,
 ⟨some 14, some (11, false), .bin .gtr (.t 13) (.c (.d (.int 4)))⟩,
 ⟨some 15, none, .pick (.t 11) (.c (.d (.bool true))) (.t 14)⟩]) (
 .cond (.t 15) (
 .seq (
 .reg [⟨some 4, none, .mv (.c (.d (.int (-1))))⟩]) (
 .ret)) (
 .skip))) (
 .seq (
 .reg [⟨some 16, none, .ldn 5 (.t 2)⟩,
 ⟨some 17, none, .call 90 [(.t 16)]⟩,
 ⟨some 5, none, .mv (.t 17)⟩]) (
 .seq (
 .seq (
 .reg [⟨some 18, none, .mv (.t 1)⟩,
 ⟨some 19, none, .len (.t 18)⟩,
 ⟨some 20, none, .mv (.c (.d (.int 0)))⟩]) (
 .block 0 (
 .loop L0_spec_SliceCount))) (
 .seq (
 .reg [⟨some 38, none, .fld 3 (.t 2)⟩,
 ⟨some 39, none, .ld (.t 38)⟩,
 ⟨some 40, none, .mv (.t 1)⟩,
 ⟨some 41, none, .call 59 [(.t 39), (.t 40)]⟩,
 ⟨some 42, none, .call 72 [(.t 41), (.c (.d (.int 65536)))]⟩,
 ⟨some 4, none, .mv (.t 42)⟩]) (
 .ret))))),
 [.t 4]⟩

theorem k_spec_SliceCount : cFun Try.prog Try.f51 = some C_spec_SliceCount.erase := by kernel_rfl

def L0_laws_szTensorS : C :=
 .seq (
 .seq (
 .reg [⟨some 12, none, .mv (.t 5)⟩,
 ⟨some 13, none, .mv (.t 0)⟩,
 ⟨some 14, none, .len (.t 13)⟩,
 ⟨some 15, none, .bin .lss (.t 12) (.t 14)⟩]) (
 .cond (.t 15) (
 .skip) (
 .exit 0))) (
 .seq (
 .block 1 (
 .seq (
 .reg [⟨some 18, none, .mv (.t 0)⟩,
 ⟨some 19, none, .mv (.t 5)⟩,
 ⟨some 20, none, .idx 3 (.t 18) (.t 19)⟩,
 ⟨some 21, none, .ldn 3 (.t 20)⟩,
 ⟨some 22, none, .mv (.t 1)⟩,
 ⟨some 23, none, .call 24 [(.t 21), (.t 22)]⟩,
 ⟨some 1, none, .mv (.t 23)⟩]) (
 .seq (
 .reg [⟨some 24, none, .mv (.t 1)⟩,
 ⟨some 25, none, .bin .lss (.t 24) (.c (.d (.int 0)))⟩]) (
 .cond (.t 25) (
 .seq (
 .reg [⟨some 4, none, .mv (.c (.d (.int (-1))))⟩]) (
 .ret)) (
 .skip))))) (
 .reg [⟨some 16, none, .mv (.t 5)⟩,
 ⟨some 17, none, .bin .add (.t 16) (.c (.d (.int 1)))⟩,
 ⟨some 5, none, .mv (.t 17)⟩]))

def C_laws_szTensorS : Fun := ⟨2, 27,
 .seq (
 .reg [⟨some 4, none, .mv (.c (.d (.int 0)))⟩]) (
 .seq (
 .reg [⟨some 6, none, .mv (.t 1)⟩,
 ⟨some 7, none, .mv (.t 0)⟩,
 ⟨some 8, none, .len (.t 7)⟩,
 ⟨some 9, none, .bin .sub (.t 6) (.t 8)⟩,
 ⟨some 1, none, .mv (.t 9)⟩]) (
 .seq (
 .seq (
 .reg [⟨some 10, none, .mv (.t 1)⟩,
 ⟨some 11, none, .bin .lss (.t 10) (.c (.d (.int 0)))⟩]) (
 .cond (.t 11) (
 .seq (
 .reg [⟨some 4, none, .mv (.c (.d (.int (-1))))⟩]) (
 .ret)) (
 .skip))) (
 .seq (
 .seq (
 .reg [⟨some 5, none, .mv (.c (.d (.int 0)))⟩]) (
 .block 0 (
 .loop L0_laws_szTensorS))) (
 .seq (
 .reg [⟨some 26, none, .mv (.t 1)⟩,
 ⟨some 4, none, .mv (.t 26)⟩]) (
 .ret))))),
 [.t 4]⟩

theorem k_laws_szTensorS : cFun Try.prog Try.f53 = some C_laws_szTensorS.erase := by kernel_rfl

def L0_spec_l12Dim : C :=
 .seq (
 .reg [⟨some 11, none, .bin .lss (.t 10) (.t 9)⟩]) (
 .seq (
 .cond (.t 11) (
 .skip) (
 .exit 0)) (
 .seq (
 .block 1 (
 .seq (
 .reg [⟨some 12, none, .idx 3 (.t 8) (.t 10)⟩,
 ⟨some 13, none, .ldn 3 (.t 12)⟩,
 ⟨some 6, none, .zer [.nil, .nil, .nil]⟩,
 ⟨none, none, .st 3 (.t 6) (.t 13)⟩]) (
 .seq (
 .reg [⟨some 14, none, .fld 0 (.t 6)⟩,
 ⟨some 15, none, .ld (.t 14)⟩,
 ⟨some 16, none, .mv (.t 1)⟩,
 ⟨some 17, none, .call 70 [(.t 15), (.t 16)]⟩,
 ⟨some 7, none, .mv (.t 17)⟩]) (
 .seq (
 .reg [⟨some 18, none, .mv (.t 7)⟩,
 ⟨some 19, none, .bin .geq (.t 18) (.c (.d (.int 0)))⟩]) (
 .cond (.t 19) (
 .seq (
 .reg [⟨some 20, none, .fld 1 (.t 6)⟩,
 ⟨some 21, none, .ld (.t 20)⟩,
 ⟨some 22, none, .mv (.t 7)⟩,
 ⟨some 23, none, .idx 1 (.t 21) (.t 22)⟩,
 ⟨some 24, none, .ld (.t 23)⟩,
 ⟨some 4, none, .mv (.t 24)⟩]) (
 .ret)) (
 .skip)))))) (
 .reg [⟨some 25, none, .bin .add (.t 10) (.c (.d (.int 1)))⟩,
 ⟨some 10, none, .mv (.t 25)⟩])))

def C_spec_l12Dim : Fun := ⟨2, 26,
 .seq (
 .reg [⟨some 4, none, .mv (.c (.d (.int 0)))⟩]) (
 .seq (
 .seq (
 .reg [⟨some 8, none, .mv (.t 0)⟩,
 ⟨some 9, none, .len (.t 8)⟩,
 ⟨some 10, none, .mv (.c (.d (.int 0)))⟩]) (
 .block 0 (
 .loop L0_spec_l12Dim))) (
 .seq (
 .reg [⟨some 4, none, .mv (.c (.d (.int 0)))⟩]) (
 .ret))),
 [.t 4]⟩

theorem k_spec_l12Dim : cFun Try.prog Try.f57 = some C_spec_l12Dim.erase := by kernel_rfl

def L0_spec_l12Dims : C :=
 .seq (
 .reg [⟨some 12, none, .bin .lss (.t 11) (.t 10)⟩]) (
 .seq (
 .cond (.t 12) (
 .skip) (
 .exit 0)) (
 .seq (
 .block 1 (
 .seq (
 .reg [⟨some 13, none, .idx 1 (.t 9) (.t 11)⟩,
 ⟨some 14, none, .ld (.t 13)⟩,
 ⟨some 7, none, .mv (.t 14)⟩]) (
 .reg [⟨some 15, none, .mv (.t 5)⟩,
 ⟨some 16, none, .mv (.t 0)⟩,
 ⟨some 17, none, .mv (.t 7)⟩,
 ⟨some 18, none, .call 57 [(.t 16), (.t 17)]⟩,
 ⟨some 19, none, .mksl 1 1 [.d (.int 0)] [(0, 1, (.t 18))]⟩,
 ⟨some 20, none, .app 1 8 [.d (.int 0)] (.t 15) (.t 19)⟩,
 ⟨some 5, none, .mv (.t 20)⟩]))) (
 .reg [⟨some 21, none, .bin .add (.t 11) (.c (.d (.int 1)))⟩,
 ⟨some 11, none, .mv (.t 21)⟩])))

def C_spec_l12Dims : Fun := ⟨2, 23,
 .seq (
 .reg [⟨some 4, none, .mv (.c (.nil))⟩]) (
 .seq (
 .reg [⟨some 8, none, .mksl 1 0 [.d (.int 0)] []⟩,
 ⟨some 5, none, .mv (.t 8)⟩]) (
 .seq (
 .seq (
 .reg [⟨some 9, none, .mv (.t 1)⟩,
 ⟨some 10, none, .len (.t 9)⟩,
 ⟨some 11, none, .mv (.c (.d (.int 0)))⟩]) (
 .block 0 (
 .loop L0_spec_l12Dims))) (
 .seq (
 .reg [⟨some 22, none, .mv (.t 5)⟩,
 ⟨some 4, none, .mv (.t 22)⟩]) (
 .ret)))),
 [.t 4]⟩

theorem k_spec_l12Dims : cFun Try.prog Try.f59 = some C_spec_l12Dims.erase := by kernel_rfl

def L0_laws_toTensorS : C :=
 .seq (
 .seq (
 .reg [⟨some 8, none, .mv (.t 4)⟩,
 ⟨some 9, none, .mv (.t 0)⟩,
 ⟨some 10, none, .len (.t 9)⟩,
 ⟨some 11, none, .bin .lss (.t 8) (.t 10)⟩]) (
 .cond (.t 11) (
 .skip) (
 .exit 0))) (
 .seq (
 .block 1 (
 .reg [⟨some 14, none, .mv (.t 3)⟩,
 ⟨some 15, none, .mv (.t 4)⟩,
 ⟨some 16, none, .mv (.t 0)⟩,
 ⟨some 17, none, .mv (.t 4)⟩,
 ⟨some 18, none, .idx 3 (.t 16) (.t 17)⟩,
 ⟨some 19, none, .ldn 3 (.t 18)⟩,
 ⟨some 20, none, .call 27 [(.t 19)]⟩,
 ⟨some 21, none, .idx 3 (.t 14) (.t 15)⟩,
 ⟨none, none, .st 3 (.t 21) (.t 20)⟩])) (
 .reg [⟨some 12, none, .mv (.t 4)⟩,
 ⟨some 13, none, .bin .add (.t 12) (.c (.d (.int 1)))⟩,
 ⟨some 4, none, .mv (.t 13)⟩]))

def C_laws_toTensorS : Fun := ⟨1, 23,
 .seq (
 .reg [⟨some 2, none, .mv (.c (.nil))⟩]) (
 .seq (
 .reg [⟨some 5, none, .mv (.t 0)⟩,
 ⟨some 6, none, .len (.t 5)⟩,
 ⟨some 7, none, .make 3 72 [.nil, .nil, .nil] (.t 6) (.t 6)⟩,
 ⟨some 3, none, .mv (.t 7)⟩]) (
 .seq (
 .seq (
 .reg [⟨some 4, none, .mv (.c (.d (.int 0)))⟩]) (
 .block 0 (
 .loop L0_laws_toTensorS))) (
 .seq (
 .reg [⟨some 22, none, .mv (.t 3)⟩,
 ⟨some 2, none, .mv (.t 22)⟩]) (
 .ret)))),
 [.t 2]⟩

theorem k_laws_toTensorS : cFun Try.prog Try.f60 = some C_laws_toTensorS.erase := by kernel_rfl

def L0_impl_dimsOf : C :=
 .seq (
 .reg [⟨some 19, none, .bin .lss (.t 18) (.t 17)⟩]) (
 .seq (
 .cond (.t 19) (
 .skip) (
 .exit 2)) (
 .seq (
 .block 3 (
 .seq (
 .reg [⟨some 20, none, .mv (.t 18)⟩,
 ⟨some 21, none, .idx 1 (.t 16) (.t 18)⟩,
 ⟨some 22, none, .ld (.t 21)⟩,
 ⟨some 7, none, .mv (.t 20)⟩,
 ⟨some 8, none, .mv (.t 22)⟩]) (
 .seq (
 .seq (
 .draw [⟨some 23, none, .mv (.t 8)⟩,
 ⟨some 24, none, .aix 1 100 (.t 4) (.t 23)⟩,
 ⟨some 25, none, .ld (.t 24)⟩,
 ⟨some 26, none, .bin .neq (.t 25) (.c (.d (.int 0)))⟩,
 ⟨some 27, none, .mv (.t 26)⟩,
 ⟨some 28, some (27, true), .mv (.t 8)⟩,
 ⟨some 29, some (27, true), .aix 1 100 (.t 4) (.t 28)⟩,
 ⟨some 30, some (27, true), .ld (.t 29)⟩,
 ⟨some 31, some (27, true), .fld 1 (.t 6)⟩,
 ⟨some 32, some (27, true), .ld (.t 31)⟩,
 ⟨some 33, some (27, true), .mv (.t 7)⟩,
 ⟨some 34, some (27, true), .idx 1 (.t 32) (.t 33)⟩,
 ⟨some 35, some (27, true), .ld (.t 34)⟩]
 [⟨some 36, some (27, true), .bin .neq (.t 30) (.t 35)⟩,
 ⟨some 37, none, .pick (.t 27) (.t 36) (.c (.d (.bool false)))⟩]) (
 .cond (.t 37) (
 .seq (
 .reg [⟨some 38, none, .ldn 100 (.t 4)⟩,
 ⟨none, none, .st 100 (.t 2) (.t 38)⟩,
 ⟨some 3, none, .mv (.c (.d (.bool false)))⟩]) (
 .ret)) (
 .skip))) (
 .reg [⟨some 39, none, .mv (.t 8)⟩,
 ⟨some 40, none, .fld 1 (.t 6)⟩,
 ⟨some 41, none, .ld (.t 40)⟩,
 ⟨some 42, none, .mv (.t 7)⟩,
 ⟨some 43, none, .idx 1 (.t 41) (.t 42)⟩,
 ⟨some 44, none, .ld (.t 43)⟩,
 ⟨some 45, none, .aix 1 100 (.t 4) (.t 39)⟩,
 ⟨none, none, .st 1 (.t 45) (.t 44)⟩])))) (
 .reg [⟨some 46, none, .bin .add (.t 18) (.c (.d (.int 1)))⟩,
 ⟨some 18, none, .mv (.t 46)⟩])))

def L1_impl_dimsOf : C :=
 .seq (
 .reg [⟨some 12, none, .bin .lss (.t 11) (.t 10)⟩]) (
 .seq (
 .cond (.t 12) (
 .skip) (
 .exit 0)) (
 .seq (
 .block 1 (
 .seq (
 .reg [⟨some 13, none, .idx 3 (.t 9) (.t 11)⟩,
 ⟨some 14, none, .ldn 3 (.t 13)⟩,
 ⟨some 6, none, .zer [.nil, .nil, .nil]⟩,
 ⟨none, none, .st 3 (.t 6) (.t 14)⟩]) (
 .seq (
 .reg [⟨some 15, none, .fld 0 (.t 6)⟩,
 ⟨some 16, none, .ld (.t 15)⟩,
 ⟨some 17, none, .len (.t 16)⟩,
 ⟨some 18, none, .mv (.c (.d (.int 0)))⟩]) (
 .block 2 (
 .loop L0_impl_dimsOf))))) (
 .reg [⟨some 47, none, .bin .add (.t 11) (.c (.d (.int 1)))⟩,
 ⟨some 11, none, .mv (.t 47)⟩])))

def C_impl_dimsOf : Fun := ⟨1, 49,
 .seq (
 .reg [⟨some 2, none, .zer (reps 100 (.d (.int 0)))⟩,
 ⟨some 3, none, .mv (.c (.d (.bool false)))⟩]) (
 .seq (
 .reg [⟨some 4, none, .zer (reps 100 (.d (.int 0)))⟩]) (
 .seq (
 .seq (
 .reg [⟨some 9, none, .mv (.t 0)⟩,
 ⟨some 10, none, .len (.t 9)⟩,
 ⟨some 11, none, .mv (.c (.d (.int 0)))⟩]) (
 .block 0 (
 .loop L1_impl_dimsOf))) (
 .seq (
 .reg [⟨some 48, none, .ldn 100 (.t 4)⟩,
 ⟨none, none, .st 100 (.t 2) (.t 48)⟩,
 ⟨some 3, none, .mv (.c (.d (.bool true)))⟩]) (
 .ret)))),
 [.cell 2 100, .t 3]⟩

theorem k_impl_dimsOf : cFun Try.prog Try.f63 = some C_impl_dimsOf.erase := by kernel_rfl

def L0_impl_axesOf : C :=
 .seq (
 .reg [⟨some 17, none, .bin .lss (.t 16) (.t 15)⟩]) (
 .seq (
 .cond (.t 17) (
 .skip) (
 .exit 0)) (
 .seq (
 .block 1 (
 .seq (
 .reg [⟨some 18, none, .mv (.t 16)⟩,
 ⟨some 19, none, .idx 1 (.t 14) (.t 16)⟩,
 ⟨some 20, none, .ld (.t 19)⟩,
 ⟨some 6, none, .mv (.t 18)⟩,
 ⟨some 7, none, .mv (.t 20)⟩]) (
 .draw [⟨some 21, none, .fld 1 (.t 5)⟩,
 ⟨some 22, none, .ld (.t 21)⟩,
 ⟨some 23, none, .mv (.t 6)⟩,
 ⟨some 24, none, .mv (.t 7)⟩,
 ⟨some 25, none, .aix 1 100 (.t 2) (.t 24)⟩,
 ⟨some 26, none, .ld (.t 25)⟩]
 [⟨some 27, none, .idx 1 (.t 22) (.t 23)⟩,
 ⟨none, none, .st 1 (.t 27) (.t 26)⟩]))) (
 .reg [⟨some 28, none, .bin .add (.t 16) (.c (.d (.int 1)))⟩,
 ⟨some 16, none, .mv (.t 28)⟩])))

def C_impl_axesOf : Fun := ⟨2, 30,
 .seq (
 .reg [⟨some 2, none, .box (.t 0)⟩,
 ⟨some 4, none, .zer [.nil, .nil, .nil]⟩]) (
 .seq (
 .draw [⟨some 8, none, .mv (.t 1)⟩,
 ⟨some 9, none, .call 79 [(.t 8)]⟩,
 ⟨some 10, none, .mv (.t 1)⟩,
 ⟨some 11, none, .len (.t 10)⟩,
 ⟨some 12, none, .make 1 8 [.d (.int 0)] (.t 11) (.t 11)⟩,
 ⟨some 13, none, .agg [.nil, .nil, .nil] [(0, 1, (.t 9)), (1, 1, (.t 12))]⟩,
 ⟨some 5, none, .zer [.nil, .nil, .nil]⟩]
 [⟨none, none, .st 3 (.t 5) (.t 13)⟩]) (
 .seq (
 .seq (
 .reg [⟨some 14, none, .mv (.t 1)⟩,
 ⟨some 15, none, .len (.t 14)⟩,
 ⟨some 16, none, .mv (.c (.d (.int 0)))⟩]) (
 .block 0 (
 .loop L0_impl_axesOf))) (
 .seq (
 .reg [⟨some 29, none, .ldn 3 (.t 5)⟩,
 ⟨none, none, .st 3 (.t 4) (.t 29)⟩]) (
 .ret)))),
 [.cell 4 3]⟩

theorem k_impl_axesOf : cFun Try.prog Try.f65 = some C_impl_axesOf.erase := by kernel_rfl

def C_laws_eqRing : Fun := ⟨2, 20,
 .seq (
 .reg [⟨some 2, none, .box (.t 0)⟩,
 ⟨some 3, none, .box (.t 1)⟩,
 ⟨some 4, none, .mv (.c (.d (.bool false)))⟩]) (
 .seq (
 .seq (
 .reg [⟨some 5, none, .fld 0 (.t 2)⟩,
 ⟨some 6, none, .ld (.t 5)⟩,
 ⟨some 7, none, .fld 0 (.t 3)⟩,
 ⟨some 8, none, .ld (.t 7)⟩,
 ⟨some 9, none, .bin .neq (.t 6) (.t 8)⟩]) (
 .cond (.t 9) (
 .seq (
 .reg [⟨some 4, none, .mv (.c (.d (.bool false)))⟩]) (
 .ret)) (
 .skip))) (
 .seq (
 .seq (
 .reg [⟨some 10, none, .fld 1 (.t 2)⟩,
 ⟨some 11, none, .ld (.t 10)⟩,
 ⟨some 12, none, .fld 1 (.t 3)⟩,
 ⟨some 13, none, .ld (.t 12)⟩,
 ⟨some 14, none, .bin .neq (.t 11) (.t 13)⟩]) (
 .cond (.t 14) (
 .seq (
 .reg [⟨some 4, none, .mv (.c (.d (.bool false)))⟩]) (
 .ret)) (
 .skip))) (
 .seq (
 .seq (
 .reg [⟨some 15, none, .fld 2 (.t 2)⟩,
 ⟨some 16, none, .ld (.t 15)⟩,
 ⟨some 17, none, .fld 2 (.t 3)⟩,
 ⟨some 18, none, .ld (.t 17)⟩,
 ⟨some 19, none, .bin .neq (.t 16) (.t 18)⟩]) (
 .cond (.t 19) (
 .seq (
 .reg [⟨some 4, none, .mv (.c (.d (.bool false)))⟩]) (
 .ret)) (
 .skip))) (
 .seq (
 .reg [⟨some 4, none, .mv (.c (.d (.bool true)))⟩]) (
 .ret))))),
 [.t 4]⟩

theorem k_laws_eqRing : cFun Try.prog Try.f66 = some C_laws_eqRing.erase := by kernel_rfl

def L0_laws_eqTensorS : C :=
 .seq (
 .seq (
 .reg [⟨some 11, none, .mv (.t 5)⟩,
 ⟨some 12, none, .mv (.t 0)⟩,
 ⟨some 13, none, .len (.t 12)⟩,
 ⟨some 14, none, .bin .lss (.t 11) (.t 13)⟩]) (
 .cond (.t 14) (
 .skip) (
 .exit 0))) (
 .seq (
 .block 1 (
 .seq (
 .draw [⟨some 17, none, .mv (.t 0)⟩,
 ⟨some 18, none, .mv (.t 5)⟩,
 ⟨some 19, none, .idx 3 (.t 17) (.t 18)⟩,
 ⟨some 20, none, .ldn 3 (.t 19)⟩,
 ⟨some 21, none, .mv (.t 1)⟩,
 ⟨some 22, none, .mv (.t 5)⟩,
 ⟨some 23, none, .idx 3 (.t 21) (.t 22)⟩,
 ⟨some 24, none, .ldn 3 (.t 23)⟩]
 [⟨some 25, none, .call 30 [(.t 20), (.t 24)]⟩,
 ⟨some 26, none, .not (.t 25)⟩]) (
 .cond (.t 26) (
 .seq (
 .reg [⟨some 4, none, .mv (.c (.d (.bool false)))⟩]) (
 .ret)) (
 .skip)))) (
 .reg [⟨some 15, none, .mv (.t 5)⟩,
 ⟨some 16, none, .bin .add (.t 15) (.c (.d (.int 1)))⟩,
 ⟨some 5, none, .mv (.t 16)⟩]))

def C_laws_eqTensorS : Fun := ⟨2, 27,
 .seq (
 .reg [⟨some 4, none, .mv (.c (.d (.bool false)))⟩]) (
 .seq (
 .seq (
 .reg [⟨some 6, none, .mv (.t 0)⟩,
 ⟨some 7, none, .len (.t 6)⟩,
 ⟨some 8, none, .mv (.t 1)⟩,
 ⟨some 9, none, .len (.t 8)⟩,
 ⟨some 10, none, .bin .neq (.t 7) (.t 9)⟩]) (
 .cond (.t 10) (
 .seq (
 .reg [⟨some 4, none, .mv (.c (.d (.bool false)))⟩]) (
 .ret)) (
 .skip))) (
 .seq (
 .seq (
 .reg [⟨some 5, none, .mv (.c (.d (.int 0)))⟩]) (
 .block 0 (
 .loop L0_laws_eqTensorS))) (
 .seq (
 .reg [⟨some 4, none, .mv (.c (.d (.bool true)))⟩]) (
 .ret)))),
 [.t 4]⟩

theorem k_laws_eqTensorS : cFun Try.prog Try.f67 = some C_laws_eqTensorS.erase := by kernel_rfl

def C_spec_l19Size : Fun := ⟨1, 7,
 .seq (
 .reg [⟨some 1, none, .box (.t 0)⟩,
 ⟨some 2, none, .mv (.c (.d (.int 0)))⟩]) (
 .seq (
 .reg [⟨some 3, none, .fld 1 (.t 1)⟩,
 ⟨some 4, none, .ld (.t 3)⟩,
 ⟨some 5, none, .call 72 [(.t 4), (.c (.d (.int 1000000000)))]⟩,
 ⟨some 6, none, .mnx false (.c (.d (.int 1000000000))) (.t 5)⟩,
 ⟨some 2, none, .mv (.t 6)⟩]) (
 .ret)),
 [.t 2]⟩

theorem k_spec_l19Size : cFun Try.prog Try.f68 = some C_spec_l19Size.erase := by kernel_rfl

def L0_spec_l10Rest : C :=
 .seq (
 .reg [⟨some 13, none, .bin .lss (.t 12) (.t 11)⟩]) (
 .seq (
 .cond (.t 13) (
 .skip) (
 .exit 0)) (
 .seq (
 .block 1 (
 .seq (
 .reg [⟨some 14, none, .idx 1 (.t 10) (.t 12)⟩,
 ⟨some 15, none, .ld (.t 14)⟩,
 ⟨some 7, none, .mv (.t 15)⟩]) (
 .seq (
 .reg [⟨some 16, none, .mv (.t 1)⟩,
 ⟨some 17, none, .mv (.t 7)⟩,
 ⟨some 18, none, .call 70 [(.t 16), (.t 17)]⟩,
 ⟨some 19, none, .bin .lss (.t 18) (.c (.d (.int 0)))⟩]) (
 .cond (.t 19) (
 .reg [⟨some 20, none, .mv (.t 5)⟩,
 ⟨some 21, none, .mv (.t 7)⟩,
 ⟨some 22, none, .mksl 1 1 [.d (.int 0)] [(0, 1, (.t 21))]⟩,
 ⟨some 23, none, .app 1 8 [.d (.int 0)] (.t 20) (.t 22)⟩,
 ⟨some 5, none, .mv (.t 23)⟩]) (
 .skip))))) (
 .reg [⟨some 24, none, .bin .add (.t 12) (.c (.d (.int 1)))⟩,
 ⟨some 12, none, .mv (.t 24)⟩])))

def C_spec_l10Rest : Fun := ⟨2, 26,
 .seq (
 .reg [⟨some 2, none, .box (.t 0)⟩,
 ⟨some 4, none, .mv (.c (.nil))⟩]) (
 .seq (
 .reg [⟨some 8, none, .mksl 1 0 [.d (.int 0)] []⟩,
 ⟨some 5, none, .mv (.t 8)⟩]) (
 .seq (
 .seq (
 .reg [⟨some 9, none, .fld 0 (.t 2)⟩,
 ⟨some 10, none, .ld (.t 9)⟩,
 ⟨some 11, none, .len (.t 10)⟩,
 ⟨some 12, none, .mv (.c (.d (.int 0)))⟩]) (
 .block 0 (
 .loop L0_spec_l10Rest))) (
 .seq (
 .reg [⟨some 25, none, .mv (.t 5)⟩,
 ⟨some 4, none, .mv (.t 25)⟩]) (
 .ret)))),
 [.t 4]⟩

theorem k_spec_l10Rest : cFun Try.prog Try.f73 = some C_spec_l10Rest.erase := by kernel_rfl

def L0_spec_l09Fix : C :=
 .seq (
 .reg [⟨some 17, none, .bin .lss (.t 16) (.t 15)⟩]) (
 .seq (
 .cond (.t 17) (
 .skip) (
 .exit 0)) (
 .seq (
 .block 1 (
 .seq (
 .reg [⟨some 18, none, .mv (.t 16)⟩,
 ⟨some 19, none, .idx 1 (.t 14) (.t 16)⟩,
 ⟨some 20, none, .ld (.t 19)⟩,
 ⟨some 10, none, .mv (.t 18)⟩,
 ⟨some 11, none, .mv (.t 20)⟩]) (
 .seq (
 .reg [⟨some 21, none, .fld 0 (.t 9)⟩,
 ⟨some 22, none, .ld (.t 21)⟩,
 ⟨some 23, none, .mv (.t 11)⟩,
 ⟨some 24, none, .call 70 [(.t 22), (.t 23)]⟩,
 ⟨some 25, none, .bin .geq (.t 24) (.c (.d (.int 0)))⟩]) (
 .cond (.t 25) (
 .draw [⟨some 26, none, .ldn 3 (.t 4)⟩,
 ⟨some 27, none, .ldn 3 (.t 9)⟩,
 ⟨some 28, none, .mv (.t 11)⟩,
 ⟨some 29, none, .mv (.t 3)⟩,
 ⟨some 30, none, .mv (.t 10)⟩,
 ⟨some 31, none, .idx 1 (.t 29) (.t 30)⟩,
 ⟨some 32, none, .ld (.t 31)⟩]
 [⟨some 33, none, .call 108 [(.t 26), (.t 27), (.t 28), (.t 32)]⟩,
 ⟨none, none, .st 3 (.t 9) (.t 33)⟩]) (
 .skip))))) (
 .reg [⟨some 34, none, .bin .add (.t 16) (.c (.d (.int 1)))⟩,
 ⟨some 16, none, .mv (.t 34)⟩])))

def C_spec_l09Fix : Fun := ⟨4, 36,
 .seq (
 .reg [⟨some 4, none, .box (.t 0)⟩,
 ⟨some 5, none, .box (.t 1)⟩,
 ⟨some 8, none, .zer [.nil, .nil, .nil]⟩]) (
 .seq (
 .reg [⟨some 12, none, .ldn 3 (.t 5)⟩,
 ⟨some 13, none, .call 107 [(.t 12)]⟩,
 ⟨some 9, none, .zer [.nil, .nil, .nil]⟩,
 ⟨none, none, .st 3 (.t 9) (.t 13)⟩]) (
 .seq (
 .seq (
 .reg [⟨some 14, none, .mv (.t 2)⟩,
 ⟨some 15, none, .len (.t 14)⟩,
 ⟨some 16, none, .mv (.c (.d (.int 0)))⟩]) (
 .block 0 (
 .loop L0_spec_l09Fix))) (
 .seq (
 .reg [⟨some 35, none, .ldn 3 (.t 9)⟩,
 ⟨none, none, .st 3 (.t 8) (.t 35)⟩]) (
 .ret)))),
 [.cell 8 3]⟩

theorem k_spec_l09Fix : cFun Try.prog Try.f81 = some C_spec_l09Fix.erase := by kernel_rfl

def L0_spec_l12Labels : C :=
 .seq (
 .seq (
 .reg [⟨some 6, none, .mv (.t 4)⟩,
 ⟨some 7, none, .bin .leq (.t 6) (.c (.d (.int 99)))⟩]) (
 .cond (.t 7) (
 .skip) (
 .exit 0))) (
 .seq (
 .block 1 (
 .seq (
 .reg [⟨some 10, none, .mv (.t 0)⟩,
 ⟨some 11, none, .mv (.t 4)⟩,
 ⟨some 12, none, .call 57 [(.t 10), (.t 11)]⟩,
 ⟨some 13, none, .bin .gtr (.t 12) (.c (.d (.int 0)))⟩]) (
 .cond (.t 13) (
 .reg [⟨some 14, none, .mv (.t 3)⟩,
 ⟨some 15, none, .mv (.t 4)⟩,
 ⟨some 16, none, .mksl 1 1 [.d (.int 0)] [(0, 1, (.t 15))]⟩,
 ⟨some 17, none, .app 1 8 [.d (.int 0)] (.t 14) (.t 16)⟩,
 ⟨some 3, none, .mv (.t 17)⟩]) (
 .skip)))) (
 .reg [⟨some 8, none, .mv (.t 4)⟩,
 ⟨some 9, none, .bin .add (.t 8) (.c (.d (.int 1)))⟩,
 ⟨some 4, none, .mv (.t 9)⟩]))

def C_spec_l12Labels : Fun := ⟨1, 19,
 .seq (
 .reg [⟨some 2, none, .mv (.c (.nil))⟩]) (
 .seq (
 .reg [⟨some 5, none, .mksl 1 0 [.d (.int 0)] []⟩,
 ⟨some 3, none, .mv (.t 5)⟩]) (
 .seq (
 .seq (
 .reg [⟨some 4, none, .mv (.c (.d (.int 0)))⟩]) (
 .block 0 (
 .loop L0_spec_l12Labels))) (
 .seq (
 .reg [⟨some 18, none, .mv (.t 3)⟩,
 ⟨some 2, none, .mv (.t 18)⟩]) (
 .ret)))),
 [.t 2]⟩

theorem k_spec_l12Labels : cFun Try.prog Try.f85 = some C_spec_l12Labels.erase := by kernel_rfl

def L0_impl_occurring : C :=
 .seq (
 .reg [⟨some 8, none, .bin .lss (.t 7) (.c (.d (.int 100)))⟩]) (
 .seq (
 .cond (.t 8) (
 .skip) (
 .exit 0)) (
 .seq (
 .block 1 (
 .seq (
 .reg [⟨some 9, none, .mv (.t 7)⟩,
 ⟨some 10, none, .ixa 100 (.t 6) (.t 7)⟩,
 ⟨some 4, none, .mv (.t 9)⟩,
 ⟨some 5, none, .mv (.t 10)⟩]) (
 .seq (
 .reg [⟨some 11, none, .mv (.t 5)⟩,
 ⟨some 12, none, .bin .neq (.t 11) (.c (.d (.int 0)))⟩]) (
 .cond (.t 12) (
 .reg [⟨some 13, none, .mv (.t 3)⟩,
 ⟨some 14, none, .mv (.t 4)⟩,
 ⟨some 15, none, .mksl 1 1 [.d (.int 0)] [(0, 1, (.t 14))]⟩,
 ⟨some 16, none, .app 1 8 [.d (.int 0)] (.t 13) (.t 15)⟩,
 ⟨some 3, none, .mv (.t 16)⟩]) (
 .skip))))) (
 .reg [⟨some 17, none, .bin .add (.t 7) (.c (.d (.int 1)))⟩,
 ⟨some 7, none, .mv (.t 17)⟩])))

def C_impl_occurring : Fun := ⟨1, 19,
 .seq (
 .reg [⟨some 1, none, .box (.t 0)⟩,
 ⟨some 2, none, .mv (.c (.nil))⟩]) (
 .seq (
 .reg [⟨some 3, none, .mv (.c (.nil))⟩]) (
 .seq (
 .seq (
 .reg [⟨some 6, none, .ldn 100 (.t 1)⟩,
 ⟨some 7, none, .mv (.c (.d (.int 0)))⟩]) (
 .block 0 (
 .loop L0_impl_occurring))) (
 .seq (
 .reg [⟨some 18, none, .mv (.t 3)⟩,
 ⟨some 2, none, .mv (.t 18)⟩]) (
 .ret)))),
 [.t 2]⟩

theorem k_impl_occurring : cFun Try.prog Try.f86 = some C_impl_occurring.erase := by kernel_rfl

def L0_laws_markTensorS : C :=
 .seq (
 .seq (
 .reg [⟨some 6, none, .mv (.t 5)⟩,
 ⟨some 7, none, .mv (.t 0)⟩,
 ⟨some 8, none, .len (.t 7)⟩,
 ⟨some 9, none, .bin .lss (.t 6) (.t 8)⟩]) (
 .cond (.t 9) (
 .skip) (
 .exit 0))) (
 .seq (
 .block 1 (
 .seq (
 .reg [⟨some 12, none, .mv (.t 0)⟩,
 ⟨some 13, none, .mv (.t 5)⟩,
 ⟨some 14, none, .idx 3 (.t 12) (.t 13)⟩,
 ⟨some 15, none, .fld 0 (.t 14)⟩,
 ⟨some 16, none, .ld (.t 15)⟩,
 ⟨some 17, none, .mv (.t 1)⟩,
 ⟨some 18, none, .call 33 [(.t 16), (.t 17)]⟩,
 ⟨some 1, none, .mv (.t 18)⟩]) (
 .seq (
 .reg [⟨some 19, none, .mv (.t 0)⟩,
 ⟨some 20, none, .mv (.t 5)⟩,
 ⟨some 21, none, .idx 3 (.t 19) (.t 20)⟩,
 ⟨some 22, none, .fld 1 (.t 21)⟩,
 ⟨some 23, none, .ld (.t 22)⟩,
 ⟨some 24, none, .mv (.t 1)⟩,
 ⟨some 25, none, .call 33 [(.t 23), (.t 24)]⟩,
 ⟨some 1, none, .mv (.t 25)⟩]) (
 .reg [⟨some 26, none, .mv (.t 0)⟩,
 ⟨some 27, none, .mv (.t 5)⟩,
 ⟨some 28, none, .idx 3 (.t 26) (.t 27)⟩,
 ⟨some 29, none, .fld 2 (.t 28)⟩,
 ⟨some 30, none, .ld (.t 29)⟩,
 ⟨some 31, none, .mv (.t 1)⟩,
 ⟨some 32, none, .call 33 [(.t 30), (.t 31)]⟩,
 ⟨some 1, none, .mv (.t 32)⟩])))) (
 .reg [⟨some 10, none, .mv (.t 5)⟩,
 ⟨some 11, none, .bin .add (.t 10) (.c (.d (.int 1)))⟩,
 ⟨some 5, none, .mv (.t 11)⟩]))

def C_laws_markTensorS : Fun := ⟨2, 34,
 .seq (
 .reg [⟨some 4, none, .mv (.c (.d (.int 0)))⟩]) (
 .seq (
 .seq (
 .reg [⟨some 5, none, .mv (.c (.d (.int 0)))⟩]) (
 .block 0 (
 .loop L0_laws_markTensorS))) (
 .seq (
 .reg [⟨some 33, none, .mv (.t 1)⟩,
 ⟨some 4, none, .mv (.t 33)⟩]) (
 .ret))),
 [.t 4]⟩

theorem k_laws_markTensorS : cFun Try.prog Try.f87 = some C_laws_markTensorS.erase := by kernel_rfl

def L0_spec_l12Uses : C :=
 .seq (
 .reg [⟨some 12, none, .bin .lss (.t 11) (.t 10)⟩]) (
 .seq (
 .cond (.t 12) (
 .skip) (
 .exit 0)) (
 .seq (
 .block 1 (
 .seq (
 .reg [⟨some 13, none, .mv (.t 11)⟩,
 ⟨some 14, none, .idx 3 (.t 9) (.t 11)⟩,
 ⟨some 15, none, .ldn 3 (.t 14)⟩,
 ⟨some 7, none, .zer [.nil, .nil, .nil]⟩,
 ⟨some 6, none, .mv (.t 13)⟩,
 ⟨none, none, .st 3 (.t 7) (.t 15)⟩]) (
 .seq (
 .reg [⟨some 16, none, .fld 0 (.t 7)⟩,
 ⟨some 17, none, .ld (.t 16)⟩,
 ⟨some 18, none, .mv (.t 1)⟩,
 ⟨some 19, none, .call 70 [(.t 17), (.t 18)]⟩,
 ⟨some 20, none, .bin .geq (.t 19) (.c (.d (.int 0)))⟩]) (
 .cond (.t 20) (
 .reg [⟨some 21, none, .mv (.t 5)⟩,
 ⟨some 22, none, .mv (.t 6)⟩,
 ⟨some 23, none, .mksl 1 1 [.d (.int 0)] [(0, 1, (.t 22))]⟩,
 ⟨some 24, none, .app 1 8 [.d (.int 0)] (.t 21) (.t 23)⟩,
 ⟨some 5, none, .mv (.t 24)⟩]) (
 .skip))))) (
 .reg [⟨some 25, none, .bin .add (.t 11) (.c (.d (.int 1)))⟩,
 ⟨some 11, none, .mv (.t 25)⟩])))

def C_spec_l12Uses : Fun := ⟨2, 27,
 .seq (
 .reg [⟨some 4, none, .mv (.c (.nil))⟩]) (
 .seq (
 .reg [⟨some 8, none, .mksl 1 0 [.d (.int 0)] []⟩,
 ⟨some 5, none, .mv (.t 8)⟩]) (
 .seq (
 .seq (
 .reg [⟨some 9, none, .mv (.t 0)⟩,
 ⟨some 10, none, .len (.t 9)⟩,
 ⟨some 11, none, .mv (.c (.d (.int 0)))⟩]) (
 .block 0 (
 .loop L0_spec_l12Uses))) (
 .seq (
 .reg [⟨some 26, none, .mv (.t 5)⟩,
 ⟨some 4, none, .mv (.t 26)⟩]) (
 .ret)))),
 [.t 4]⟩

theorem k_spec_l12Uses : cFun Try.prog Try.f88 = some C_spec_l12Uses.erase := by kernel_rfl

def L0_spec_l21Closed : C :=
 .seq (
 .reg [⟨some 12, none, .bin .lss (.t 11) (.t 10)⟩]) (
 .seq (
 .cond (.t 12) (
 .skip) (
 .exit 0)) (
 .seq (
 .block 1 (
 .seq (
 .reg [⟨some 13, none, .idx 1 (.t 9) (.t 11)⟩,
 ⟨some 14, none, .ld (.t 13)⟩,
 ⟨some 5, none, .mv (.t 14)⟩]) (
 .seq (
 .reg [⟨some 15, none, .fld 4 (.t 1)⟩,
 ⟨some 16, none, .ld (.t 15)⟩,
 ⟨some 17, none, .mv (.t 5)⟩,
 ⟨some 18, none, .call 70 [(.t 16), (.t 17)]⟩,
 ⟨some 19, none, .bin .lss (.t 18) (.c (.d (.int 0)))⟩]) (
 .cond (.t 19) (
 .reg [⟨some 20, none, .mv (.t 3)⟩,
 ⟨some 21, none, .mv (.t 5)⟩,
 ⟨some 22, none, .mksl 1 1 [.d (.int 0)] [(0, 1, (.t 21))]⟩,
 ⟨some 23, none, .app 1 8 [.d (.int 0)] (.t 20) (.t 22)⟩,
 ⟨some 3, none, .mv (.t 23)⟩]) (
 .skip))))) (
 .reg [⟨some 24, none, .bin .add (.t 11) (.c (.d (.int 1)))⟩,
 ⟨some 11, none, .mv (.t 24)⟩])))

def C_spec_l21Closed : Fun := ⟨1, 26,
 .seq (
 .reg [⟨some 1, none, .box (.t 0)⟩,
 ⟨some 2, none, .mv (.c (.nil))⟩]) (
 .seq (
 .reg [⟨some 6, none, .mksl 1 0 [.d (.int 0)] []⟩,
 ⟨some 3, none, .mv (.t 6)⟩]) (
 .seq (
 .seq (
 .reg [⟨some 7, none, .fld 3 (.t 1)⟩,
 ⟨some 8, none, .ld (.t 7)⟩,
 ⟨some 9, none, .call 85 [(.t 8)]⟩,
 ⟨some 10, none, .len (.t 9)⟩,
 ⟨some 11, none, .mv (.c (.d (.int 0)))⟩]) (
 .block 0 (
 .loop L0_spec_l21Closed))) (
 .seq (
 .reg [⟨some 25, none, .mv (.t 3)⟩,
 ⟨some 2, none, .mv (.t 25)⟩]) (
 .ret)))),
 [.t 2]⟩

theorem k_spec_l21Closed : cFun Try.prog Try.f90 = some C_spec_l21Closed.erase := by kernel_rfl

def L0_spec_l13Meet : C :=
 .seq (
 .reg [⟨some 11, none, .bin .lss (.t 10) (.t 9)⟩]) (
 .seq (
 .cond (.t 11) (
 .skip) (
 .exit 0)) (
 .seq (
 .block 1 (
 .seq (
 .reg [⟨some 12, none, .idx 1 (.t 8) (.t 10)⟩,
 ⟨some 13, none, .ld (.t 12)⟩,
 ⟨some 6, none, .mv (.t 13)⟩]) (
 .seq (
 .reg [⟨some 14, none, .fld 0 (.t 3)⟩,
 ⟨some 15, none, .ld (.t 14)⟩,
 ⟨some 16, none, .mv (.t 6)⟩,
 ⟨some 17, none, .call 70 [(.t 15), (.t 16)]⟩,
 ⟨some 18, none, .bin .geq (.t 17) (.c (.d (.int 0)))⟩]) (
 .cond (.t 18) (
 .seq (
 .reg [⟨some 4, none, .mv (.c (.d (.bool true)))⟩]) (
 .ret)) (
 .skip))))) (
 .reg [⟨some 19, none, .bin .add (.t 10) (.c (.d (.int 1)))⟩,
 ⟨some 10, none, .mv (.t 19)⟩])))

def C_spec_l13Meet : Fun := ⟨2, 20,
 .seq (
 .reg [⟨some 2, none, .box (.t 0)⟩,
 ⟨some 3, none, .box (.t 1)⟩,
 ⟨some 4, none, .mv (.c (.d (.bool false)))⟩]) (
 .seq (
 .seq (
 .reg [⟨some 7, none, .fld 0 (.t 2)⟩,
 ⟨some 8, none, .ld (.t 7)⟩,
 ⟨some 9, none, .len (.t 8)⟩,
 ⟨some 10, none, .mv (.c (.d (.int 0)))⟩]) (
 .block 0 (
 .loop L0_spec_l13Meet))) (
 .seq (
 .reg [⟨some 4, none, .mv (.c (.d (.bool false)))⟩]) (
 .ret))),
 [.t 4]⟩

theorem k_spec_l13Meet : cFun Try.prog Try.f92 = some C_spec_l13Meet.erase := by kernel_rfl

def L0_impl_shareLabel : C :=
 .seq (
 .reg [⟨some 10, none, .bin .lss (.t 9) (.t 8)⟩]) (
 .seq (
 .cond (.t 10) (
 .skip) (
 .exit 0)) (
 .seq (
 .block 1 (
 .seq (
 .reg [⟨some 11, none, .idx 1 (.t 7) (.t 9)⟩,
 ⟨some 12, none, .ld (.t 11)⟩,
 ⟨some 6, none, .mv (.t 12)⟩]) (
 .seq (
 .reg [⟨some 13, none, .mv (.t 1)⟩,
 ⟨some 14, none, .mv (.t 6)⟩,
 ⟨some 15, none, .call 84 [(.t 13), (.t 14)]⟩]) (
 .cond (.t 15) (
 .seq (
 .reg [⟨some 4, none, .mv (.c (.d (.bool true)))⟩]) (
 .ret)) (
 .skip))))) (
 .reg [⟨some 16, none, .bin .add (.t 9) (.c (.d (.int 1)))⟩,
 ⟨some 9, none, .mv (.t 16)⟩])))

def C_impl_shareLabel : Fun := ⟨2, 17,
 .seq (
 .reg [⟨some 4, none, .mv (.c (.d (.bool false)))⟩]) (
 .seq (
 .seq (
 .reg [⟨some 7, none, .mv (.t 0)⟩,
 ⟨some 8, none, .len (.t 7)⟩,
 ⟨some 9, none, .mv (.c (.d (.int 0)))⟩]) (
 .block 0 (
 .loop L0_impl_shareLabel))) (
 .seq (
 .reg [⟨some 4, none, .mv (.c (.d (.bool false)))⟩]) (
 .ret))),
 [.t 4]⟩

theorem k_impl_shareLabel : cFun Try.prog Try.f93 = some C_impl_shareLabel.erase := by kernel_rfl
end Go.Proofs.Ytbebaoibniajpaa
