/-
  The compiled code of functions of the seat (written by mkcode.py). No condition.
-/
import Derived.Test.YtjoopfojiiklnaaLiftE
import Derived.Test.YtjoopfojiiklnaaProg
import Derived.KernelRfl
namespace Go.Proofs.Ytjoopfojiiklnaa
open Go.Lift

def C_laws_szNetwork : Fun := ⟨2, 18,
 .seq (
 .reg [⟨some 2, none, .box (.t 0)⟩,
 ⟨some 4, none, .mv (.c (.d (.int 0)))⟩]) (
 .seq (
 .reg [⟨some 5, none, .fld 3 (.t 2)⟩,
 ⟨some 6, none, .ld (.t 5)⟩,
 ⟨some 7, none, .mv (.t 1)⟩,
 ⟨some 8, none, .call 52 [(.t 6), (.t 7)]⟩,
 ⟨some 1, none, .mv (.t 8)⟩]) (
 .seq (
 .seq (
 .reg [⟨some 9, none, .mv (.t 1)⟩,
 ⟨some 10, none, .bin .lss (.t 9) (.c (.d (.int 0)))⟩]) (
 .cond (.t 10) (
 .seq (
 .reg [⟨some 4, none, .mv (.c (.d (.int (-1))))⟩]) (
 .ret)) (
 .skip))) (
 .seq (
 .reg [⟨some 11, none, .fld 4 (.t 2)⟩,
 ⟨some 12, none, .ld (.t 11)⟩,
 ⟨some 13, none, .mv (.t 1)⟩,
 ⟨some 14, none, .call 67 [(.t 12), (.t 13)]⟩,
 ⟨some 1, none, .mv (.t 14)⟩]) (
 .seq (
 .seq (
 .reg [⟨some 15, none, .mv (.t 1)⟩,
 ⟨some 16, none, .bin .lss (.t 15) (.c (.d (.int 0)))⟩]) (
 .cond (.t 16) (
 .seq (
 .reg [⟨some 4, none, .mv (.c (.d (.int (-1))))⟩]) (
 .ret)) (
 .skip))) (
 .seq (
 .reg [⟨some 17, none, .mv (.t 1)⟩,
 ⟨some 4, none, .mv (.t 17)⟩]) (
 .ret)))))),
 [.t 4]⟩

theorem k_laws_szNetwork : cFun Try.prog Try.f15 = some C_laws_szNetwork.erase := by kernel_rfl

def L0_spec_NetworkOk : C :=
 .seq (
 .reg [⟨some 35, none, .bin .lss (.t 34) (.t 33)⟩]) (
 .seq (
 .cond (.t 35) (
 .skip) (
 .exit 2)) (
 .seq (
 .block 3 (
 .seq (
 .reg [⟨some 36, none, .mv (.t 34)⟩,
 ⟨some 37, none, .idx 1 (.t 32) (.t 34)⟩,
 ⟨some 38, none, .ld (.t 37)⟩,
 ⟨some 5, none, .mv (.t 36)⟩,
 ⟨some 6, none, .mv (.t 38)⟩]) (
 .seq (
 .reg [⟨some 39, none, .fld 3 (.t 1)⟩,
 ⟨some 40, none, .ld (.t 39)⟩,
 ⟨some 41, none, .mv (.t 3)⟩,
 ⟨some 42, none, .slc 3 (.t 40) none (some (.t 41))⟩,
 ⟨some 43, none, .mv (.t 6)⟩,
 ⟨some 44, none, .call 108 [(.t 42), (.t 43)]⟩,
 ⟨some 7, none, .mv (.t 44)⟩]) (
 .seq (
 .reg [⟨some 45, none, .mv (.t 7)⟩,
 ⟨some 46, none, .bin .gtr (.t 45) (.c (.d (.int 0)))⟩,
 ⟨some 47, none, .mv (.t 46)⟩,
 ⟨some 48, some (47, true), .mv (.t 7)⟩,
 ⟨some 49, some (47, true), .fld 1 (.t 4)⟩,
 ⟨some 50, some (47, true), .ld (.t 49)⟩,
 ⟨some 51, some (47, true), .mv (.t 5)⟩,
 ⟨some 52, some (47, true), .idx 1 (.t 50) (.t 51)⟩,
 ⟨some 53, some (47, true), .ld (.t 52)⟩,
 ⟨some 54, some (47, true), .bin .neq (.t 48) (.t 53)⟩,
 ⟨some 55, none, .pick (.t 47) (.t 54) (.c (.d (.bool false)))⟩]) (
 .cond (.t 55) (
 .seq (
 .reg [⟨some 2, none, .mv (.c (.d (.bool false)))⟩]) (
 .ret)) (
 .skip)))))) (
 .reg [⟨some 56, none, .bin .add (.t 34) (.c (.d (.int 1)))⟩,
 ⟨some 34, none, .mv (.t 56)⟩])))

def L1_spec_NetworkOk : C :=
 .seq (
 .reg [⟨some 22, none, .bin .lss (.t 21) (.t 20)⟩]) (
 .seq (
 .cond (.t 22) (
 .skip) (
 .exit 0)) (
 .seq (
 .block 1 (
 .seq (
 .reg [⟨some 23, none, .mv (.t 21)⟩,
 ⟨some 24, none, .idx 3 (.t 19) (.t 21)⟩,
 ⟨some 25, none, .ldn 3 (.t 24)⟩,
 ⟨some 4, none, .zer [.nil, .nil, .nil]⟩,
 ⟨some 3, none, .mv (.t 23)⟩,
 ⟨none, none, .st 3 (.t 4) (.t 25)⟩]) (
 .seq (
 .seq (
 .reg [⟨some 26, none, .fld 0 (.t 1)⟩,
 ⟨some 27, none, .ldn 3 (.t 26)⟩,
 ⟨some 28, none, .ldn 3 (.t 4)⟩,
 ⟨some 29, none, .call 91 [(.t 27), (.t 28)]⟩,
 ⟨some 30, none, .not (.t 29)⟩]) (
 .cond (.t 30) (
 .seq (
 .reg [⟨some 2, none, .mv (.c (.d (.bool false)))⟩]) (
 .ret)) (
 .skip))) (
 .seq (
 .reg [⟨some 31, none, .fld 0 (.t 4)⟩,
 ⟨some 32, none, .ld (.t 31)⟩,
 ⟨some 33, none, .len (.t 32)⟩,
 ⟨some 34, none, .mv (.c (.d (.int 0)))⟩]) (
 .block 2 (
 .loop L0_spec_NetworkOk)))))) (
 .reg [⟨some 57, none, .bin .add (.t 21) (.c (.d (.int 1)))⟩,
 ⟨some 21, none, .mv (.t 57)⟩])))

def C_spec_NetworkOk : Fun := ⟨1, 68,
 .seq (
 .reg [⟨some 1, none, .box (.t 0)⟩,
 ⟨some 2, none, .mv (.c (.d (.bool false)))⟩]) (
 .seq (
 .seq (
 .reg [⟨some 8, none, .fld 0 (.t 1)⟩,
 ⟨some 9, none, .ldn 3 (.t 8)⟩,
 ⟨some 10, none, .call 98 [(.t 9)]⟩,
 ⟨some 11, none, .not (.t 10)⟩,
 ⟨some 12, none, .mv (.t 11)⟩,
 ⟨some 13, some (12, false), .fld 3 (.t 1)⟩,
 ⟨some 14, some (12, false), .ld (.t 13)⟩,
 ⟨some 15, some (12, false), .len (.t 14)⟩,
 ⟨some 16, some (12, false), .bin .gtr (.t 15) (.c (.d (.int 12)))⟩,
 ⟨some 17, none, .pick (.t 12) (.c (.d (.bool true))) (.t 16)⟩]) (
 .cond (.t 17) (
 .seq (
 .reg [⟨some 2, none, .mv (.c (.d (.bool false)))⟩]) (
 .ret)) (
 .skip))) (
 .seq (
 .seq (
 .reg [⟨some 18, none, .fld 3 (.t 1)⟩,
 ⟨some 19, none, .ld (.t 18)⟩,
 ⟨some 20, none, .len (.t 19)⟩,
 ⟨some 21, none, .mv (.c (.d (.int 0)))⟩]) (
 .block 0 (
 .loop L1_spec_NetworkOk))) (
 .seq (
 .draw [⟨some 58, none, .fld 4 (.t 1)⟩,
 ⟨some 59, none, .ld (.t 58)⟩,
 ⟨some 60, none, .fld 3 (.t 1)⟩,
 ⟨some 61, none, .ld (.t 60)⟩,
 ⟨some 62, none, .fld 4 (.t 1)⟩,
 ⟨some 63, none, .ld (.t 62)⟩,
 ⟨some 64, none, .call 113 [(.t 61), (.t 63)]⟩]
 [⟨some 65, none, .agg [.nil, .nil, .nil] [(0, 1, (.t 59)), (1, 1, (.t 64))]⟩,
 ⟨some 66, none, .call 100 [(.t 65)]⟩,
 ⟨some 67, none, .bin .geq (.t 66) (.c (.d (.int 0)))⟩,
 ⟨some 2, none, .mv (.t 67)⟩]) (
 .ret)))),
 [.t 2]⟩

theorem k_spec_NetworkOk : cFun Try.prog Try.f68 = some C_spec_NetworkOk.erase := by kernel_rfl

def C_laws_toNetwork : Fun := ⟨1, 17,
 .seq (
 .reg [⟨some 1, none, .box (.t 0)⟩,
 ⟨some 2, none, .zer [.d (.int 0), .d (.int 0), .d (.int 0), .nil, .nil]⟩]) (
 .seq (
 .reg [⟨some 3, none, .zer [.d (.int 0), .d (.int 0), .d (.int 0), .nil, .nil]⟩]) (
 .seq (
 .reg [⟨some 4, none, .fld 0 (.t 1)⟩,
 ⟨some 5, none, .ldn 3 (.t 4)⟩,
 ⟨some 6, none, .call 45 [(.t 5)]⟩,
 ⟨some 7, none, .fld 0 (.t 3)⟩,
 ⟨none, none, .st 3 (.t 7) (.t 6)⟩]) (
 .seq (
 .reg [⟨some 8, none, .fld 3 (.t 1)⟩,
 ⟨some 9, none, .ld (.t 8)⟩,
 ⟨some 10, none, .call 54 [(.t 9)]⟩,
 ⟨some 11, none, .fld 3 (.t 3)⟩,
 ⟨none, none, .st 1 (.t 11) (.t 10)⟩]) (
 .seq (
 .reg [⟨some 12, none, .fld 4 (.t 1)⟩,
 ⟨some 13, none, .ld (.t 12)⟩,
 ⟨some 14, none, .call 32 [(.t 13)]⟩,
 ⟨some 15, none, .fld 4 (.t 3)⟩,
 ⟨none, none, .st 1 (.t 15) (.t 14)⟩]) (
 .seq (
 .reg [⟨some 16, none, .ldn 5 (.t 3)⟩,
 ⟨none, none, .st 5 (.t 2) (.t 16)⟩]) (
 .ret)))))),
 [.cell 2 5]⟩

theorem k_laws_toNetwork : cFun Try.prog Try.f17 = some C_laws_toNetwork.erase := by kernel_rfl

def L0_impl_NetworkOk : C :=
 .seq (
 .reg [⟨some 50, none, .bin .lss (.t 49) (.t 48)⟩]) (
 .seq (
 .cond (.t 50) (
 .skip) (
 .exit 2)) (
 .seq (
 .block 3 (
 .seq (
 .reg [⟨some 51, none, .idx 1 (.t 47) (.t 49)⟩,
 ⟨some 52, none, .ld (.t 51)⟩,
 ⟨some 8, none, .mv (.t 52)⟩]) (
 .seq (
 .reg [⟨some 53, none, .mv (.t 8)⟩,
 ⟨some 54, none, .bin .lss (.t 53) (.c (.d (.int 0)))⟩,
 ⟨some 55, none, .mv (.t 54)⟩,
 ⟨some 56, some (55, false), .mv (.t 8)⟩,
 ⟨some 57, some (55, false), .bin .gtr (.t 56) (.c (.d (.int 99)))⟩,
 ⟨some 58, none, .pick (.t 55) (.c (.d (.bool true))) (.t 57)⟩,
 ⟨some 59, none, .mv (.t 58)⟩,
 ⟨some 60, some (59, false), .mv (.t 8)⟩,
 ⟨some 61, some (59, false), .aix 1 100 (.t 5) (.t 60)⟩,
 ⟨some 62, some (59, false), .ld (.t 61)⟩,
 ⟨some 63, some (59, false), .bin .eql (.t 62) (.c (.d (.int 0)))⟩,
 ⟨some 64, none, .pick (.t 59) (.c (.d (.bool true))) (.t 63)⟩]) (
 .cond (.t 64) (
 .seq (
 .reg [⟨some 2, none, .mv (.c (.d (.bool false)))⟩]) (
 .ret)) (
 .skip))))) (
 .reg [⟨some 65, none, .bin .add (.t 49) (.c (.d (.int 1)))⟩,
 ⟨some 49, none, .mv (.t 65)⟩])))

def L1_impl_NetworkOk : C :=
 .seq (
 .reg [⟨some 29, none, .bin .lss (.t 28) (.t 27)⟩]) (
 .seq (
 .cond (.t 29) (
 .skip) (
 .exit 0)) (
 .seq (
 .block 1 (
 .seq (
 .reg [⟨some 30, none, .idx 3 (.t 26) (.t 28)⟩,
 ⟨some 31, none, .ldn 3 (.t 30)⟩,
 ⟨some 4, none, .zer [.nil, .nil, .nil]⟩,
 ⟨none, none, .st 3 (.t 4) (.t 31)⟩]) (
 .seq (
 .reg [⟨some 32, none, .fld 0 (.t 1)⟩,
 ⟨some 33, none, .ldn 3 (.t 32)⟩,
 ⟨some 34, none, .ldn 3 (.t 4)⟩,
 ⟨some 35, none, .call 94 [(.t 33), (.t 34)]⟩,
 ⟨some 36, none, .not (.t 35)⟩]) (
 .cond (.t 36) (
 .seq (
 .reg [⟨some 2, none, .mv (.c (.d (.bool false)))⟩]) (
 .ret)) (
 .skip))))) (
 .reg [⟨some 37, none, .bin .add (.t 28) (.c (.d (.int 1)))⟩,
 ⟨some 28, none, .mv (.t 37)⟩])))

def C_impl_NetworkOk : Fun := ⟨1, 72,
 .seq (
 .reg [⟨some 1, none, .box (.t 0)⟩,
 ⟨some 2, none, .mv (.c (.d (.bool false)))⟩]) (
 .seq (
 .seq (
 .reg [⟨some 9, none, .fld 0 (.t 1)⟩,
 ⟨some 10, none, .ldn 3 (.t 9)⟩,
 ⟨some 11, none, .call 103 [(.t 10)]⟩,
 ⟨some 12, none, .not (.t 11)⟩,
 ⟨some 13, none, .mv (.t 12)⟩,
 ⟨some 14, some (13, false), .fld 3 (.t 1)⟩,
 ⟨some 15, some (13, false), .ld (.t 14)⟩,
 ⟨some 16, some (13, false), .len (.t 15)⟩,
 ⟨some 17, some (13, false), .bin .gtr (.t 16) (.c (.d (.int 12)))⟩,
 ⟨some 18, none, .pick (.t 13) (.c (.d (.bool true))) (.t 17)⟩,
 ⟨some 19, none, .mv (.t 18)⟩,
 ⟨some 20, some (19, false), .fld 4 (.t 1)⟩,
 ⟨some 21, some (19, false), .ld (.t 20)⟩,
 ⟨some 22, some (19, false), .len (.t 21)⟩,
 ⟨some 23, some (19, false), .bin .gtr (.t 22) (.c (.d (.int 12)))⟩,
 ⟨some 24, none, .pick (.t 19) (.c (.d (.bool true))) (.t 23)⟩]) (
 .cond (.t 24) (
 .seq (
 .reg [⟨some 2, none, .mv (.c (.d (.bool false)))⟩]) (
 .ret)) (
 .skip))) (
 .seq (
 .seq (
 .reg [⟨some 25, none, .fld 3 (.t 1)⟩,
 ⟨some 26, none, .ld (.t 25)⟩,
 ⟨some 27, none, .len (.t 26)⟩,
 ⟨some 28, none, .mv (.c (.d (.int 0)))⟩]) (
 .block 0 (
 .loop L1_impl_NetworkOk))) (
 .seq (
 .reg [⟨some 39, none, .fld 3 (.t 1)⟩,
 ⟨some 40, none, .ld (.t 39)⟩,
 ⟨some 41, none, .call 114 [(.t 40)]⟩,
 ⟨some 38, none, .mv (.t 41)⟩,
 ⟨some 42, none, .ext 0 (.t 38)⟩,
 ⟨some 43, none, .ext 1 (.t 38)⟩,
 ⟨some 5, none, .zer (reps 100 (.d (.int 0)))⟩,
 ⟨none, none, .st 100 (.t 5) (.t 42)⟩,
 ⟨some 6, none, .mv (.t 43)⟩]) (
 .seq (
 .seq (
 .reg [⟨some 44, none, .mv (.t 6)⟩,
 ⟨some 45, none, .not (.t 44)⟩]) (
 .cond (.t 45) (
 .seq (
 .reg [⟨some 2, none, .mv (.c (.d (.bool false)))⟩]) (
 .ret)) (
 .skip))) (
 .seq (
 .seq (
 .reg [⟨some 46, none, .fld 4 (.t 1)⟩,
 ⟨some 47, none, .ld (.t 46)⟩,
 ⟨some 48, none, .len (.t 47)⟩,
 ⟨some 49, none, .mv (.c (.d (.int 0)))⟩]) (
 .block 2 (
 .loop L0_impl_NetworkOk))) (
 .seq (
 .reg [⟨some 66, none, .ldn 100 (.t 5)⟩,
 ⟨some 67, none, .fld 4 (.t 1)⟩,
 ⟨some 68, none, .ld (.t 67)⟩,
 ⟨some 69, none, .call 115 [(.t 66), (.t 68)]⟩,
 ⟨some 70, none, .call 105 [(.t 69)]⟩,
 ⟨some 71, none, .bin .neq (.t 70) (.c (.d (.int (-1))))⟩,
 ⟨some 2, none, .mv (.t 71)⟩]) (
 .ret))))))),
 [.t 2]⟩

theorem k_impl_NetworkOk : cFun Try.prog Try.f70 = some C_impl_NetworkOk.erase := by kernel_rfl

def C_laws_eqNetwork : Fun := ⟨2, 23,
 .seq (
 .reg [⟨some 2, none, .box (.t 0)⟩,
 ⟨some 3, none, .box (.t 1)⟩,
 ⟨some 4, none, .mv (.c (.d (.bool false)))⟩]) (
 .seq (
 .seq (
 .reg [⟨some 5, none, .fld 0 (.t 2)⟩,
 ⟨some 6, none, .ldn 3 (.t 5)⟩,
 ⟨some 7, none, .fld 0 (.t 3)⟩,
 ⟨some 8, none, .ldn 3 (.t 7)⟩,
 ⟨some 9, none, .call 71 [(.t 6), (.t 8)]⟩,
 ⟨some 10, none, .not (.t 9)⟩]) (
 .cond (.t 10) (
 .seq (
 .reg [⟨some 4, none, .mv (.c (.d (.bool false)))⟩]) (
 .ret)) (
 .skip))) (
 .seq (
 .seq (
 .reg [⟨some 11, none, .fld 3 (.t 2)⟩,
 ⟨some 12, none, .ld (.t 11)⟩,
 ⟨some 13, none, .fld 3 (.t 3)⟩,
 ⟨some 14, none, .ld (.t 13)⟩,
 ⟨some 15, none, .call 56 [(.t 12), (.t 14)]⟩,
 ⟨some 16, none, .not (.t 15)⟩]) (
 .cond (.t 16) (
 .seq (
 .reg [⟨some 4, none, .mv (.c (.d (.bool false)))⟩]) (
 .ret)) (
 .skip))) (
 .seq (
 .seq (
 .reg [⟨some 17, none, .fld 4 (.t 2)⟩,
 ⟨some 18, none, .ld (.t 17)⟩,
 ⟨some 19, none, .fld 4 (.t 3)⟩,
 ⟨some 20, none, .ld (.t 19)⟩,
 ⟨some 21, none, .call 22 [(.t 18), (.t 20)]⟩,
 ⟨some 22, none, .not (.t 21)⟩]) (
 .cond (.t 22) (
 .seq (
 .reg [⟨some 4, none, .mv (.c (.d (.bool false)))⟩]) (
 .ret)) (
 .skip))) (
 .seq (
 .reg [⟨some 4, none, .mv (.c (.d (.bool true)))⟩]) (
 .ret))))),
 [.t 4]⟩

theorem k_laws_eqNetwork : cFun Try.prog Try.f19 = some C_laws_eqNetwork.erase := by kernel_rfl

def L0_laws_szTensorS : C :=
 .seq (
 .seq (
 .reg [⟨some 12, none, .mv (.t 5)⟩,
 ⟨some 13, none, .mv (.t 0)⟩,
 ⟨some 14, none, .len (.t 13)⟩,
 ⟨some 15, none, .bin .lss (.t 12) (.t 14)⟩]) (
 .cond (.t 15) (
 .skip) (
 .exit 0))) (
 .seq (
 .block 1 (
 .seq (
 .reg [⟨some 18, none, .mv (.t 0)⟩,
 ⟨some 19, none, .mv (.t 5)⟩,
 ⟨some 20, none, .idx 3 (.t 18) (.t 19)⟩,
 ⟨some 21, none, .ldn 3 (.t 20)⟩,
 ⟨some 22, none, .mv (.t 1)⟩,
 ⟨some 23, none, .call 43 [(.t 21), (.t 22)]⟩,
 ⟨some 1, none, .mv (.t 23)⟩]) (
 .seq (
 .reg [⟨some 24, none, .mv (.t 1)⟩,
 ⟨some 25, none, .bin .lss (.t 24) (.c (.d (.int 0)))⟩]) (
 .cond (.t 25) (
 .seq (
 .reg [⟨some 4, none, .mv (.c (.d (.int (-1))))⟩]) (
 .ret)) (
 .skip))))) (
 .reg [⟨some 16, none, .mv (.t 5)⟩,
 ⟨some 17, none, .bin .add (.t 16) (.c (.d (.int 1)))⟩,
 ⟨some 5, none, .mv (.t 17)⟩]))

def C_laws_szTensorS : Fun := ⟨2, 27,
 .seq (
 .reg [⟨some 4, none, .mv (.c (.d (.int 0)))⟩]) (
 .seq (
 .reg [⟨some 6, none, .mv (.t 1)⟩,
 ⟨some 7, none, .mv (.t 0)⟩,
 ⟨some 8, none, .len (.t 7)⟩,
 ⟨some 9, none, .bin .sub (.t 6) (.t 8)⟩,
 ⟨some 1, none, .mv (.t 9)⟩]) (
 .seq (
 .seq (
 .reg [⟨some 10, none, .mv (.t 1)⟩,
 ⟨some 11, none, .bin .lss (.t 10) (.c (.d (.int 0)))⟩]) (
 .cond (.t 11) (
 .seq (
 .reg [⟨some 4, none, .mv (.c (.d (.int (-1))))⟩]) (
 .ret)) (
 .skip))) (
 .seq (
 .seq (
 .reg [⟨some 5, none, .mv (.c (.d (.int 0)))⟩]) (
 .block 0 (
 .loop L0_laws_szTensorS))) (
 .seq (
 .reg [⟨some 26, none, .mv (.t 1)⟩,
 ⟨some 4, none, .mv (.t 26)⟩]) (
 .ret))))),
 [.t 4]⟩

theorem k_laws_szTensorS : cFun Try.prog Try.f52 = some C_laws_szTensorS.erase := by kernel_rfl

def L0_spec_l12Dim : C :=
 .seq (
 .reg [⟨some 11, none, .bin .lss (.t 10) (.t 9)⟩]) (
 .seq (
 .cond (.t 11) (
 .skip) (
 .exit 0)) (
 .seq (
 .block 1 (
 .seq (
 .reg [⟨some 12, none, .idx 3 (.t 8) (.t 10)⟩,
 ⟨some 13, none, .ldn 3 (.t 12)⟩,
 ⟨some 6, none, .zer [.nil, .nil, .nil]⟩,
 ⟨none, none, .st 3 (.t 6) (.t 13)⟩]) (
 .seq (
 .reg [⟨some 14, none, .fld 0 (.t 6)⟩,
 ⟨some 15, none, .ld (.t 14)⟩,
 ⟨some 16, none, .mv (.t 1)⟩,
 ⟨some 17, none, .call 82 [(.t 15), (.t 16)]⟩,
 ⟨some 7, none, .mv (.t 17)⟩]) (
 .seq (
 .reg [⟨some 18, none, .mv (.t 7)⟩,
 ⟨some 19, none, .bin .geq (.t 18) (.c (.d (.int 0)))⟩]) (
 .cond (.t 19) (
 .seq (
 .reg [⟨some 20, none, .fld 1 (.t 6)⟩,
 ⟨some 21, none, .ld (.t 20)⟩,
 ⟨some 22, none, .mv (.t 7)⟩,
 ⟨some 23, none, .idx 1 (.t 21) (.t 22)⟩,
 ⟨some 24, none, .ld (.t 23)⟩,
 ⟨some 4, none, .mv (.t 24)⟩]) (
 .ret)) (
 .skip)))))) (
 .reg [⟨some 25, none, .bin .add (.t 10) (.c (.d (.int 1)))⟩,
 ⟨some 10, none, .mv (.t 25)⟩])))

def C_spec_l12Dim : Fun := ⟨2, 26,
 .seq (
 .reg [⟨some 4, none, .mv (.c (.d (.int 0)))⟩]) (
 .seq (
 .seq (
 .reg [⟨some 8, none, .mv (.t 0)⟩,
 ⟨some 9, none, .len (.t 8)⟩,
 ⟨some 10, none, .mv (.c (.d (.int 0)))⟩]) (
 .block 0 (
 .loop L0_spec_l12Dim))) (
 .seq (
 .reg [⟨some 4, none, .mv (.c (.d (.int 0)))⟩]) (
 .ret))),
 [.t 4]⟩

theorem k_spec_l12Dim : cFun Try.prog Try.f108 = some C_spec_l12Dim.erase := by kernel_rfl

def L0_spec_l12Dims : C :=
 .seq (
 .reg [⟨some 12, none, .bin .lss (.t 11) (.t 10)⟩]) (
 .seq (
 .cond (.t 12) (
 .skip) (
 .exit 0)) (
 .seq (
 .block 1 (
 .seq (
 .reg [⟨some 13, none, .idx 1 (.t 9) (.t 11)⟩,
 ⟨some 14, none, .ld (.t 13)⟩,
 ⟨some 7, none, .mv (.t 14)⟩]) (
 .reg [⟨some 15, none, .mv (.t 5)⟩,
 ⟨some 16, none, .mv (.t 0)⟩,
 ⟨some 17, none, .mv (.t 7)⟩,
 ⟨some 18, none, .call 108 [(.t 16), (.t 17)]⟩,
 ⟨some 19, none, .mksl 1 1 [.d (.int 0)] [(0, 1, (.t 18))]⟩,
 ⟨some 20, none, .app 1 8 [.d (.int 0)] (.t 15) (.t 19)⟩,
 ⟨some 5, none, .mv (.t 20)⟩]))) (
 .reg [⟨some 21, none, .bin .add (.t 11) (.c (.d (.int 1)))⟩,
 ⟨some 11, none, .mv (.t 21)⟩])))

def C_spec_l12Dims : Fun := ⟨2, 23,
 .seq (
 .reg [⟨some 4, none, .mv (.c (.nil))⟩]) (
 .seq (
 .reg [⟨some 8, none, .mksl 1 0 [.d (.int 0)] []⟩,
 ⟨some 5, none, .mv (.t 8)⟩]) (
 .seq (
 .seq (
 .reg [⟨some 9, none, .mv (.t 1)⟩,
 ⟨some 10, none, .len (.t 9)⟩,
 ⟨some 11, none, .mv (.c (.d (.int 0)))⟩]) (
 .block 0 (
 .loop L0_spec_l12Dims))) (
 .seq (
 .reg [⟨some 22, none, .mv (.t 5)⟩,
 ⟨some 4, none, .mv (.t 22)⟩]) (
 .ret)))),
 [.t 4]⟩

theorem k_spec_l12Dims : cFun Try.prog Try.f113 = some C_spec_l12Dims.erase := by kernel_rfl

def L0_laws_toTensorS : C :=
 .seq (
 .seq (
 .reg [⟨some 8, none, .mv (.t 4)⟩,
 ⟨some 9, none, .mv (.t 0)⟩,
 ⟨some 10, none, .len (.t 9)⟩,
 ⟨some 11, none, .bin .lss (.t 8) (.t 10)⟩]) (
 .cond (.t 11) (
 .skip) (
 .exit 0))) (
 .seq (
 .block 1 (
 .reg [⟨some 14, none, .mv (.t 3)⟩,
 ⟨some 15, none, .mv (.t 4)⟩,
 ⟨some 16, none, .mv (.t 0)⟩,
 ⟨some 17, none, .mv (.t 4)⟩,
 ⟨some 18, none, .idx 3 (.t 16) (.t 17)⟩,
 ⟨some 19, none, .ldn 3 (.t 18)⟩,
 ⟨some 20, none, .call 47 [(.t 19)]⟩,
 ⟨some 21, none, .idx 3 (.t 14) (.t 15)⟩,
 ⟨none, none, .st 3 (.t 21) (.t 20)⟩])) (
 .reg [⟨some 12, none, .mv (.t 4)⟩,
 ⟨some 13, none, .bin .add (.t 12) (.c (.d (.int 1)))⟩,
 ⟨some 4, none, .mv (.t 13)⟩]))

def C_laws_toTensorS : Fun := ⟨1, 23,
 .seq (
 .reg [⟨some 2, none, .mv (.c (.nil))⟩]) (
 .seq (
 .reg [⟨some 5, none, .mv (.t 0)⟩,
 ⟨some 6, none, .len (.t 5)⟩,
 ⟨some 7, none, .make 3 72 [.nil, .nil, .nil] (.t 6) (.t 6)⟩,
 ⟨some 3, none, .mv (.t 7)⟩]) (
 .seq (
 .seq (
 .reg [⟨some 4, none, .mv (.c (.d (.int 0)))⟩]) (
 .block 0 (
 .loop L0_laws_toTensorS))) (
 .seq (
 .reg [⟨some 22, none, .mv (.t 3)⟩,
 ⟨some 2, none, .mv (.t 22)⟩]) (
 .ret)))),
 [.t 2]⟩

theorem k_laws_toTensorS : cFun Try.prog Try.f54 = some C_laws_toTensorS.erase := by kernel_rfl

def L0_impl_dimsOf : C :=
 .seq (
 .reg [⟨some 19, none, .bin .lss (.t 18) (.t 17)⟩]) (
 .seq (
 .cond (.t 19) (
 .skip) (
 .exit 2)) (
 .seq (
 .block 3 (
 .seq (
 .reg [⟨some 20, none, .mv (.t 18)⟩,
 ⟨some 21, none, .idx 1 (.t 16) (.t 18)⟩,
 ⟨some 22, none, .ld (.t 21)⟩,
 ⟨some 7, none, .mv (.t 20)⟩,
 ⟨some 8, none, .mv (.t 22)⟩]) (
 .seq (
 .seq (
 .draw [⟨some 23, none, .mv (.t 8)⟩,
 ⟨some 24, none, .aix 1 100 (.t 4) (.t 23)⟩,
 ⟨some 25, none, .ld (.t 24)⟩,
 ⟨some 26, none, .bin .neq (.t 25) (.c (.d (.int 0)))⟩,
 ⟨some 27, none, .mv (.t 26)⟩,
 ⟨some 28, some (27, true), .mv (.t 8)⟩,
 ⟨some 29, some (27, true), .aix 1 100 (.t 4) (.t 28)⟩,
 ⟨some 30, some (27, true), .ld (.t 29)⟩,
 ⟨some 31, some (27, true), .fld 1 (.t 6)⟩,
 ⟨some 32, some (27, true), .ld (.t 31)⟩,
 ⟨some 33, some (27, true), .mv (.t 7)⟩,
 ⟨some 34, some (27, true), .idx 1 (.t 32) (.t 33)⟩,
 ⟨some 35, some (27, true), .ld (.t 34)⟩]
 [⟨some 36, some (27, true), .bin .neq (.t 30) (.t 35)⟩,
 ⟨some 37, none, .pick (.t 27) (.t 36) (.c (.d (.bool false)))⟩]) (
 .cond (.t 37) (
 .seq (
 .reg [⟨some 38, none, .ldn 100 (.t 4)⟩,
 ⟨none, none, .st 100 (.t 2) (.t 38)⟩,
 ⟨some 3, none, .mv (.c (.d (.bool false)))⟩]) (
 .ret)) (
 .skip))) (
 .reg [⟨some 39, none, .mv (.t 8)⟩,
 ⟨some 40, none, .fld 1 (.t 6)⟩,
 ⟨some 41, none, .ld (.t 40)⟩,
 ⟨some 42, none, .mv (.t 7)⟩,
 ⟨some 43, none, .idx 1 (.t 41) (.t 42)⟩,
 ⟨some 44, none, .ld (.t 43)⟩,
 ⟨some 45, none, .aix 1 100 (.t 4) (.t 39)⟩,
 ⟨none, none, .st 1 (.t 45) (.t 44)⟩])))) (
 .reg [⟨some 46, none, .bin .add (.t 18) (.c (.d (.int 1)))⟩,
 ⟨some 18, none, .mv (.t 46)⟩])))

def L1_impl_dimsOf : C :=
 .seq (
 .reg [⟨some 12, none, .bin .lss (.t 11) (.t 10)⟩]) (
 .seq (
 .cond (.t 12) (
 .skip) (
 .exit 0)) (
 .seq (
 .block 1 (
 .seq (
 .reg [⟨some 13, none, .idx 3 (.t 9) (.t 11)⟩,
 ⟨some 14, none, .ldn 3 (.t 13)⟩,
 ⟨some 6, none, .zer [.nil, .nil, .nil]⟩,
 ⟨none, none, .st 3 (.t 6) (.t 14)⟩]) (
 .seq (
 .reg [⟨some 15, none, .fld 0 (.t 6)⟩,
 ⟨some 16, none, .ld (.t 15)⟩,
 ⟨some 17, none, .len (.t 16)⟩,
 ⟨some 18, none, .mv (.c (.d (.int 0)))⟩]) (
 .block 2 (
 .loop L0_impl_dimsOf))))) (
 .reg [⟨some 47, none, .bin .add (.t 11) (.c (.d (.int 1)))⟩,
 ⟨some 11, none, .mv (.t 47)⟩])))

def C_impl_dimsOf : Fun := ⟨1, 49,
 .seq (
 .reg [⟨some 2, none, .zer (reps 100 (.d (.int 0)))⟩,
 ⟨some 3, none, .mv (.c (.d (.bool false)))⟩]) (
 .seq (
 .reg [⟨some 4, none, .zer (reps 100 (.d (.int 0)))⟩]) (
 .seq (
 .seq (
 .reg [⟨some 9, none, .mv (.t 0)⟩,
 ⟨some 10, none, .len (.t 9)⟩,
 ⟨some 11, none, .mv (.c (.d (.int 0)))⟩]) (
 .block 0 (
 .loop L1_impl_dimsOf))) (
 .seq (
 .reg [⟨some 48, none, .ldn 100 (.t 4)⟩,
 ⟨none, none, .st 100 (.t 2) (.t 48)⟩,
 ⟨some 3, none, .mv (.c (.d (.bool true)))⟩]) (
 .ret)))),
 [.cell 2 100, .t 3]⟩

theorem k_impl_dimsOf : cFun Try.prog Try.f114 = some C_impl_dimsOf.erase := by kernel_rfl

def L0_impl_axesOf : C :=
 .seq (
 .reg [⟨some 17, none, .bin .lss (.t 16) (.t 15)⟩]) (
 .seq (
 .cond (.t 17) (
 .skip) (
 .exit 0)) (
 .seq (
 .block 1 (
 .seq (
 .reg [⟨some 18, none, .mv (.t 16)⟩,
 ⟨some 19, none, .idx 1 (.t 14) (.t 16)⟩,
 ⟨some 20, none, .ld (.t 19)⟩,
 ⟨some 6, none, .mv (.t 18)⟩,
 ⟨some 7, none, .mv (.t 20)⟩]) (
 .draw [⟨some 21, none, .fld 1 (.t 5)⟩,
 ⟨some 22, none, .ld (.t 21)⟩,
 ⟨some 23, none, .mv (.t 6)⟩,
 ⟨some 24, none, .mv (.t 7)⟩,
 ⟨some 25, none, .aix 1 100 (.t 2) (.t 24)⟩,
 ⟨some 26, none, .ld (.t 25)⟩]
 [⟨some 27, none, .idx 1 (.t 22) (.t 23)⟩,
 ⟨none, none, .st 1 (.t 27) (.t 26)⟩]))) (
 .reg [⟨some 28, none, .bin .add (.t 16) (.c (.d (.int 1)))⟩,
 ⟨some 16, none, .mv (.t 28)⟩])))

def C_impl_axesOf : Fun := ⟨2, 30,
 .seq (
 .reg [⟨some 2, none, .box (.t 0)⟩,
 ⟨some 4, none, .zer [.nil, .nil, .nil]⟩]) (
 .seq (
 .draw [⟨some 8, none, .mv (.t 1)⟩,
 ⟨some 9, none, .call 80 [(.t 8)]⟩,
 ⟨some 10, none, .mv (.t 1)⟩,
 ⟨some 11, none, .len (.t 10)⟩,
 ⟨some 12, none, .make 1 8 [.d (.int 0)] (.t 11) (.t 11)⟩,
 ⟨some 13, none, .agg [.nil, .nil, .nil] [(0, 1, (.t 9)), (1, 1, (.t 12))]⟩,
 ⟨some 5, none, .zer [.nil, .nil, .nil]⟩]
 [⟨none, none, .st 3 (.t 5) (.t 13)⟩]) (
 .seq (
 .seq (
 .reg [⟨some 14, none, .mv (.t 1)⟩,
 ⟨some 15, none, .len (.t 14)⟩,
 ⟨some 16, none, .mv (.c (.d (.int 0)))⟩]) (
 .block 0 (
 .loop L0_impl_axesOf))) (
 .seq (
 .reg [⟨some 29, none, .ldn 3 (.t 5)⟩,
 ⟨none, none, .st 3 (.t 4) (.t 29)⟩]) (
 .ret)))),
 [.cell 4 3]⟩

theorem k_impl_axesOf : cFun Try.prog Try.f115 = some C_impl_axesOf.erase := by kernel_rfl

def C_laws_eqRing : Fun := ⟨2, 20,
 .seq (
 .reg [⟨some 2, none, .box (.t 0)⟩,
 ⟨some 3, none, .box (.t 1)⟩,
 ⟨some 4, none, .mv (.c (.d (.bool false)))⟩]) (
 .seq (
 .seq (
 .reg [⟨some 5, none, .fld 0 (.t 2)⟩,
 ⟨some 6, none, .ld (.t 5)⟩,
 ⟨some 7, none, .fld 0 (.t 3)⟩,
 ⟨some 8, none, .ld (.t 7)⟩,
 ⟨some 9, none, .bin .neq (.t 6) (.t 8)⟩]) (
 .cond (.t 9) (
 .seq (
 .reg [⟨some 4, none, .mv (.c (.d (.bool false)))⟩]) (
 .ret)) (
 .skip))) (
 .seq (
 .seq (
 .reg [⟨some 10, none, .fld 1 (.t 2)⟩,
 ⟨some 11, none, .ld (.t 10)⟩,
 ⟨some 12, none, .fld 1 (.t 3)⟩,
 ⟨some 13, none, .ld (.t 12)⟩,
 ⟨some 14, none, .bin .neq (.t 11) (.t 13)⟩]) (
 .cond (.t 14) (
 .seq (
 .reg [⟨some 4, none, .mv (.c (.d (.bool false)))⟩]) (
 .ret)) (
 .skip))) (
 .seq (
 .seq (
 .reg [⟨some 15, none, .fld 2 (.t 2)⟩,
 ⟨some 16, none, .ld (.t 15)⟩,
 ⟨some 17, none, .fld 2 (.t 3)⟩,
 ⟨some 18, none, .ld (.t 17)⟩,
 ⟨some 19, none, .bin .neq (.t 16) (.t 18)⟩]) (
 .cond (.t 19) (
 .seq (
 .reg [⟨some 4, none, .mv (.c (.d (.bool false)))⟩]) (
 .ret)) (
 .skip))) (
 .seq (
 .reg [⟨some 4, none, .mv (.c (.d (.bool true)))⟩]) (
 .ret))))),
 [.t 4]⟩

theorem k_laws_eqRing : cFun Try.prog Try.f71 = some C_laws_eqRing.erase := by kernel_rfl

def L0_laws_eqTensorS : C :=
 .seq (
 .seq (
 .reg [⟨some 11, none, .mv (.t 5)⟩,
 ⟨some 12, none, .mv (.t 0)⟩,
 ⟨some 13, none, .len (.t 12)⟩,
 ⟨some 14, none, .bin .lss (.t 11) (.t 13)⟩]) (
 .cond (.t 14) (
 .skip) (
 .exit 0))) (
 .seq (
 .block 1 (
 .seq (
 .draw [⟨some 17, none, .mv (.t 0)⟩,
 ⟨some 18, none, .mv (.t 5)⟩,
 ⟨some 19, none, .idx 3 (.t 17) (.t 18)⟩,
 ⟨some 20, none, .ldn 3 (.t 19)⟩,
 ⟨some 21, none, .mv (.t 1)⟩,
 ⟨some 22, none, .mv (.t 5)⟩,
 ⟨some 23, none, .idx 3 (.t 21) (.t 22)⟩,
 ⟨some 24, none, .ldn 3 (.t 23)⟩]
 [⟨some 25, none, .call 49 [(.t 20), (.t 24)]⟩,
 ⟨some 26, none, .not (.t 25)⟩]) (
 .cond (.t 26) (
 .seq (
 .reg [⟨some 4, none, .mv (.c (.d (.bool false)))⟩]) (
 .ret)) (
 .skip)))) (
 .reg [⟨some 15, none, .mv (.t 5)⟩,
 ⟨some 16, none, .bin .add (.t 15) (.c (.d (.int 1)))⟩,
 ⟨some 5, none, .mv (.t 16)⟩]))

def C_laws_eqTensorS : Fun := ⟨2, 27,
 .seq (
 .reg [⟨some 4, none, .mv (.c (.d (.bool false)))⟩]) (
 .seq (
 .seq (
 .reg [⟨some 6, none, .mv (.t 0)⟩,
 ⟨some 7, none, .len (.t 6)⟩,
 ⟨some 8, none, .mv (.t 1)⟩,
 ⟨some 9, none, .len (.t 8)⟩,
 ⟨some 10, none, .bin .neq (.t 7) (.t 9)⟩]) (
 .cond (.t 10) (
 .seq (
 .reg [⟨some 4, none, .mv (.c (.d (.bool false)))⟩]) (
 .ret)) (
 .skip))) (
 .seq (
 .seq (
 .reg [⟨some 5, none, .mv (.c (.d (.int 0)))⟩]) (
 .block 0 (
 .loop L0_laws_eqTensorS))) (
 .seq (
 .reg [⟨some 4, none, .mv (.c (.d (.bool true)))⟩]) (
 .ret)))),
 [.t 4]⟩

theorem k_laws_eqTensorS : cFun Try.prog Try.f56 = some C_laws_eqTensorS.erase := by kernel_rfl

end Go.Proofs.Ytjoopfojiiklnaa
