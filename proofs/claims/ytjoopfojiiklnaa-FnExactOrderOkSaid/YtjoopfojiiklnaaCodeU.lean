/-
  The compiled code of functions of the seat (written by mkcode.py). No condition.
-/
import Derived.Test.YtjoopfojiiklnaaLiftE
import Derived.Test.YtjoopfojiiklnaaProg
import Derived.KernelRfl
namespace Go.Proofs.Ytjoopfojiiklnaa
open Go.Lift

def L0_spec_OrderOk : C :=
 .seq (
 .reg [⟨some 31, none, .bin .lss (.t 30) (.t 29)⟩]) (
 .seq (
 .cond (.t 31) (
 .skip) (
 .exit 0)) (
 .seq (
 .block 1 (
 .seq (
 .reg [⟨some 32, none, .mv (.t 30)⟩,
 ⟨some 33, none, .idx 2 (.t 28) (.t 30)⟩,
 ⟨some 34, none, .ldn 2 (.t 33)⟩,
 ⟨some 8, none, .zer [.d (.int 0), .d (.int 0)]⟩,
 ⟨some 7, none, .mv (.t 32)⟩,
 ⟨none, none, .st 2 (.t 8) (.t 34)⟩]) (
 .seq (
 .seq (
 .reg [⟨some 35, none, .fld 0 (.t 8)⟩,
 ⟨some 36, none, .ld (.t 35)⟩,
 ⟨some 37, none, .bin .lss (.t 36) (.c (.d (.int 0)))⟩,
 ⟨some 38, none, .mv (.t 37)⟩,
 ⟨some 39, some (38, false), .fld 0 (.t 8)⟩,
 ⟨some 40, some (38, false), .ld (.t 39)⟩,
 ⟨some 41, some (38, false), .fld 1 (.t 8)⟩,
 ⟨some 42, some (38, false), .ld (.t 41)⟩,
 ⟨some 43, some (38, false), .bin .geq (.t 40) (.t 42)⟩,
 ⟨some 44, none, .pick (.t 38) (.c (.d (.bool true))) (.t 43)⟩,
 ⟨some 45, none, .mv (.t 44)⟩,
 ⟨some 46, some (45, false), .fld 1 (.t 8)⟩,
 ⟨some 47, some (45, false), .ld (.t 46)⟩,
 ⟨some 48, some (45, false), .mv (.t 5)⟩,
 ⟨some 49, some (45, false), .mv (.t 7)⟩,
 ⟨some 50, some (45, false), .bin .add (.t 48) (.t 49)⟩,
 ⟨some 51, some (45, false), .bin .geq (.t 47) (.t 50)⟩,
 ⟨some 52, none, .pick (.t 45) (.c (.d (.bool true))) (.t 51)⟩,
 ⟨some 53, none, .mv (.t 52)⟩,
 ⟨some 54, some (53, false), .mv (.t 6)⟩,
 ⟨some 55, some (53, false), .fld 0 (.t 8)⟩,
 ⟨some 56, some (53, false), .ld (.t 55)⟩,
 ⟨some 57, some (53, false), .idx 1 (.t 54) (.t 56)⟩,
 ⟨some 58, some (53, false), .ld (.t 57)⟩,
 ⟨some 59, none, .pick (.t 53) (.c (.d (.bool true))) (.t 58)⟩,
 ⟨some 60, none, .mv (.t 59)⟩,
 ⟨some 61, some (60, false), .mv (.t 6)⟩,
 ⟨some 62, some (60, false), .fld 1 (.t 8)⟩,
 ⟨some 63, some (60, false), .ld (.t 62)⟩,
 ⟨some 64, some (60, false), .idx 1 (.t 61) (.t 63)⟩,
 ⟨some 65, some (60, false), .ld (.t 64)⟩,
 ⟨some 66, none, .pick (.t 60) (.c (.d (.bool true))) (.t 65)⟩]) (
 .cond (.t 66) (
 .seq (
 .reg [⟨some 4, none, .mv (.c (.d (.bool false)))⟩]) (
 .ret)) (
 .skip))) (
 .seq (
 .reg [⟨some 67, none, .mv (.t 6)⟩,
 ⟨some 68, none, .fld 0 (.t 8)⟩,
 ⟨some 69, none, .ld (.t 68)⟩,
 ⟨some 70, none, .idx 1 (.t 67) (.t 69)⟩,
 ⟨none, none, .st 1 (.t 70) (.c (.d (.bool true)))⟩]) (
 .reg [⟨some 71, none, .mv (.t 6)⟩,
 ⟨some 72, none, .fld 1 (.t 8)⟩,
 ⟨some 73, none, .ld (.t 72)⟩,
 ⟨some 74, none, .idx 1 (.t 71) (.t 73)⟩,
 ⟨none, none, .st 1 (.t 74) (.c (.d (.bool true)))⟩]))))) (
 .reg [⟨some 75, none, .bin .add (.t 30) (.c (.d (.int 1)))⟩,
 ⟨some 30, none, .mv (.t 75)⟩])))

def C_spec_OrderOk : Fun := ⟨2, 76,
 .seq (
 .reg [⟨some 2, none, .box (.t 0)⟩,
 ⟨some 4, none, .mv (.c (.d (.bool false)))⟩]) (
 .seq (
 .reg [⟨some 9, none, .fld 3 (.t 2)⟩,
 ⟨some 10, none, .ld (.t 9)⟩,
 ⟨some 11, none, .len (.t 10)⟩,
 ⟨some 5, none, .mv (.t 11)⟩]) (
 .seq (
 .seq (
 .reg [⟨some 12, none, .ldn 5 (.t 2)⟩,
 ⟨some 13, none, .call 68 [(.t 12)]⟩,
 ⟨some 14, none, .not (.t 13)⟩,
 ⟨some 15, none, .mv (.t 14)⟩,
 ⟨some 16, some (15, false), .mv (.t 1)⟩,
 ⟨some 17, some (15, false), .len (.t 16)⟩,
 ⟨some 18, some (15, false), .mv (.t 5)⟩,
 ⟨some 19, some (15, false), .bin .sub (.t 18) (.c (.d (.int 1)))⟩,
 ⟨some 20, some (15, false), .mnx true (.c (.d (.int 0))) (.t 19)⟩,
 ⟨some 21, some (15, false), .bin .neq (.t 17) (.t 20)⟩,
 ⟨some 22, none, .pick (.t 15) (.c (.d (.bool true))) (.t 21)⟩]) (
 .cond (.t 22) (
 .seq (
 .reg [⟨some 4, none, .mv (.c (.d (.bool false)))⟩]) (
 .ret)) (
 .skip))) (
 .seq (
 .reg [⟨some 23, none, .mv (.t 5)⟩,
 ⟨some 24, none, .mv (.t 1)⟩,
 ⟨some 25, none, .len (.t 24)⟩,
 ⟨some 26, none, .bin .add (.t 23) (.t 25)⟩,
 ⟨some 27, none, .make 1 1 [.d (.bool false)] (.t 26) (.t 26)⟩,
 ⟨some 6, none, .mv (.t 27)⟩]) (
 .seq (
 .seq (
 .reg [⟨some 28, none, .mv (.t 1)⟩,
 ⟨some 29, none, .len (.t 28)⟩,
 ⟨some 30, none, .mv (.c (.d (.int 0)))⟩]) (
 .block 0 (
 .loop L0_spec_OrderOk))) (
 .seq (
 .reg [⟨some 4, none, .mv (.c (.d (.bool true)))⟩]) (
 .ret)))))),
 [.t 4]⟩

theorem k_spec_OrderOk : cFun Try.prog Try.f40 = some C_spec_OrderOk.erase := by kernel_rfl

def L0_impl_OrderOk : C :=
 .seq (
 .reg [⟨some 26, none, .bin .lss (.t 25) (.t 24)⟩]) (
 .seq (
 .cond (.t 26) (
 .skip) (
 .exit 0)) (
 .seq (
 .block 1 (
 .seq (
 .reg [⟨some 27, none, .idx 2 (.t 23) (.t 25)⟩,
 ⟨some 28, none, .ldn 2 (.t 27)⟩,
 ⟨some 7, none, .zer [.d (.int 0), .d (.int 0)]⟩,
 ⟨none, none, .st 2 (.t 7) (.t 28)⟩]) (
 .seq (
 .reg [⟨some 29, none, .mv (.t 5)⟩,
 ⟨some 30, none, .ldn 2 (.t 7)⟩,
 ⟨some 31, none, .call 89 [(.t 29), (.t 30)]⟩,
 ⟨some 32, none, .not (.t 31)⟩]) (
 .cond (.t 32) (
 .seq (
 .reg [⟨some 4, none, .mv (.c (.d (.bool false)))⟩]) (
 .ret)) (
 .skip))))) (
 .reg [⟨some 33, none, .bin .add (.t 25) (.c (.d (.int 1)))⟩,
 ⟨some 25, none, .mv (.t 33)⟩])))

def C_impl_OrderOk : Fun := ⟨2, 34,
 .seq (
 .reg [⟨some 2, none, .box (.t 0)⟩,
 ⟨some 4, none, .mv (.c (.d (.bool false)))⟩]) (
 .seq (
 .seq (
 .reg [⟨some 8, none, .ldn 5 (.t 2)⟩,
 ⟨some 9, none, .call 70 [(.t 8)]⟩,
 ⟨some 10, none, .not (.t 9)⟩,
 ⟨some 11, none, .mv (.t 10)⟩,
 ⟨some 12, some (11, false), .mv (.t 1)⟩,
 ⟨some 13, some (11, false), .len (.t 12)⟩,
 ⟨some 14, some (11, false), .fld 3 (.t 2)⟩,
 ⟨some 15, some (11, false), .ld (.t 14)⟩,
 ⟨some 16, some (11, false), .len (.t 15)⟩,
 ⟨some 17, some (11, false), .bin .sub (.t 16) (.c (.d (.int 1)))⟩,
 ⟨some 18, some (11, false), .mnx true (.t 17) (.c (.d (.int 0)))⟩,
 ⟨some 19, some (11, false), .bin .neq (.t 13) (.t 18)⟩,
 ⟨some 20, none, .pick (.t 11) (.c (.d (.bool true))) (.t 19)⟩]) (
 .cond (.t 20) (
 .seq (
 .reg [⟨some 4, none, .mv (.c (.d (.bool false)))⟩]) (
 .ret)) (
 .skip))) (
 .seq (
 .reg [⟨some 21, none, .ldn 5 (.t 2)⟩,
 ⟨some 22, none, .call 88 [(.t 21)]⟩,
 ⟨some 5, none, .mv (.t 22)⟩]) (
 .seq (
 .seq (
 .reg [⟨some 23, none, .mv (.t 1)⟩,
 ⟨some 24, none, .len (.t 23)⟩,
 ⟨some 25, none, .mv (.c (.d (.int 0)))⟩]) (
 .block 0 (
 .loop L0_impl_OrderOk))) (
 .seq (
 .reg [⟨some 4, none, .mv (.c (.d (.bool true)))⟩]) (
 .ret))))),
 [.t 4]⟩

theorem k_impl_OrderOk : cFun Try.prog Try.f42 = some C_impl_OrderOk.erase := by kernel_rfl

def C_impl_orderState_follow : Fun := ⟨2, 32,
 .seq (
 .reg [⟨some 3, none, .box (.t 1)⟩,
 ⟨some 4, none, .mv (.c (.d (.bool false)))⟩]) (
 .seq (
 .draw [⟨some 7, none, .mv (.t 0)⟩,
 ⟨some 8, none, .fld 0 (.t 3)⟩,
 ⟨some 9, none, .ld (.t 8)⟩,
 ⟨some 10, none, .call 123 [(.t 7), (.t 9)]⟩,
 ⟨some 11, none, .mv (.t 0)⟩,
 ⟨some 12, none, .fld 1 (.t 3)⟩,
 ⟨some 13, none, .ld (.t 12)⟩]
 [⟨some 14, none, .call 123 [(.t 11), (.t 13)]⟩,
 ⟨some 5, none, .mv (.t 10)⟩,
 ⟨some 6, none, .mv (.t 14)⟩]) (
 .seq (
 .seq (
 .reg [⟨some 15, none, .mv (.t 5)⟩,
 ⟨some 16, none, .bin .lss (.t 15) (.c (.d (.int 0)))⟩,
 ⟨some 17, none, .mv (.t 16)⟩,
 ⟨some 18, some (17, false), .mv (.t 6)⟩,
 ⟨some 19, some (17, false), .bin .lss (.t 18) (.c (.d (.int 0)))⟩,
 ⟨some 20, none, .pick (.t 17) (.c (.d (.bool true))) (.t 19)⟩,
 ⟨some 21, none, .mv (.t 20)⟩,
 ⟨some 22, some (21, false), .fld 0 (.t 3)⟩,
 ⟨some 23, some (21, false), .ld (.t 22)⟩,
 ⟨some 24, some (21, false), .fld 1 (.t 3)⟩,
 ⟨some 25, some (21, false), .ld (.t 24)⟩,
 ⟨some 26, some (21, false), .bin .geq (.t 23) (.t 25)⟩,
 ⟨some 27, none, .pick (.t 21) (.c (.d (.bool true))) (.t 26)⟩]) (
 .cond (.t 27) (
 .seq (
 .reg [⟨some 4, none, .mv (.c (.d (.bool false)))⟩]) (
 .ret)) (
 .skip))) (
 .seq (
 .reg [⟨some 28, none, .mv (.t 0)⟩,
 ⟨some 29, none, .mv (.t 5)⟩,
 ⟨some 30, none, .mv (.t 6)⟩,
 ⟨some 31, none, .call 124 [(.t 28), (.t 29), (.t 30)]⟩]) (
 .seq (
 .reg [⟨some 4, none, .mv (.c (.d (.bool true)))⟩]) (
 .ret))))),
 [.t 4]⟩

theorem k_impl_orderState_follow : cFun Try.prog Try.f89 = some C_impl_orderState_follow.erase := by kernel_rfl

def L0_impl_orderState_place : C :=
 .seq (
 .reg [⟨some 13, none, .bin .lss (.t 12) (.t 11)⟩]) (
 .seq (
 .cond (.t 13) (
 .skip) (
 .exit 0)) (
 .seq (
 .block 1 (
 .seq (
 .reg [⟨some 14, none, .mv (.t 12)⟩,
 ⟨some 15, none, .idx 2 (.t 10) (.t 12)⟩,
 ⟨some 16, none, .ldn 2 (.t 15)⟩,
 ⟨some 6, none, .zer [.d (.int 0), .nil]⟩,
 ⟨some 5, none, .mv (.t 14)⟩,
 ⟨none, none, .st 2 (.t 6) (.t 16)⟩]) (
 .seq (
 .reg [⟨some 17, none, .fld 0 (.t 6)⟩,
 ⟨some 18, none, .ld (.t 17)⟩,
 ⟨some 19, none, .mv (.t 1)⟩,
 ⟨some 20, none, .bin .eql (.t 18) (.t 19)⟩]) (
 .cond (.t 20) (
 .seq (
 .reg [⟨some 21, none, .mv (.t 5)⟩,
 ⟨some 4, none, .mv (.t 21)⟩]) (
 .ret)) (
 .skip))))) (
 .reg [⟨some 22, none, .bin .add (.t 12) (.c (.d (.int 1)))⟩,
 ⟨some 12, none, .mv (.t 22)⟩])))

def C_impl_orderState_place : Fun := ⟨2, 23,
 .seq (
 .reg [⟨some 4, none, .mv (.c (.d (.int 0)))⟩]) (
 .seq (
 .seq (
 .reg [⟨some 7, none, .mv (.t 0)⟩,
 ⟨some 8, none, .nck (.t 7)⟩,
 ⟨some 9, none, .fld 101 (.t 8)⟩,
 ⟨some 10, none, .ld (.t 9)⟩,
 ⟨some 11, none, .len (.t 10)⟩,
 ⟨some 12, none, .mv (.c (.d (.int 0)))⟩]) (
 .block 0 (
 .loop L0_impl_orderState_place))) (
 .seq (
 .reg [⟨some 4, none, .mv (.c (.d (.int (-1))))⟩]) (
 .ret))),
 [.t 4]⟩

theorem k_impl_orderState_place : cFun Try.prog Try.f123 = some C_impl_orderState_place.erase := by kernel_rfl

def L0_impl_orderState_contract : C :=
 .seq (
 .reg [⟨some 44, none, .bin .lss (.t 43) (.t 42)⟩]) (
 .seq (
 .cond (.t 44) (
 .skip) (
 .exit 0)) (
 .seq (
 .block 1 (
 .seq (
 .reg [⟨some 45, none, .mv (.t 43)⟩,
 ⟨some 46, none, .idx 2 (.t 41) (.t 43)⟩,
 ⟨some 47, none, .ldn 2 (.t 46)⟩,
 ⟨some 11, none, .zer [.d (.int 0), .nil]⟩,
 ⟨some 10, none, .mv (.t 45)⟩,
 ⟨none, none, .st 2 (.t 11) (.t 47)⟩]) (
 .seq (
 .reg [⟨some 48, none, .mv (.t 10)⟩,
 ⟨some 49, none, .mv (.t 1)⟩,
 ⟨some 50, none, .bin .neq (.t 48) (.t 49)⟩,
 ⟨some 51, none, .mv (.t 50)⟩,
 ⟨some 52, some (51, true), .mv (.t 10)⟩,
 ⟨some 53, some (51, true), .mv (.t 2)⟩,
 ⟨some 54, some (51, true), .bin .neq (.t 52) (.t 53)⟩,
 ⟨some 55, none, .pick (.t 51) (.t 54) (.c (.d (.bool false)))⟩]) (
 .cond (.t 55) (
 .reg [⟨some 56, none, .mv (.t 9)⟩,
 ⟨some 57, none, .ldn 2 (.t 11)⟩,
 ⟨some 58, none, .mksl 2 1 [.d (.int 0), .nil] [(0, 2, (.t 57))]⟩,
 ⟨some 59, none, .app 2 32 [.d (.int 0), .nil] (.t 56) (.t 58)⟩,
 ⟨some 9, none, .mv (.t 59)⟩]) (
 .skip))))) (
 .reg [⟨some 60, none, .bin .add (.t 43) (.c (.d (.int 1)))⟩,
 ⟨some 43, none, .mv (.t 60)⟩])))

def C_impl_orderState_contract : Fun := ⟨3, 76,
 .seq (
 .reg [⟨some 6, none, .zer [.d (.int 0), .d (.int 0)]⟩]) (
 .seq (
 .draw [⟨some 12, none, .mv (.t 0)⟩,
 ⟨some 13, none, .nck (.t 12)⟩,
 ⟨some 14, none, .fld 101 (.t 13)⟩,
 ⟨some 15, none, .ld (.t 14)⟩,
 ⟨some 16, none, .mv (.t 1)⟩,
 ⟨some 17, none, .idx 2 (.t 15) (.t 16)⟩,
 ⟨some 18, none, .fld 0 (.t 17)⟩,
 ⟨some 19, none, .ld (.t 18)⟩,
 ⟨some 20, none, .mv (.t 0)⟩,
 ⟨some 21, none, .nck (.t 20)⟩,
 ⟨some 22, none, .fld 101 (.t 21)⟩,
 ⟨some 23, none, .ld (.t 22)⟩,
 ⟨some 24, none, .mv (.t 2)⟩,
 ⟨some 25, none, .idx 2 (.t 23) (.t 24)⟩,
 ⟨some 26, none, .fld 0 (.t 25)⟩,
 ⟨some 27, none, .ld (.t 26)⟩,
 ⟨some 28, none, .agg [.d (.int 0), .d (.int 0)] [(0, 1, (.t 19)), (1, 1, (.t 27))]⟩,
 ⟨some 7, none, .zer [.d (.int 0), .d (.int 0)]⟩]
 [⟨none, none, .st 2 (.t 7) (.t 28)⟩]) (
 .seq (
 .draw [⟨some 29, none, .mv (.t 0)⟩,
 ⟨some 30, none, .nck (.t 29)⟩,
 ⟨some 31, none, .fld 102 (.t 30)⟩,
 ⟨some 32, none, .ld (.t 31)⟩,
 ⟨some 33, none, .mv (.t 0)⟩,
 ⟨some 34, none, .mv (.t 1)⟩,
 ⟨some 35, none, .mv (.t 2)⟩,
 ⟨some 36, none, .call 145 [(.t 33), (.t 34), (.t 35)]⟩,
 ⟨some 37, none, .agg [.d (.int 0), .nil] [(0, 1, (.t 32)), (1, 1, (.t 36))]⟩,
 ⟨some 8, none, .zer [.d (.int 0), .nil]⟩]
 [⟨none, none, .st 2 (.t 8) (.t 37)⟩]) (
 .seq (
 .reg [⟨some 9, none, .mv (.c (.nil))⟩]) (
 .seq (
 .seq (
 .reg [⟨some 38, none, .mv (.t 0)⟩,
 ⟨some 39, none, .nck (.t 38)⟩,
 ⟨some 40, none, .fld 101 (.t 39)⟩,
 ⟨some 41, none, .ld (.t 40)⟩,
 ⟨some 42, none, .len (.t 41)⟩,
 ⟨some 43, none, .mv (.c (.d (.int 0)))⟩]) (
 .block 0 (
 .loop L0_impl_orderState_contract))) (
 .seq (
 .reg [⟨some 61, none, .mv (.t 0)⟩,
 ⟨some 62, none, .mv (.t 9)⟩,
 ⟨some 63, none, .ldn 2 (.t 8)⟩,
 ⟨some 64, none, .mksl 2 1 [.d (.int 0), .nil] [(0, 2, (.t 63))]⟩,
 ⟨some 65, none, .app 2 32 [.d (.int 0), .nil] (.t 62) (.t 64)⟩,
 ⟨some 66, none, .nck (.t 61)⟩,
 ⟨some 67, none, .fld 101 (.t 66)⟩,
 ⟨none, none, .st 1 (.t 67) (.t 65)⟩]) (
 .seq (
 .reg [⟨some 68, none, .mv (.t 0)⟩,
 ⟨some 69, none, .nck (.t 68)⟩,
 ⟨some 70, none, .fld 102 (.t 69)⟩,
 ⟨some 71, none, .ld (.t 70)⟩,
 ⟨some 72, none, .bin .add (.t 71) (.c (.d (.int 1)))⟩,
 ⟨some 73, none, .nck (.t 68)⟩,
 ⟨some 74, none, .fld 102 (.t 73)⟩,
 ⟨none, none, .st 1 (.t 74) (.t 72)⟩]) (
 .seq (
 .reg [⟨some 75, none, .ldn 2 (.t 7)⟩,
 ⟨none, none, .st 2 (.t 6) (.t 75)⟩]) (
 .ret)))))))),
 [.cell 6 2]⟩

theorem k_impl_orderState_contract : cFun Try.prog Try.f124 = some C_impl_orderState_contract.erase := by kernel_rfl

def L0_impl_orderState_resultLabels : C :=
 .seq (
 .reg [⟨some 47, none, .bin .lss (.t 46) (.t 45)⟩]) (
 .seq (
 .cond (.t 47) (
 .skip) (
 .exit 2)) (
 .seq (
 .block 3 (
 .seq (
 .reg [⟨some 48, none, .mv (.t 46)⟩,
 ⟨some 49, none, .idx 2 (.t 44) (.t 46)⟩,
 ⟨some 50, none, .ldn 2 (.t 49)⟩,
 ⟨some 12, none, .zer [.d (.int 0), .nil]⟩,
 ⟨some 11, none, .mv (.t 48)⟩,
 ⟨none, none, .st 2 (.t 12) (.t 50)⟩]) (
 .seq (
 .reg [⟨some 51, none, .mv (.t 11)⟩,
 ⟨some 52, none, .mv (.t 1)⟩,
 ⟨some 53, none, .bin .neq (.t 51) (.t 52)⟩,
 ⟨some 54, none, .mv (.t 53)⟩,
 ⟨some 55, some (54, true), .mv (.t 11)⟩,
 ⟨some 56, some (54, true), .mv (.t 2)⟩,
 ⟨some 57, some (54, true), .bin .neq (.t 55) (.t 56)⟩,
 ⟨some 58, none, .pick (.t 54) (.t 57) (.c (.d (.bool false)))⟩,
 ⟨some 59, none, .mv (.t 58)⟩,
 ⟨some 60, some (59, true), .fld 1 (.t 12)⟩,
 ⟨some 61, some (59, true), .ld (.t 60)⟩,
 ⟨some 62, some (59, true), .mv (.t 9)⟩,
 ⟨some 63, some (59, true), .call 83 [(.t 61), (.t 62)]⟩,
 ⟨some 64, none, .pick (.t 59) (.t 63) (.c (.d (.bool false)))⟩]) (
 .cond (.t 64) (
 .reg [⟨some 10, none, .mv (.c (.d (.bool true)))⟩]) (
 .skip))))) (
 .reg [⟨some 65, none, .bin .add (.t 46) (.c (.d (.int 1)))⟩,
 ⟨some 46, none, .mv (.t 65)⟩])))

def L1_impl_orderState_resultLabels : C :=
 .seq (
 .reg [⟨some 32, none, .bin .lss (.t 31) (.t 30)⟩]) (
 .seq (
 .cond (.t 32) (
 .skip) (
 .exit 0)) (
 .seq (
 .block 1 (
 .seq (
 .reg [⟨some 33, none, .idx 1 (.t 29) (.t 31)⟩,
 ⟨some 34, none, .ld (.t 33)⟩,
 ⟨some 9, none, .mv (.t 34)⟩]) (
 .seq (
 .reg [⟨some 35, none, .mv (.t 0)⟩,
 ⟨some 36, none, .nck (.t 35)⟩,
 ⟨some 37, none, .fld 100 (.t 36)⟩,
 ⟨some 38, none, .ld (.t 37)⟩,
 ⟨some 39, none, .mv (.t 9)⟩,
 ⟨some 40, none, .call 83 [(.t 38), (.t 39)]⟩,
 ⟨some 10, none, .mv (.t 40)⟩]) (
 .seq (
 .seq (
 .reg [⟨some 41, none, .mv (.t 0)⟩,
 ⟨some 42, none, .nck (.t 41)⟩,
 ⟨some 43, none, .fld 101 (.t 42)⟩,
 ⟨some 44, none, .ld (.t 43)⟩,
 ⟨some 45, none, .len (.t 44)⟩,
 ⟨some 46, none, .mv (.c (.d (.int 0)))⟩]) (
 .block 2 (
 .loop L0_impl_orderState_resultLabels))) (
 .seq (
 .reg [⟨some 66, none, .mv (.t 10)⟩]) (
 .cond (.t 66) (
 .reg [⟨some 67, none, .mv (.t 7)⟩,
 ⟨some 68, none, .mv (.t 9)⟩,
 ⟨some 69, none, .mksl 1 1 [.d (.int 0)] [(0, 1, (.t 68))]⟩,
 ⟨some 70, none, .app 1 8 [.d (.int 0)] (.t 67) (.t 69)⟩,
 ⟨some 7, none, .mv (.t 70)⟩]) (
 .skip))))))) (
 .reg [⟨some 71, none, .bin .add (.t 31) (.c (.d (.int 1)))⟩,
 ⟨some 31, none, .mv (.t 71)⟩])))

def C_impl_orderState_resultLabels : Fun := ⟨3, 73,
 .seq (
 .reg [⟨some 6, none, .mv (.c (.nil))⟩]) (
 .seq (
 .reg [⟨some 7, none, .mv (.c (.nil))⟩]) (
 .seq (
 .seq (
 .draw [⟨some 13, none, .mv (.t 0)⟩,
 ⟨some 14, none, .nck (.t 13)⟩,
 ⟨some 15, none, .fld 101 (.t 14)⟩,
 ⟨some 16, none, .ld (.t 15)⟩,
 ⟨some 17, none, .mv (.t 1)⟩,
 ⟨some 18, none, .idx 2 (.t 16) (.t 17)⟩,
 ⟨some 19, none, .fld 1 (.t 18)⟩,
 ⟨some 20, none, .ld (.t 19)⟩,
 ⟨some 21, none, .mv (.t 0)⟩,
 ⟨some 22, none, .nck (.t 21)⟩,
 ⟨some 23, none, .fld 101 (.t 22)⟩,
 ⟨some 24, none, .ld (.t 23)⟩,
 ⟨some 25, none, .mv (.t 2)⟩,
 ⟨some 26, none, .idx 2 (.t 24) (.t 25)⟩,
 ⟨some 27, none, .fld 1 (.t 26)⟩,
 ⟨some 28, none, .ld (.t 27)⟩,
 ⟨some 29, none, .call 155 [(.t 20), (.t 28)]⟩,
 ⟨some 30, none, .len (.t 29)⟩,
 ⟨some 31, none, .mv (.c (.d (.int 0)))⟩]
 []) (
 .block 0 (
 .loop L1_impl_orderState_resultLabels))) (
 .seq (
 .reg [⟨some 72, none, .mv (.t 7)⟩,
 ⟨some 6, none, .mv (.t 72)⟩]) (
 .ret)))),
 [.t 6]⟩

theorem k_impl_orderState_resultLabels : cFun Try.prog Try.f145 = some C_impl_orderState_resultLabels.erase := by kernel_rfl

end Go.Proofs.Ytjoopfojiiklnaa
