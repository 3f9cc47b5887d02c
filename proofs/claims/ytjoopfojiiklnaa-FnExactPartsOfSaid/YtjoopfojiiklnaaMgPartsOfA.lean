/-
  The compiled code of functions of the seat (written by mkcode.py). No condition.
-/
import Derived.Test.YtjoopfojiiklnaaLiftK
import Derived.Test.YtjoopfojiiklnaaProg
import Derived.KernelRfl
import Derived.Test.YtjoopfojiiklnaaLiftE
namespace Go.Proofs.Ytjoopfojiiklnaa
open Go.Lift

def C_laws_FnExactPartsOf : Fun := ⟨1, 69,
 .seq (
 .reg [⟨some 1, none, .box (.t 0)⟩,
 ⟨some 2, none, .mv (.c (.d (.bool false)))⟩]) (
 .seq (
 .reg [⟨some 3, none, .mv (.c (.d (.int 1048576)))⟩]) (
 .seq (
 .reg [⟨some 11, none, .ldn 5 (.t 1)⟩,
 ⟨some 12, none, .mv (.t 3)⟩,
 ⟨some 13, none, .call 15 [(.t 11), (.t 12)]⟩,
 ⟨some 3, none, .mv (.t 13)⟩]) (
 .seq (
 .seq (
 .reg [⟨some 14, none, .mv (.t 3)⟩,
 ⟨some 15, none, .bin .lss (.t 14) (.c (.d (.int 0)))⟩]) (
 .cond (.t 15) (
 .seq (
 .reg [⟨some 2, none, .mv (.c (.d (.bool true)))⟩]) (
 .ret)) (
 .skip))) (
 .seq (
 .reg [⟨some 16, none, .ldn 5 (.t 1)⟩,
 ⟨some 17, none, .call 17 [(.t 16)]⟩,
 ⟨some 18, none, .call 58 [(.t 17)]⟩,
 ⟨some 4, none, .mv (.t 18)⟩]) (
 .seq (
 .reg [⟨some 19, none, .ldn 5 (.t 1)⟩,
 ⟨some 20, none, .call 17 [(.t 19)]⟩,
 ⟨some 5, none, .zer [.d (.int 0), .d (.int 0), .d (.int 0), .nil, .nil]⟩,
 ⟨none, none, .st 5 (.t 5) (.t 20)⟩]) (
 .seq (
 .reg [⟨some 21, none, .ldn 5 (.t 5)⟩,
 ⟨some 22, none, .call 59 [(.t 21)]⟩,
 ⟨some 6, none, .mv (.t 22)⟩]) (
 .seq (
 .seq (
 .reg [⟨some 23, none, .mv (.t 6)⟩,
 ⟨some 24, none, .mv (.t 4)⟩,
 ⟨some 25, none, .call 60 [(.t 23), (.t 24)]⟩,
 ⟨some 26, none, .not (.t 25)⟩]) (
 .cond (.t 26) (
 .seq (
 .reg [⟨some 2, none, .mv (.c (.d (.bool false)))⟩]) (
 .ret)) (
 .skip))) (
 .seq (
 .seq (
 .draw [⟨some 27, none, .ldn 5 (.t 5)⟩,
 ⟨some 28, none, .ldn 5 (.t 1)⟩,
 ⟨some 29, none, .call 17 [(.t 28)]⟩]
 [⟨some 30, none, .call 19 [(.t 27), (.t 29)]⟩,
 ⟨some 31, none, .not (.t 30)⟩]) (
 .cond (.t 31) (
 .seq (
 .reg [⟨some 2, none, .mv (.c (.d (.bool false)))⟩]) (
 .ret)) (
 .skip))) (
 .seq (
 .reg [⟨some 7, none, .mv (.c (.d (.int 1)))⟩]) (
 .seq (
 .reg [⟨some 32, none, .ldn 5 (.t 5)⟩,
 ⟨some 33, none, .mv (.t 7)⟩,
 ⟨some 34, none, .call 23 [(.t 32), (.t 33)]⟩,
 ⟨some 7, none, .mv (.t 34)⟩]) (
 .seq (
 .seq (
 .reg [⟨some 35, none, .mv (.t 7)⟩,
 ⟨some 36, none, .bin .lss (.t 35) (.c (.d (.int 0)))⟩,
 ⟨some 37, none, .mv (.t 36)⟩,
 ⟨some 38, some (37, false), .mv (.t 6)⟩,
 ⟨some 39, some (37, false), .mv (.t 4)⟩,
 ⟨some 40, some (37, false), .call 60 [(.t 38), (.t 39)]⟩,
 ⟨some 41, some (37, false), .not (.t 40)⟩,
 ⟨some 42, none, .pick (.t 37) (.c (.d (.bool true))) (.t 41)⟩]) (
 .cond (.t 42) (
 .seq (
 .reg [⟨some 2, none, .mv (.c (.d (.bool false)))⟩]) (
 .ret)) (
 .skip))) (
 .seq (
 .reg [⟨some 8, none, .mv (.c (.d (.int 1)))⟩]) (
 .seq (
 .reg [⟨some 43, none, .mv (.t 6)⟩,
 ⟨some 44, none, .mv (.t 8)⟩,
 ⟨some 45, none, .call 61 [(.t 43), (.t 44)]⟩,
 ⟨some 8, none, .mv (.t 45)⟩]) (
 .seq (
 .reg [⟨some 9, none, .mv (.c (.d (.int 1)))⟩]) (
 .seq (
 .reg [⟨some 46, none, .mv (.t 6)⟩,
 ⟨some 47, none, .mv (.t 9)⟩,
 ⟨some 48, none, .call 62 [(.t 46), (.t 47)]⟩,
 ⟨some 9, none, .mv (.t 48)⟩]) (
 .seq (
 .seq (
 .reg [⟨some 49, none, .mv (.t 9)⟩,
 ⟨some 50, none, .bin .lss (.t 49) (.c (.d (.int 0)))⟩]) (
 .cond (.t 50) (
 .seq (
 .reg [⟨some 2, none, .mv (.c (.d (.bool false)))⟩]) (
 .ret)) (
 .skip))) (
 .seq (
 .seq (
 .reg [⟨some 51, none, .mv (.t 9)⟩,
 ⟨some 52, none, .mv (.t 8)⟩,
 ⟨some 53, none, .bin .neq (.t 51) (.t 52)⟩]) (
 .cond (.t 53) (
 .seq (
 .reg [⟨some 2, none, .mv (.c (.d (.bool false)))⟩]) (
 .ret)) (
 .skip))) (
 .seq (
 .reg [⟨some 54, none, .ldn 5 (.t 1)⟩,
 ⟨some 55, none, .call 17 [(.t 54)]⟩,
 ⟨some 56, none, .call 59 [(.t 55)]⟩,
 ⟨some 10, none, .mv (.t 56)⟩]) (
 .seq (
 .seq (
 .reg [⟨some 57, none, .mv (.t 10)⟩,
 ⟨some 58, none, .mv (.t 4)⟩,
 ⟨some 59, none, .call 60 [(.t 57), (.t 58)]⟩,
 ⟨some 60, none, .not (.t 59)⟩]) (
 .cond (.t 60) (
 .seq (
 .reg [⟨some 2, none, .mv (.c (.d (.bool false)))⟩]) (
 .ret)) (
 .skip))) (
 .seq (
 .reg [⟨some 9, none, .mv (.c (.d (.int 1)))⟩]) (
 .seq (
 .reg [⟨some 61, none, .mv (.t 6)⟩,
 ⟨some 62, none, .mv (.t 9)⟩,
 ⟨some 63, none, .call 62 [(.t 61), (.t 62)]⟩,
 ⟨some 9, none, .mv (.t 63)⟩]) (
 .seq (
 .seq (
 .reg [⟨some 64, none, .mv (.t 9)⟩,
 ⟨some 65, none, .bin .lss (.t 64) (.c (.d (.int 0)))⟩]) (
 .cond (.t 65) (
 .seq (
 .reg [⟨some 2, none, .mv (.c (.d (.bool false)))⟩]) (
 .ret)) (
 .skip))) (
 .seq (
 .seq (
 .reg [⟨some 66, none, .mv (.t 9)⟩,
 ⟨some 67, none, .mv (.t 8)⟩,
 ⟨some 68, none, .bin .neq (.t 66) (.t 67)⟩]) (
 .cond (.t 68) (
 .seq (
 .reg [⟨some 2, none, .mv (.c (.d (.bool false)))⟩]) (
 .ret)) (
 .skip))) (
 .seq (
 .reg [⟨some 2, none, .mv (.c (.d (.bool true)))⟩]) (
 .ret))))))))))))))))))))))))),
 [.t 2]⟩

theorem k_laws_FnExactPartsOf : cFun Try.prog Try.f12 = some C_laws_FnExactPartsOf.erase := by kernel_rfl
end Go.Proofs.Ytjoopfojiiklnaa

/-
  The compiled code of functions of the seat (written by mkcode.py). No condition.
-/
namespace Go.Proofs.Ytjoopfojiiklnaa
open Go.Lift

def L0_impl_PartsOf : C :=
 .seq (
 .reg [⟨some 99, none, .bin .lss (.t 98) (.t 97)⟩]) (
 .seq (
 .cond (.t 99) (
 .skip) (
 .exit 10)) (
 .seq (
 .block 11 (
 .seq (
 .reg [⟨some 100, none, .mv (.t 98)⟩,
 ⟨some 101, none, .idx 1 (.t 96) (.t 98)⟩,
 ⟨some 102, none, .ld (.t 101)⟩,
 ⟨some 14, none, .mv (.t 100)⟩,
 ⟨some 15, none, .mv (.t 102)⟩]) (
 .seq (
 .reg [⟨some 103, none, .mv (.t 15)⟩,
 ⟨some 104, none, .mv (.t 12)⟩,
 ⟨some 105, none, .bin .eql (.t 103) (.t 104)⟩]) (
 .cond (.t 105) (
 .reg [⟨some 106, none, .mv (.t 13)⟩,
 ⟨some 107, none, .mv (.t 14)⟩,
 ⟨some 108, none, .mksl 1 1 [.d (.int 0)] [(0, 1, (.t 107))]⟩,
 ⟨some 109, none, .app 1 8 [.d (.int 0)] (.t 106) (.t 108)⟩,
 ⟨some 13, none, .mv (.t 109)⟩]) (
 .skip))))) (
 .reg [⟨some 110, none, .bin .add (.t 98) (.c (.d (.int 1)))⟩,
 ⟨some 98, none, .mv (.t 110)⟩])))

def L1_impl_PartsOf : C :=
 .seq (
 .reg [⟨some 94, none, .bin .lss (.t 93) (.t 92)⟩]) (
 .seq (
 .cond (.t 94) (
 .skip) (
 .exit 8)) (
 .seq (
 .block 9 (
 .seq (
 .reg [⟨some 95, none, .mv (.t 93)⟩,
 ⟨some 12, none, .mv (.t 95)⟩]) (
 .seq (
 .reg [⟨some 13, none, .mv (.c (.nil))⟩]) (
 .seq (
 .seq (
 .reg [⟨some 96, none, .mv (.t 3)⟩,
 ⟨some 97, none, .len (.t 96)⟩,
 ⟨some 98, none, .mv (.c (.d (.int 0)))⟩]) (
 .block 10 (
 .loop L0_impl_PartsOf))) (
 .seq (
 .reg [⟨some 111, none, .mv (.t 13)⟩,
 ⟨some 112, none, .isn true (.t 111) (.c (.nil))⟩]) (
 .cond (.t 112) (
 .reg [⟨some 113, none, .mv (.t 11)⟩,
 ⟨some 114, none, .mv (.t 13)⟩,
 ⟨some 115, none, .mksl 1 1 [.nil] [(0, 1, (.t 114))]⟩,
 ⟨some 116, none, .app 1 24 [.nil] (.t 113) (.t 115)⟩,
 ⟨some 11, none, .mv (.t 116)⟩]) (
 .skip))))))) (
 .reg [⟨some 117, none, .bin .add (.t 93) (.c (.d (.int 1)))⟩,
 ⟨some 93, none, .mv (.t 117)⟩])))

def L2_impl_PartsOf : C :=
 .seq (
 .reg [⟨some 77, none, .bin .lss (.t 76) (.t 75)⟩]) (
 .seq (
 .cond (.t 77) (
 .skip) (
 .exit 6)) (
 .seq (
 .block 7 (
 .seq (
 .reg [⟨some 78, none, .mv (.t 76)⟩,
 ⟨some 10, none, .mv (.t 78)⟩]) (
 .seq (
 .reg [⟨some 79, none, .mv (.t 3)⟩,
 ⟨some 80, none, .mv (.t 10)⟩,
 ⟨some 81, none, .idx 1 (.t 79) (.t 80)⟩,
 ⟨some 82, none, .ld (.t 81)⟩,
 ⟨some 83, none, .mv (.t 9)⟩,
 ⟨some 84, none, .bin .eql (.t 82) (.t 83)⟩]) (
 .cond (.t 84) (
 .reg [⟨some 85, none, .mv (.t 3)⟩,
 ⟨some 86, none, .mv (.t 10)⟩,
 ⟨some 87, none, .mv (.t 8)⟩,
 ⟨some 88, none, .idx 1 (.t 85) (.t 86)⟩,
 ⟨none, none, .st 1 (.t 88) (.t 87)⟩]) (
 .skip))))) (
 .reg [⟨some 89, none, .bin .add (.t 76) (.c (.d (.int 1)))⟩,
 ⟨some 76, none, .mv (.t 89)⟩])))

def L3_impl_PartsOf : C :=
 .seq (
 .seq (
 .reg [⟨some 41, none, .mv (.t 7)⟩,
 ⟨some 42, none, .mv (.t 5)⟩,
 ⟨some 43, none, .bin .lss (.t 41) (.t 42)⟩]) (
 .cond (.t 43) (
 .skip) (
 .exit 4))) (
 .seq (
 .block 5 (
 .seq (
 .seq (
 .draw [⟨some 46, none, .fld 0 (.t 6)⟩,
 ⟨some 47, none, .ld (.t 46)⟩,
 ⟨some 48, none, .fld 3 (.t 1)⟩,
 ⟨some 49, none, .ld (.t 48)⟩,
 ⟨some 50, none, .mv (.t 7)⟩,
 ⟨some 51, none, .idx 3 (.t 49) (.t 50)⟩,
 ⟨some 52, none, .fld 0 (.t 51)⟩,
 ⟨some 53, none, .ld (.t 52)⟩]
 [⟨some 54, none, .call 107 [(.t 47), (.t 53)]⟩,
 ⟨some 55, none, .not (.t 54)⟩]) (
 .cond (.t 55) (
 .exit 5) (
 .skip))) (
 .seq (
 .draw [⟨some 56, none, .mv (.t 3)⟩,
 ⟨some 57, none, .mv (.t 5)⟩,
 ⟨some 58, none, .idx 1 (.t 56) (.t 57)⟩,
 ⟨some 59, none, .ld (.t 58)⟩,
 ⟨some 60, none, .mv (.t 3)⟩,
 ⟨some 61, none, .mv (.t 7)⟩,
 ⟨some 62, none, .idx 1 (.t 60) (.t 61)⟩,
 ⟨some 63, none, .ld (.t 62)⟩,
 ⟨some 64, none, .mnx false (.t 59) (.t 63)⟩,
 ⟨some 65, none, .mv (.t 3)⟩,
 ⟨some 66, none, .mv (.t 5)⟩,
 ⟨some 67, none, .idx 1 (.t 65) (.t 66)⟩,
 ⟨some 68, none, .ld (.t 67)⟩,
 ⟨some 69, none, .mv (.t 3)⟩,
 ⟨some 70, none, .mv (.t 7)⟩,
 ⟨some 71, none, .idx 1 (.t 69) (.t 70)⟩,
 ⟨some 72, none, .ld (.t 71)⟩,
 ⟨some 73, none, .mnx true (.t 68) (.t 72)⟩,
 ⟨some 8, none, .mv (.t 64)⟩]
 [⟨some 9, none, .mv (.t 73)⟩]) (
 .seq (
 .reg [⟨some 74, none, .mv (.t 3)⟩,
 ⟨some 75, none, .len (.t 74)⟩,
 ⟨some 76, none, .mv (.c (.d (.int 0)))⟩]) (
 .block 6 (
 .loop L2_impl_PartsOf)))))) (
 .reg [⟨some 44, none, .mv (.t 7)⟩,
 ⟨some 45, none, .bin .add (.t 44) (.c (.d (.int 1)))⟩,
 ⟨some 7, none, .mv (.t 45)⟩]))

def L4_impl_PartsOf : C :=
 .seq (
 .reg [⟨some 37, none, .bin .lss (.t 36) (.t 35)⟩]) (
 .seq (
 .cond (.t 37) (
 .skip) (
 .exit 2)) (
 .seq (
 .block 3 (
 .seq (
 .reg [⟨some 38, none, .mv (.t 36)⟩,
 ⟨some 39, none, .idx 3 (.t 34) (.t 36)⟩,
 ⟨some 40, none, .ldn 3 (.t 39)⟩,
 ⟨some 6, none, .zer [.nil, .nil, .nil]⟩,
 ⟨some 5, none, .mv (.t 38)⟩,
 ⟨none, none, .st 3 (.t 6) (.t 40)⟩]) (
 .seq (
 .reg [⟨some 7, none, .mv (.c (.d (.int 0)))⟩]) (
 .block 4 (
 .loop L3_impl_PartsOf))))) (
 .reg [⟨some 90, none, .bin .add (.t 36) (.c (.d (.int 1)))⟩,
 ⟨some 36, none, .mv (.t 90)⟩])))

def L5_impl_PartsOf : C :=
 .seq (
 .reg [⟨some 26, none, .bin .lss (.t 25) (.t 24)⟩]) (
 .seq (
 .cond (.t 26) (
 .skip) (
 .exit 0)) (
 .seq (
 .block 1 (
 .seq (
 .reg [⟨some 27, none, .mv (.t 25)⟩,
 ⟨some 4, none, .mv (.t 27)⟩]) (
 .reg [⟨some 28, none, .mv (.t 3)⟩,
 ⟨some 29, none, .mv (.t 4)⟩,
 ⟨some 30, none, .mv (.t 4)⟩,
 ⟨some 31, none, .idx 1 (.t 28) (.t 29)⟩,
 ⟨none, none, .st 1 (.t 31) (.t 30)⟩]))) (
 .reg [⟨some 32, none, .bin .add (.t 25) (.c (.d (.int 1)))⟩,
 ⟨some 25, none, .mv (.t 32)⟩])))

def C_impl_PartsOf : Fun := ⟨1, 119,
 .seq (
 .reg [⟨some 1, none, .box (.t 0)⟩,
 ⟨some 2, none, .mv (.c (.nil))⟩]) (
 .seq (
 .seq (
 .reg [⟨some 16, none, .ldn 5 (.t 1)⟩,
 ⟨some 17, none, .call 70 [(.t 16)]⟩,
 ⟨some 18, none, .not (.t 17)⟩]) (
 .cond (.t 18) (
 .seq (
 .reg [⟨some 2, none, .mv (.c (.nil))⟩]) (
 .ret)) (
 .skip))) (
 .seq (
 .reg [⟨some 19, none, .fld 3 (.t 1)⟩,
 ⟨some 20, none, .ld (.t 19)⟩,
 ⟨some 21, none, .len (.t 20)⟩,
 ⟨some 22, none, .make 1 8 [.d (.int 0)] (.t 21) (.t 21)⟩,
 ⟨some 3, none, .mv (.t 22)⟩]) (
 .seq (
 .seq (
 .reg [⟨some 23, none, .mv (.t 3)⟩,
 ⟨some 24, none, .len (.t 23)⟩,
 ⟨some 25, none, .mv (.c (.d (.int 0)))⟩]) (
 .block 0 (
 .loop L5_impl_PartsOf))) (
 .seq (
 .seq (
 .reg [⟨some 33, none, .fld 3 (.t 1)⟩,
 ⟨some 34, none, .ld (.t 33)⟩,
 ⟨some 35, none, .len (.t 34)⟩,
 ⟨some 36, none, .mv (.c (.d (.int 0)))⟩]) (
 .block 2 (
 .loop L4_impl_PartsOf))) (
 .seq (
 .reg [⟨some 11, none, .mv (.c (.nil))⟩]) (
 .seq (
 .seq (
 .reg [⟨some 91, none, .mv (.t 3)⟩,
 ⟨some 92, none, .len (.t 91)⟩,
 ⟨some 93, none, .mv (.c (.d (.int 0)))⟩]) (
 .block 8 (
 .loop L1_impl_PartsOf))) (
 .seq (
 .reg [⟨some 118, none, .mv (.t 11)⟩,
 ⟨some 2, none, .mv (.t 118)⟩]) (
 .ret)))))))),
 [.t 2]⟩

theorem k_impl_PartsOf : cFun Try.prog Try.f59 = some C_impl_PartsOf.erase := by kernel_rfl

end Go.Proofs.Ytjoopfojiiklnaa

/-
  The compiled code of functions of the seat (written by mkcode.py). No condition.
-/
namespace Go.Proofs.Ytjoopfojiiklnaa
open Go.Lift

end Go.Proofs.Ytjoopfojiiklnaa

/-
  The compiled code of functions of the seat (written by mkcode.py). No condition.
-/
namespace Go.Proofs.Ytjoopfojiiklnaa
open Go.Lift

def L0_impl_IsForest : C :=
 .seq (
 .reg [⟨some 63, none, .bin .lss (.t 62) (.t 61)⟩]) (
 .seq (
 .cond (.t 63) (
 .skip) (
 .exit 6)) (
 .seq (
 .block 7 (
 .seq (
 .reg [⟨some 64, none, .mv (.t 62)⟩,
 ⟨some 11, none, .mv (.t 64)⟩]) (
 .seq (
 .reg [⟨some 65, none, .mv (.t 3)⟩,
 ⟨some 66, none, .mv (.t 11)⟩,
 ⟨some 67, none, .idx 1 (.t 65) (.t 66)⟩,
 ⟨some 68, none, .ld (.t 67)⟩,
 ⟨some 69, none, .mv (.t 10)⟩,
 ⟨some 70, none, .bin .eql (.t 68) (.t 69)⟩]) (
 .cond (.t 70) (
 .reg [⟨some 71, none, .mv (.t 3)⟩,
 ⟨some 72, none, .mv (.t 11)⟩,
 ⟨some 73, none, .mv (.t 9)⟩,
 ⟨some 74, none, .idx 1 (.t 71) (.t 72)⟩,
 ⟨none, none, .st 1 (.t 74) (.t 73)⟩]) (
 .skip))))) (
 .reg [⟨some 75, none, .bin .add (.t 62) (.c (.d (.int 1)))⟩,
 ⟨some 62, none, .mv (.t 75)⟩])))

def L1_impl_IsForest : C :=
 .seq (
 .reg [⟨some 42, none, .bin .lss (.t 41) (.t 40)⟩]) (
 .seq (
 .cond (.t 42) (
 .skip) (
 .exit 4)) (
 .seq (
 .block 5 (
 .seq (
 .reg [⟨some 43, none, .idx 1 (.t 39) (.t 41)⟩,
 ⟨some 44, none, .ld (.t 43)⟩,
 ⟨some 8, none, .mv (.t 44)⟩]) (
 .seq (
 .draw [⟨some 45, none, .mv (.t 3)⟩,
 ⟨some 46, none, .mv (.t 5)⟩,
 ⟨some 47, none, .idx 1 (.t 45) (.t 46)⟩,
 ⟨some 48, none, .ld (.t 47)⟩,
 ⟨some 49, none, .mv (.t 3)⟩,
 ⟨some 50, none, .fld 3 (.t 1)⟩,
 ⟨some 51, none, .ld (.t 50)⟩,
 ⟨some 52, none, .len (.t 51)⟩,
 ⟨some 53, none, .mv (.t 8)⟩,
 ⟨some 54, none, .bin .add (.t 52) (.t 53)⟩,
 ⟨some 55, none, .idx 1 (.t 49) (.t 54)⟩,
 ⟨some 56, none, .ld (.t 55)⟩,
 ⟨some 9, none, .mv (.t 48)⟩]
 [⟨some 10, none, .mv (.t 56)⟩]) (
 .seq (
 .seq (
 .reg [⟨some 57, none, .mv (.t 9)⟩,
 ⟨some 58, none, .mv (.t 10)⟩,
 ⟨some 59, none, .bin .eql (.t 57) (.t 58)⟩]) (
 .cond (.t 59) (
 .seq (
 .reg [⟨some 2, none, .mv (.c (.d (.bool false)))⟩]) (
 .ret)) (
 .skip))) (
 .seq (
 .reg [⟨some 60, none, .mv (.t 3)⟩,
 ⟨some 61, none, .len (.t 60)⟩,
 ⟨some 62, none, .mv (.c (.d (.int 0)))⟩]) (
 .block 6 (
 .loop L0_impl_IsForest))))))) (
 .reg [⟨some 76, none, .bin .add (.t 41) (.c (.d (.int 1)))⟩,
 ⟨some 41, none, .mv (.t 76)⟩])))

def L2_impl_IsForest : C :=
 .seq (
 .reg [⟨some 34, none, .bin .lss (.t 33) (.t 32)⟩]) (
 .seq (
 .cond (.t 34) (
 .skip) (
 .exit 2)) (
 .seq (
 .block 3 (
 .seq (
 .reg [⟨some 35, none, .mv (.t 33)⟩,
 ⟨some 36, none, .idx 3 (.t 31) (.t 33)⟩,
 ⟨some 37, none, .ldn 3 (.t 36)⟩,
 ⟨some 6, none, .zer [.nil, .nil, .nil]⟩,
 ⟨some 5, none, .mv (.t 35)⟩,
 ⟨none, none, .st 3 (.t 6) (.t 37)⟩]) (
 .seq (
 .reg [⟨some 38, none, .fld 0 (.t 6)⟩,
 ⟨some 39, none, .ld (.t 38)⟩,
 ⟨some 40, none, .len (.t 39)⟩,
 ⟨some 41, none, .mv (.c (.d (.int 0)))⟩]) (
 .block 4 (
 .loop L1_impl_IsForest))))) (
 .reg [⟨some 77, none, .bin .add (.t 33) (.c (.d (.int 1)))⟩,
 ⟨some 33, none, .mv (.t 77)⟩])))

def L3_impl_IsForest : C :=
 .seq (
 .reg [⟨some 23, none, .bin .lss (.t 22) (.t 21)⟩]) (
 .seq (
 .cond (.t 23) (
 .skip) (
 .exit 0)) (
 .seq (
 .block 1 (
 .seq (
 .reg [⟨some 24, none, .mv (.t 22)⟩,
 ⟨some 4, none, .mv (.t 24)⟩]) (
 .reg [⟨some 25, none, .mv (.t 3)⟩,
 ⟨some 26, none, .mv (.t 4)⟩,
 ⟨some 27, none, .mv (.t 4)⟩,
 ⟨some 28, none, .idx 1 (.t 25) (.t 26)⟩,
 ⟨none, none, .st 1 (.t 28) (.t 27)⟩]))) (
 .reg [⟨some 29, none, .bin .add (.t 22) (.c (.d (.int 1)))⟩,
 ⟨some 22, none, .mv (.t 29)⟩])))

def C_impl_IsForest : Fun := ⟨1, 78,
 .seq (
 .reg [⟨some 1, none, .box (.t 0)⟩,
 ⟨some 2, none, .mv (.c (.d (.bool false)))⟩]) (
 .seq (
 .seq (
 .reg [⟨some 12, none, .ldn 5 (.t 1)⟩,
 ⟨some 13, none, .call 70 [(.t 12)]⟩,
 ⟨some 14, none, .not (.t 13)⟩]) (
 .cond (.t 14) (
 .seq (
 .reg [⟨some 2, none, .mv (.c (.d (.bool false)))⟩]) (
 .ret)) (
 .skip))) (
 .seq (
 .reg [⟨some 15, none, .fld 3 (.t 1)⟩,
 ⟨some 16, none, .ld (.t 15)⟩,
 ⟨some 17, none, .len (.t 16)⟩,
 ⟨some 18, none, .bin .add (.t 17) (.c (.d (.int 100)))⟩,
 ⟨some 19, none, .make 1 8 [.d (.int 0)] (.t 18) (.t 18)⟩,
 ⟨some 3, none, .mv (.t 19)⟩]) (
 .seq (
 .seq (
 .reg [⟨some 20, none, .mv (.t 3)⟩,
 ⟨some 21, none, .len (.t 20)⟩,
 ⟨some 22, none, .mv (.c (.d (.int 0)))⟩]) (
 .block 0 (
 .loop L3_impl_IsForest))) (
 .seq (
 .seq (
 .reg [⟨some 30, none, .fld 3 (.t 1)⟩,
 ⟨some 31, none, .ld (.t 30)⟩,
 ⟨some 32, none, .len (.t 31)⟩,
 ⟨some 33, none, .mv (.c (.d (.int 0)))⟩]) (
 .block 2 (
 .loop L2_impl_IsForest))) (
 .seq (
 .reg [⟨some 2, none, .mv (.c (.d (.bool true)))⟩]) (
 .ret)))))),
 [.t 2]⟩

theorem k_impl_IsForest : cFun Try.prog Try.f18 = some C_impl_IsForest.erase := by kernel_rfl

def L0_spec_PartsOf : C :=
 .seq (
 .reg [⟨some 99, none, .bin .lss (.t 98) (.t 97)⟩]) (
 .seq (
 .cond (.t 99) (
 .skip) (
 .exit 10)) (
 .seq (
 .block 11 (
 .seq (
 .reg [⟨some 100, none, .mv (.t 98)⟩,
 ⟨some 101, none, .idx 1 (.t 96) (.t 98)⟩,
 ⟨some 102, none, .ld (.t 101)⟩,
 ⟨some 15, none, .mv (.t 100)⟩,
 ⟨some 16, none, .mv (.t 102)⟩]) (
 .seq (
 .reg [⟨some 103, none, .mv (.t 16)⟩,
 ⟨some 104, none, .mv (.t 13)⟩,
 ⟨some 105, none, .bin .eql (.t 103) (.t 104)⟩]) (
 .cond (.t 105) (
 .reg [⟨some 106, none, .mv (.t 14)⟩,
 ⟨some 107, none, .mv (.t 15)⟩,
 ⟨some 108, none, .mksl 1 1 [.d (.int 0)] [(0, 1, (.t 107))]⟩,
 ⟨some 109, none, .app 1 8 [.d (.int 0)] (.t 106) (.t 108)⟩,
 ⟨some 14, none, .mv (.t 109)⟩]) (
 .skip))))) (
 .reg [⟨some 110, none, .bin .add (.t 98) (.c (.d (.int 1)))⟩,
 ⟨some 98, none, .mv (.t 110)⟩])))

def L1_spec_PartsOf : C :=
 .seq (
 .reg [⟨some 93, none, .bin .lss (.t 92) (.t 91)⟩]) (
 .seq (
 .cond (.t 93) (
 .skip) (
 .exit 8)) (
 .seq (
 .block 9 (
 .seq (
 .reg [⟨some 94, none, .mv (.t 92)⟩,
 ⟨some 13, none, .mv (.t 94)⟩]) (
 .seq (
 .reg [⟨some 95, none, .mksl 1 0 [.d (.int 0)] []⟩,
 ⟨some 14, none, .mv (.t 95)⟩]) (
 .seq (
 .seq (
 .reg [⟨some 96, none, .mv (.t 3)⟩,
 ⟨some 97, none, .len (.t 96)⟩,
 ⟨some 98, none, .mv (.c (.d (.int 0)))⟩]) (
 .block 10 (
 .loop L0_spec_PartsOf))) (
 .seq (
 .reg [⟨some 111, none, .mv (.t 14)⟩,
 ⟨some 112, none, .len (.t 111)⟩,
 ⟨some 113, none, .bin .gtr (.t 112) (.c (.d (.int 0)))⟩]) (
 .cond (.t 113) (
 .reg [⟨some 114, none, .mv (.t 12)⟩,
 ⟨some 115, none, .mv (.t 14)⟩,
 ⟨some 116, none, .mksl 1 1 [.nil] [(0, 1, (.t 115))]⟩,
 ⟨some 117, none, .app 1 24 [.nil] (.t 114) (.t 116)⟩,
 ⟨some 12, none, .mv (.t 117)⟩]) (
 .skip))))))) (
 .reg [⟨some 118, none, .bin .add (.t 92) (.c (.d (.int 1)))⟩,
 ⟨some 92, none, .mv (.t 118)⟩])))

def L2_spec_PartsOf : C :=
 .seq (
 .reg [⟨some 74, none, .bin .lss (.t 73) (.t 72)⟩]) (
 .seq (
 .cond (.t 74) (
 .skip) (
 .exit 6)) (
 .seq (
 .block 7 (
 .seq (
 .reg [⟨some 75, none, .mv (.t 73)⟩,
 ⟨some 11, none, .mv (.t 75)⟩]) (
 .seq (
 .reg [⟨some 76, none, .mv (.t 3)⟩,
 ⟨some 77, none, .mv (.t 11)⟩,
 ⟨some 78, none, .idx 1 (.t 76) (.t 77)⟩,
 ⟨some 79, none, .ld (.t 78)⟩,
 ⟨some 80, none, .mv (.t 9)⟩,
 ⟨some 81, none, .bin .eql (.t 79) (.t 80)⟩]) (
 .cond (.t 81) (
 .reg [⟨some 82, none, .mv (.t 3)⟩,
 ⟨some 83, none, .mv (.t 11)⟩,
 ⟨some 84, none, .mv (.t 10)⟩,
 ⟨some 85, none, .idx 1 (.t 82) (.t 83)⟩,
 ⟨none, none, .st 1 (.t 85) (.t 84)⟩]) (
 .skip))))) (
 .reg [⟨some 86, none, .bin .add (.t 73) (.c (.d (.int 1)))⟩,
 ⟨some 73, none, .mv (.t 86)⟩])))

def L3_spec_PartsOf : C :=
 .seq (
 .reg [⟨some 46, none, .bin .lss (.t 45) (.t 44)⟩]) (
 .seq (
 .cond (.t 46) (
 .skip) (
 .exit 4)) (
 .seq (
 .block 5 (
 .seq (
 .reg [⟨some 47, none, .mv (.t 45)⟩,
 ⟨some 48, none, .idx 3 (.t 43) (.t 45)⟩,
 ⟨some 49, none, .ldn 3 (.t 48)⟩,
 ⟨some 8, none, .zer [.nil, .nil, .nil]⟩,
 ⟨some 7, none, .mv (.t 47)⟩,
 ⟨none, none, .st 3 (.t 8) (.t 49)⟩]) (
 .seq (
 .reg [⟨some 50, none, .ldn 3 (.t 6)⟩,
 ⟨some 51, none, .ldn 3 (.t 8)⟩,
 ⟨some 52, none, .call 106 [(.t 50), (.t 51)]⟩]) (
 .cond (.t 52) (
 .seq (
 .draw [⟨some 53, none, .mv (.t 3)⟩,
 ⟨some 54, none, .mv (.t 5)⟩,
 ⟨some 55, none, .idx 1 (.t 53) (.t 54)⟩,
 ⟨some 56, none, .ld (.t 55)⟩,
 ⟨some 57, none, .mv (.t 3)⟩,
 ⟨some 58, none, .mv (.t 7)⟩,
 ⟨some 59, none, .idx 1 (.t 57) (.t 58)⟩,
 ⟨some 60, none, .ld (.t 59)⟩]
 [⟨some 61, none, .mnx true (.t 56) (.t 60)⟩,
 ⟨some 9, none, .mv (.t 61)⟩]) (
 .seq (
 .draw [⟨some 62, none, .mv (.t 3)⟩,
 ⟨some 63, none, .mv (.t 5)⟩,
 ⟨some 64, none, .idx 1 (.t 62) (.t 63)⟩,
 ⟨some 65, none, .ld (.t 64)⟩,
 ⟨some 66, none, .mv (.t 3)⟩,
 ⟨some 67, none, .mv (.t 7)⟩,
 ⟨some 68, none, .idx 1 (.t 66) (.t 67)⟩,
 ⟨some 69, none, .ld (.t 68)⟩]
 [⟨some 70, none, .mnx false (.t 65) (.t 69)⟩,
 ⟨some 10, none, .mv (.t 70)⟩]) (
 .seq (
 .reg [⟨some 71, none, .mv (.t 3)⟩,
 ⟨some 72, none, .len (.t 71)⟩,
 ⟨some 73, none, .mv (.c (.d (.int 0)))⟩]) (
 .block 6 (
 .loop L2_spec_PartsOf))))) (
 .skip))))) (
 .reg [⟨some 87, none, .bin .add (.t 45) (.c (.d (.int 1)))⟩,
 ⟨some 45, none, .mv (.t 87)⟩])))

def L4_spec_PartsOf : C :=
 .seq (
 .reg [⟨some 36, none, .bin .lss (.t 35) (.t 34)⟩]) (
 .seq (
 .cond (.t 36) (
 .skip) (
 .exit 2)) (
 .seq (
 .block 3 (
 .seq (
 .reg [⟨some 37, none, .mv (.t 35)⟩,
 ⟨some 38, none, .idx 3 (.t 33) (.t 35)⟩,
 ⟨some 39, none, .ldn 3 (.t 38)⟩,
 ⟨some 6, none, .zer [.nil, .nil, .nil]⟩,
 ⟨some 5, none, .mv (.t 37)⟩,
 ⟨none, none, .st 3 (.t 6) (.t 39)⟩]) (
 .seq (
 .reg [⟨some 40, none, .fld 3 (.t 1)⟩,
 ⟨some 41, none, .ld (.t 40)⟩,
 ⟨some 42, none, .mv (.t 5)⟩,
 ⟨some 43, none, .slc 3 (.t 41) none (some (.t 42))⟩,
 ⟨some 44, none, .len (.t 43)⟩,
 ⟨some 45, none, .mv (.c (.d (.int 0)))⟩]) (
 .block 4 (
 .loop L3_spec_PartsOf))))) (
 .reg [⟨some 88, none, .bin .add (.t 35) (.c (.d (.int 1)))⟩,
 ⟨some 35, none, .mv (.t 88)⟩])))

def L5_spec_PartsOf : C :=
 .seq (
 .reg [⟨some 25, none, .bin .lss (.t 24) (.t 23)⟩]) (
 .seq (
 .cond (.t 25) (
 .skip) (
 .exit 0)) (
 .seq (
 .block 1 (
 .seq (
 .reg [⟨some 26, none, .mv (.t 24)⟩,
 ⟨some 4, none, .mv (.t 26)⟩]) (
 .reg [⟨some 27, none, .mv (.t 3)⟩,
 ⟨some 28, none, .mv (.t 4)⟩,
 ⟨some 29, none, .mksl 1 1 [.d (.int 0)] [(0, 1, (.t 28))]⟩,
 ⟨some 30, none, .app 1 8 [.d (.int 0)] (.t 27) (.t 29)⟩,
 ⟨some 3, none, .mv (.t 30)⟩]))) (
 .reg [⟨some 31, none, .bin .add (.t 24) (.c (.d (.int 1)))⟩,
 ⟨some 24, none, .mv (.t 31)⟩])))

def C_spec_PartsOf : Fun := ⟨1, 120,
 .seq (
 .reg [⟨some 1, none, .box (.t 0)⟩,
 ⟨some 2, none, .mv (.c (.nil))⟩]) (
 .seq (
 .seq (
 .reg [⟨some 17, none, .ldn 5 (.t 1)⟩,
 ⟨some 18, none, .call 68 [(.t 17)]⟩,
 ⟨some 19, none, .not (.t 18)⟩]) (
 .cond (.t 19) (
 .seq (
 .reg [⟨some 2, none, .mv (.c (.nil))⟩]) (
 .ret)) (
 .skip))) (
 .seq (
 .reg [⟨some 20, none, .mksl 1 0 [.d (.int 0)] []⟩,
 ⟨some 3, none, .mv (.t 20)⟩]) (
 .seq (
 .seq (
 .reg [⟨some 21, none, .fld 3 (.t 1)⟩,
 ⟨some 22, none, .ld (.t 21)⟩,
 ⟨some 23, none, .len (.t 22)⟩,
 ⟨some 24, none, .mv (.c (.d (.int 0)))⟩]) (
 .block 0 (
 .loop L5_spec_PartsOf))) (
 .seq (
 .seq (
 .reg [⟨some 32, none, .fld 3 (.t 1)⟩,
 ⟨some 33, none, .ld (.t 32)⟩,
 ⟨some 34, none, .len (.t 33)⟩,
 ⟨some 35, none, .mv (.c (.d (.int 0)))⟩]) (
 .block 2 (
 .loop L4_spec_PartsOf))) (
 .seq (
 .reg [⟨some 89, none, .mksl 1 0 [.nil] []⟩,
 ⟨some 12, none, .mv (.t 89)⟩]) (
 .seq (
 .seq (
 .reg [⟨some 90, none, .mv (.t 3)⟩,
 ⟨some 91, none, .len (.t 90)⟩,
 ⟨some 92, none, .mv (.c (.d (.int 0)))⟩]) (
 .block 8 (
 .loop L1_spec_PartsOf))) (
 .seq (
 .reg [⟨some 119, none, .mv (.t 12)⟩,
 ⟨some 2, none, .mv (.t 119)⟩]) (
 .ret)))))))),
 [.t 2]⟩

theorem k_spec_PartsOf : cFun Try.prog Try.f58 = some C_spec_PartsOf.erase := by kernel_rfl

def L0_laws_eqIntSS : C :=
 .seq (
 .seq (
 .reg [⟨some 11, none, .mv (.t 5)⟩,
 ⟨some 12, none, .mv (.t 0)⟩,
 ⟨some 13, none, .len (.t 12)⟩,
 ⟨some 14, none, .bin .lss (.t 11) (.t 13)⟩]) (
 .cond (.t 14) (
 .skip) (
 .exit 0))) (
 .seq (
 .block 1 (
 .seq (
 .draw [⟨some 17, none, .mv (.t 0)⟩,
 ⟨some 18, none, .mv (.t 5)⟩,
 ⟨some 19, none, .idx 1 (.t 17) (.t 18)⟩,
 ⟨some 20, none, .ld (.t 19)⟩,
 ⟨some 21, none, .mv (.t 1)⟩,
 ⟨some 22, none, .mv (.t 5)⟩,
 ⟨some 23, none, .idx 1 (.t 21) (.t 22)⟩,
 ⟨some 24, none, .ld (.t 23)⟩]
 [⟨some 25, none, .call 22 [(.t 20), (.t 24)]⟩,
 ⟨some 26, none, .not (.t 25)⟩]) (
 .cond (.t 26) (
 .seq (
 .reg [⟨some 4, none, .mv (.c (.d (.bool false)))⟩]) (
 .ret)) (
 .skip)))) (
 .reg [⟨some 15, none, .mv (.t 5)⟩,
 ⟨some 16, none, .bin .add (.t 15) (.c (.d (.int 1)))⟩,
 ⟨some 5, none, .mv (.t 16)⟩]))

def C_laws_eqIntSS : Fun := ⟨2, 27,
 .seq (
 .reg [⟨some 4, none, .mv (.c (.d (.bool false)))⟩]) (
 .seq (
 .seq (
 .reg [⟨some 6, none, .mv (.t 0)⟩,
 ⟨some 7, none, .len (.t 6)⟩,
 ⟨some 8, none, .mv (.t 1)⟩,
 ⟨some 9, none, .len (.t 8)⟩,
 ⟨some 10, none, .bin .neq (.t 7) (.t 9)⟩]) (
 .cond (.t 10) (
 .seq (
 .reg [⟨some 4, none, .mv (.c (.d (.bool false)))⟩]) (
 .ret)) (
 .skip))) (
 .seq (
 .seq (
 .reg [⟨some 5, none, .mv (.c (.d (.int 0)))⟩]) (
 .block 0 (
 .loop L0_laws_eqIntSS))) (
 .seq (
 .reg [⟨some 4, none, .mv (.c (.d (.bool true)))⟩]) (
 .ret)))),
 [.t 4]⟩

theorem k_laws_eqIntSS : cFun Try.prog Try.f60 = some C_laws_eqIntSS.erase := by kernel_rfl

def L0_laws_markIntSS : C :=
 .seq (
 .seq (
 .reg [⟨some 6, none, .mv (.t 5)⟩,
 ⟨some 7, none, .mv (.t 0)⟩,
 ⟨some 8, none, .len (.t 7)⟩,
 ⟨some 9, none, .bin .lss (.t 6) (.t 8)⟩]) (
 .gh (.cond (.t 9) (
 .skip) (
 .exit 0)))) (
 .seq (
 .block 1 (
 .reg [⟨some 12, none, .mv (.t 0)⟩,
 ⟨some 13, none, .mv (.t 5)⟩,
 ⟨some 14, none, .idx 1 (.t 12) (.t 13)⟩,
 ⟨some 15, none, .ld (.t 14)⟩,
 ⟨some 16, none, .mv (.t 1)⟩,
 ⟨some 17, none, .call 24 [(.t 15), (.t 16)]⟩,
 ⟨some 1, none, .mv (.t 17)⟩])) (
 .reg [⟨some 10, none, .mv (.t 5)⟩,
 ⟨some 11, none, .bin .add (.t 10) (.c (.d (.int 1)))⟩,
 ⟨some 5, none, .mv (.t 11)⟩]))

def C_laws_markIntSS : Fun := ⟨2, 19,
 .seq (
 .reg [⟨some 4, none, .mv (.c (.d (.int 0)))⟩]) (
 .seq (
 .seq (
 .reg [⟨some 5, none, .mv (.c (.d (.int 0)))⟩]) (
 .block 0 (
 .loop L0_laws_markIntSS))) (
 .seq (
 .reg [⟨some 18, none, .mv (.t 1)⟩,
 ⟨some 4, none, .mv (.t 18)⟩]) (
 .ret))),
 [.t 4]⟩

theorem k_laws_markIntSS : cFun Try.prog Try.f61 = some C_laws_markIntSS.erase := by kernel_rfl

def L0_laws_heldIntSS : C :=
 .seq (
 .seq (
 .reg [⟨some 6, none, .mv (.t 5)⟩,
 ⟨some 7, none, .mv (.t 0)⟩,
 ⟨some 8, none, .len (.t 7)⟩,
 ⟨some 9, none, .bin .lss (.t 6) (.t 8)⟩]) (
 .cond (.t 9) (
 .skip) (
 .exit 0))) (
 .seq (
 .block 1 (
 .seq (
 .reg [⟨some 12, none, .mv (.t 0)⟩,
 ⟨some 13, none, .mv (.t 5)⟩,
 ⟨some 14, none, .idx 1 (.t 12) (.t 13)⟩,
 ⟨some 15, none, .ld (.t 14)⟩,
 ⟨some 16, none, .mv (.t 1)⟩,
 ⟨some 17, none, .call 25 [(.t 15), (.t 16)]⟩,
 ⟨some 1, none, .mv (.t 17)⟩]) (
 .seq (
 .reg [⟨some 18, none, .mv (.t 1)⟩,
 ⟨some 19, none, .bin .lss (.t 18) (.c (.d (.int 0)))⟩]) (
 .cond (.t 19) (
 .seq (
 .reg [⟨some 4, none, .mv (.c (.d (.int (-1))))⟩]) (
 .ret)) (
 .skip))))) (
 .reg [⟨some 10, none, .mv (.t 5)⟩,
 ⟨some 11, none, .bin .add (.t 10) (.c (.d (.int 1)))⟩,
 ⟨some 5, none, .mv (.t 11)⟩]))

def C_laws_heldIntSS : Fun := ⟨2, 21,
 .seq (
 .reg [⟨some 4, none, .mv (.c (.d (.int 0)))⟩]) (
 .seq (
 .seq (
 .reg [⟨some 5, none, .mv (.c (.d (.int 0)))⟩]) (
 .block 0 (
 .loop L0_laws_heldIntSS))) (
 .seq (
 .reg [⟨some 20, none, .mv (.t 1)⟩,
 ⟨some 4, none, .mv (.t 20)⟩]) (
 .ret))),
 [.t 4]⟩

theorem k_laws_heldIntSS : cFun Try.prog Try.f62 = some C_laws_heldIntSS.erase := by kernel_rfl

end Go.Proofs.Ytjoopfojiiklnaa

/-
  The compiled code of functions of the seat (written by mkcode.py). No condition.
-/
namespace Go.Proofs.Ytjoopfojiiklnaa
open Go.Lift

end Go.Proofs.Ytjoopfojiiklnaa

/-
  The compiled code of functions of the seat (written by mkcode.py). No condition.
-/
namespace Go.Proofs.Ytjoopfojiiklnaa
open Go.Lift

def L0_laws_toIntS : C :=
      .seq (
      .seq (
      .reg [⟨some 8, none, .mv (.t 4)⟩,
            ⟨some 9, none, .mv (.t 0)⟩,
            ⟨some 10, none, .len (.t 9)⟩,
            ⟨some 11, none, .bin .lss (.t 8) (.t 10)⟩]) (
      .cond (.t 11) (
        .skip) (
        .exit 0))) (
      .seq (
      .block 1 (
        .reg [⟨some 14, none, .mv (.t 3)⟩,
              ⟨some 15, none, .mv (.t 4)⟩,
              ⟨some 16, none, .mv (.t 0)⟩,
              ⟨some 17, none, .mv (.t 4)⟩,
              ⟨some 18, none, .idx 1 (.t 16) (.t 17)⟩,
              ⟨some 19, none, .ld (.t 18)⟩,
              ⟨some 20, none, .idx 1 (.t 14) (.t 15)⟩,
              ⟨none, none, .st 1 (.t 20) (.t 19)⟩])) (
      .reg [⟨some 12, none, .mv (.t 4)⟩,
            ⟨some 13, none, .bin .add (.t 12) (.c (.d (.int 1)))⟩,
            ⟨some 4, none, .mv (.t 13)⟩]))

def C_laws_toIntS : Fun := ⟨1, 22,
  .seq (
  .reg [⟨some 2, none, .mv (.c (.nil))⟩]) (
  .seq (
  .reg [⟨some 5, none, .mv (.t 0)⟩,
        ⟨some 6, none, .len (.t 5)⟩,
        ⟨some 7, none, .make 1 8 [.d (.int 0)] (.t 6) (.t 6)⟩,
        ⟨some 3, none, .mv (.t 7)⟩]) (
  .seq (
  .seq (
  .reg [⟨some 4, none, .mv (.c (.d (.int 0)))⟩]) (
  .block 0 (
    .loop L0_laws_toIntS))) (
  .seq (
  .reg [⟨some 21, none, .mv (.t 3)⟩,
        ⟨some 2, none, .mv (.t 21)⟩]) (
  .ret)))),
  [.t 2]⟩

theorem k_laws_toIntS : cFun Try.prog Try.f32 = some C_laws_toIntS.erase := by kernel_rfl

def C_laws_toRing : Fun := ⟨1, 14,
  .seq (
  .reg [⟨some 1, none, .box (.t 0)⟩,
        ⟨some 2, none, .zer [.d (.int 0), .d (.int 0), .d (.int 0)]⟩]) (
  .seq (
  .reg [⟨some 3, none, .zer [.d (.int 0), .d (.int 0), .d (.int 0)]⟩]) (
  .seq (
  .reg [⟨some 4, none, .fld 0 (.t 1)⟩,
        ⟨some 5, none, .ld (.t 4)⟩,
        ⟨some 6, none, .fld 0 (.t 3)⟩,
        ⟨none, none, .st 1 (.t 6) (.t 5)⟩]) (
  .seq (
  .reg [⟨some 7, none, .fld 1 (.t 1)⟩,
        ⟨some 8, none, .ld (.t 7)⟩,
        ⟨some 9, none, .fld 1 (.t 3)⟩,
        ⟨none, none, .st 1 (.t 9) (.t 8)⟩]) (
  .seq (
  .reg [⟨some 10, none, .fld 2 (.t 1)⟩,
        ⟨some 11, none, .ld (.t 10)⟩,
        ⟨some 12, none, .fld 2 (.t 3)⟩,
        ⟨none, none, .st 1 (.t 12) (.t 11)⟩]) (
  .seq (
  .reg [⟨some 13, none, .ldn 3 (.t 3)⟩,
        ⟨none, none, .st 3 (.t 2) (.t 13)⟩]) (
  .ret)))))),
  [.cell 2 3]⟩

theorem k_laws_toRing : cFun Try.prog Try.f45 = some C_laws_toRing.erase := by kernel_rfl

def C_laws_toTensor : Fun := ⟨1, 17,
  .seq (
  .reg [⟨some 1, none, .box (.t 0)⟩,
        ⟨some 2, none, .zer [.nil, .nil, .nil]⟩]) (
  .seq (
  .reg [⟨some 3, none, .zer [.nil, .nil, .nil]⟩]) (
  .seq (
  .reg [⟨some 4, none, .fld 0 (.t 1)⟩,
        ⟨some 5, none, .ld (.t 4)⟩,
        ⟨some 6, none, .call 32 [(.t 5)]⟩,
        ⟨some 7, none, .fld 0 (.t 3)⟩,
        ⟨none, none, .st 1 (.t 7) (.t 6)⟩]) (
  .seq (
  .reg [⟨some 8, none, .fld 1 (.t 1)⟩,
        ⟨some 9, none, .ld (.t 8)⟩,
        ⟨some 10, none, .call 32 [(.t 9)]⟩,
        ⟨some 11, none, .fld 1 (.t 3)⟩,
        ⟨none, none, .st 1 (.t 11) (.t 10)⟩]) (
  .seq (
  .reg [⟨some 12, none, .fld 2 (.t 1)⟩,
        ⟨some 13, none, .ld (.t 12)⟩,
        ⟨some 14, none, .call 32 [(.t 13)]⟩,
        ⟨some 15, none, .fld 2 (.t 3)⟩,
        ⟨none, none, .st 1 (.t 15) (.t 14)⟩]) (
  .seq (
  .reg [⟨some 16, none, .ldn 3 (.t 3)⟩,
        ⟨none, none, .st 3 (.t 2) (.t 16)⟩]) (
  .ret)))))),
  [.cell 2 3]⟩

theorem k_laws_toTensor : cFun Try.prog Try.f47 = some C_laws_toTensor.erase := by kernel_rfl

def C_laws_szIntS : Fun := ⟨2, 12,
  .seq (
  .reg [⟨some 4, none, .mv (.c (.d (.int 0)))⟩]) (
  .seq (
  .reg [⟨some 5, none, .mv (.t 1)⟩,
        ⟨some 6, none, .mv (.t 0)⟩,
        ⟨some 7, none, .len (.t 6)⟩,
        ⟨some 8, none, .bin .sub (.t 5) (.t 7)⟩,
        ⟨some 1, none, .mv (.t 8)⟩]) (
  .seq (
  .seq (
  .reg [⟨some 9, none, .mv (.t 1)⟩,
        ⟨some 10, none, .bin .lss (.t 9) (.c (.d (.int 0)))⟩]) (
  .cond (.t 10) (
    .seq (
    .reg [⟨some 4, none, .mv (.c (.d (.int (-1))))⟩]) (
    .ret)) (
    .skip))) (
  .seq (
  .reg [⟨some 11, none, .mv (.t 1)⟩,
        ⟨some 4, none, .mv (.t 11)⟩]) (
  .ret)))),
  [.t 4]⟩

theorem k_laws_szIntS : cFun Try.prog Try.f67 = some C_laws_szIntS.erase := by kernel_rfl

def C_laws_szTensor : Fun := ⟨2, 24,
  .seq (
  .reg [⟨some 2, none, .box (.t 0)⟩,
        ⟨some 4, none, .mv (.c (.d (.int 0)))⟩]) (
  .seq (
  .reg [⟨some 5, none, .fld 0 (.t 2)⟩,
        ⟨some 6, none, .ld (.t 5)⟩,
        ⟨some 7, none, .mv (.t 1)⟩,
        ⟨some 8, none, .call 67 [(.t 6), (.t 7)]⟩,
        ⟨some 1, none, .mv (.t 8)⟩]) (
  .seq (
  .seq (
  .reg [⟨some 9, none, .mv (.t 1)⟩,
        ⟨some 10, none, .bin .lss (.t 9) (.c (.d (.int 0)))⟩]) (
  .cond (.t 10) (
    .seq (
    .reg [⟨some 4, none, .mv (.c (.d (.int (-1))))⟩]) (
    .ret)) (
    .skip))) (
  .seq (
  .reg [⟨some 11, none, .fld 1 (.t 2)⟩,
        ⟨some 12, none, .ld (.t 11)⟩,
        ⟨some 13, none, .mv (.t 1)⟩,
        ⟨some 14, none, .call 67 [(.t 12), (.t 13)]⟩,
        ⟨some 1, none, .mv (.t 14)⟩]) (
  .seq (
  .seq (
  .reg [⟨some 15, none, .mv (.t 1)⟩,
        ⟨some 16, none, .bin .lss (.t 15) (.c (.d (.int 0)))⟩]) (
  .cond (.t 16) (
    .seq (
    .reg [⟨some 4, none, .mv (.c (.d (.int (-1))))⟩]) (
    .ret)) (
    .skip))) (
  .seq (
  .reg [⟨some 17, none, .fld 2 (.t 2)⟩,
        ⟨some 18, none, .ld (.t 17)⟩,
        ⟨some 19, none, .mv (.t 1)⟩,
        ⟨some 20, none, .call 67 [(.t 18), (.t 19)]⟩,
        ⟨some 1, none, .mv (.t 20)⟩]) (
  .seq (
  .seq (
  .reg [⟨some 21, none, .mv (.t 1)⟩,
        ⟨some 22, none, .bin .lss (.t 21) (.c (.d (.int 0)))⟩]) (
  .cond (.t 22) (
    .seq (
    .reg [⟨some 4, none, .mv (.c (.d (.int (-1))))⟩]) (
    .ret)) (
    .skip))) (
  .seq (
  .reg [⟨some 23, none, .mv (.t 1)⟩,
        ⟨some 4, none, .mv (.t 23)⟩]) (
  .ret)))))))),
  [.t 4]⟩

theorem k_laws_szTensor : cFun Try.prog Try.f43 = some C_laws_szTensor.erase := by kernel_rfl

def L0_laws_eqIntS : C :=
      .seq (
      .seq (
      .reg [⟨some 11, none, .mv (.t 5)⟩,
            ⟨some 12, none, .mv (.t 0)⟩,
            ⟨some 13, none, .len (.t 12)⟩,
            ⟨some 14, none, .bin .lss (.t 11) (.t 13)⟩]) (
      .cond (.t 14) (
        .skip) (
        .exit 0))) (
      .seq (
      .block 1 (
        .seq (
        .draw [⟨some 17, none, .mv (.t 0)⟩,
               ⟨some 18, none, .mv (.t 5)⟩,
               ⟨some 19, none, .idx 1 (.t 17) (.t 18)⟩,
               ⟨some 20, none, .ld (.t 19)⟩,
               ⟨some 21, none, .mv (.t 1)⟩,
               ⟨some 22, none, .mv (.t 5)⟩,
               ⟨some 23, none, .idx 1 (.t 21) (.t 22)⟩,
               ⟨some 24, none, .ld (.t 23)⟩]
          [⟨some 25, none, .bin .neq (.t 20) (.t 24)⟩]) (
        .cond (.t 25) (
          .seq (
          .reg [⟨some 4, none, .mv (.c (.d (.bool false)))⟩]) (
          .ret)) (
          .skip)))) (
      .reg [⟨some 15, none, .mv (.t 5)⟩,
            ⟨some 16, none, .bin .add (.t 15) (.c (.d (.int 1)))⟩,
            ⟨some 5, none, .mv (.t 16)⟩]))

def C_laws_eqIntS : Fun := ⟨2, 26,
  .seq (
  .reg [⟨some 4, none, .mv (.c (.d (.bool false)))⟩]) (
  .seq (
  .seq (
  .reg [⟨some 6, none, .mv (.t 0)⟩,
        ⟨some 7, none, .len (.t 6)⟩,
        ⟨some 8, none, .mv (.t 1)⟩,
        ⟨some 9, none, .len (.t 8)⟩,
        ⟨some 10, none, .bin .neq (.t 7) (.t 9)⟩]) (
  .cond (.t 10) (
    .seq (
    .reg [⟨some 4, none, .mv (.c (.d (.bool false)))⟩]) (
    .ret)) (
    .skip))) (
  .seq (
  .seq (
  .reg [⟨some 5, none, .mv (.c (.d (.int 0)))⟩]) (
  .block 0 (
    .loop L0_laws_eqIntS))) (
  .seq (
  .reg [⟨some 4, none, .mv (.c (.d (.bool true)))⟩]) (
  .ret)))),
  [.t 4]⟩

theorem k_laws_eqIntS : cFun Try.prog Try.f22 = some C_laws_eqIntS.erase := by kernel_rfl

def C_laws_eqTensor : Fun := ⟨2, 23,
  .seq (
  .reg [⟨some 2, none, .box (.t 0)⟩,
        ⟨some 3, none, .box (.t 1)⟩,
        ⟨some 4, none, .mv (.c (.d (.bool false)))⟩]) (
  .seq (
  .seq (
  .reg [⟨some 5, none, .fld 0 (.t 2)⟩,
        ⟨some 6, none, .ld (.t 5)⟩,
        ⟨some 7, none, .fld 0 (.t 3)⟩,
        ⟨some 8, none, .ld (.t 7)⟩,
        ⟨some 9, none, .call 22 [(.t 6), (.t 8)]⟩,
        ⟨some 10, none, .not (.t 9)⟩]) (
  .cond (.t 10) (
    .seq (
    .reg [⟨some 4, none, .mv (.c (.d (.bool false)))⟩]) (
    .ret)) (
    .skip))) (
  .seq (
  .seq (
  .reg [⟨some 11, none, .fld 1 (.t 2)⟩,
        ⟨some 12, none, .ld (.t 11)⟩,
        ⟨some 13, none, .fld 1 (.t 3)⟩,
        ⟨some 14, none, .ld (.t 13)⟩,
        ⟨some 15, none, .call 22 [(.t 12), (.t 14)]⟩,
        ⟨some 16, none, .not (.t 15)⟩]) (
  .cond (.t 16) (
    .seq (
    .reg [⟨some 4, none, .mv (.c (.d (.bool false)))⟩]) (
    .ret)) (
    .skip))) (
  .seq (
  .seq (
  .reg [⟨some 17, none, .fld 2 (.t 2)⟩,
        ⟨some 18, none, .ld (.t 17)⟩,
        ⟨some 19, none, .fld 2 (.t 3)⟩,
        ⟨some 20, none, .ld (.t 19)⟩,
        ⟨some 21, none, .call 22 [(.t 18), (.t 20)]⟩,
        ⟨some 22, none, .not (.t 21)⟩]) (
  .cond (.t 22) (
    .seq (
    .reg [⟨some 4, none, .mv (.c (.d (.bool false)))⟩]) (
    .ret)) (
    .skip))) (
  .seq (
  .reg [⟨some 4, none, .mv (.c (.d (.bool true)))⟩]) (
  .ret))))),
  [.t 4]⟩

theorem k_laws_eqTensor : cFun Try.prog Try.f49 = some C_laws_eqTensor.erase := by kernel_rfl

def L0_laws_markIntS : C :=
      .seq (
      .seq (
      .reg [⟨some 6, none, .mv (.t 5)⟩,
            ⟨some 7, none, .mv (.t 0)⟩,
            ⟨some 8, none, .len (.t 7)⟩,
            ⟨some 9, none, .bin .lss (.t 6) (.t 8)⟩]) (
      .cond (.t 9) (
        .skip) (
        .exit 0))) (
      .seq (
      .block 1 (
        .seq (
        .reg [⟨some 12, none, .mv (.t 0)⟩,
              ⟨some 13, none, .mv (.t 5)⟩,
              ⟨some 14, none, .mv (.t 1)⟩,
              ⟨some 15, none, .idx 1 (.t 12) (.t 13)⟩,
              ⟨none, none, .st 1 (.t 15) (.t 14)⟩]) (
        .reg [⟨some 16, none, .mv (.t 1)⟩,
              ⟨some 17, none, .bin .add (.t 16) (.c (.d (.int 1)))⟩,
              ⟨some 1, none, .mv (.t 17)⟩]))) (
      .reg [⟨some 10, none, .mv (.t 5)⟩,
            ⟨some 11, none, .bin .add (.t 10) (.c (.d (.int 1)))⟩,
            ⟨some 5, none, .mv (.t 11)⟩]))

def C_laws_markIntS : Fun := ⟨2, 19,
  .seq (
  .reg [⟨some 4, none, .mv (.c (.d (.int 0)))⟩]) (
  .seq (
  .seq (
  .reg [⟨some 5, none, .mv (.c (.d (.int 0)))⟩]) (
  .block 0 (
    .loop L0_laws_markIntS))) (
  .seq (
  .reg [⟨some 18, none, .mv (.t 1)⟩,
        ⟨some 4, none, .mv (.t 18)⟩]) (
  .ret))),
  [.t 4]⟩

theorem k_laws_markIntS : cFun Try.prog Try.f24 = some C_laws_markIntS.erase := by kernel_rfl

def L0_laws_heldIntS : C :=
      .seq (
      .seq (
      .reg [⟨some 6, none, .mv (.t 5)⟩,
            ⟨some 7, none, .mv (.t 0)⟩,
            ⟨some 8, none, .len (.t 7)⟩,
            ⟨some 9, none, .bin .lss (.t 6) (.t 8)⟩]) (
      .cond (.t 9) (
        .skip) (
        .exit 0))) (
      .seq (
      .block 1 (
        .seq (
        .seq (
        .reg [⟨some 12, none, .mv (.t 0)⟩,
              ⟨some 13, none, .mv (.t 5)⟩,
              ⟨some 14, none, .idx 1 (.t 12) (.t 13)⟩,
              ⟨some 15, none, .ld (.t 14)⟩,
              ⟨some 16, none, .mv (.t 1)⟩,
              ⟨some 17, none, .bin .neq (.t 15) (.t 16)⟩]) (
        .cond (.t 17) (
          .seq (
          .reg [⟨some 4, none, .mv (.c (.d (.int (-1))))⟩]) (
          .ret)) (
          .skip))) (
        .reg [⟨some 18, none, .mv (.t 1)⟩,
              ⟨some 19, none, .bin .add (.t 18) (.c (.d (.int 1)))⟩,
              ⟨some 1, none, .mv (.t 19)⟩]))) (
      .reg [⟨some 10, none, .mv (.t 5)⟩,
            ⟨some 11, none, .bin .add (.t 10) (.c (.d (.int 1)))⟩,
            ⟨some 5, none, .mv (.t 11)⟩]))

def C_laws_heldIntS : Fun := ⟨2, 21,
  .seq (
  .reg [⟨some 4, none, .mv (.c (.d (.int 0)))⟩]) (
  .seq (
  .seq (
  .reg [⟨some 5, none, .mv (.c (.d (.int 0)))⟩]) (
  .block 0 (
    .loop L0_laws_heldIntS))) (
  .seq (
  .reg [⟨some 20, none, .mv (.t 1)⟩,
        ⟨some 4, none, .mv (.t 20)⟩]) (
  .ret))),
  [.t 4]⟩

theorem k_laws_heldIntS : cFun Try.prog Try.f25 = some C_laws_heldIntS.erase := by kernel_rfl

def C_impl_copyInts : Fun := ⟨1, 5,
  .seq (
  .reg [⟨some 2, none, .mv (.c (.nil))⟩]) (
  .seq (
  .reg [⟨some 3, none, .mv (.t 0)⟩,
        ⟨some 4, none, .app 1 8 [.d (.int 0)] (.c (.nil)) (.t 3)⟩,
        ⟨some 2, none, .mv (.t 4)⟩]) (
  .ret)),
  [.t 2]⟩

theorem k_impl_copyInts : cFun Try.prog Try.f80 = some C_impl_copyInts.erase := by kernel_rfl

end Go.Proofs.Ytjoopfojiiklnaa

/-
  The compiled code of functions of the seat (written by mkcode.py). No condition.
-/
namespace Go.Proofs.Ytjoopfojiiklnaa
open Go.Lift

def L0_impl_hasInt : C :=
 .seq (
 .reg [⟨some 10, none, .bin .lss (.t 9) (.t 8)⟩]) (
 .seq (
 .cond (.t 10) (
 .skip) (
 .exit 0)) (
 .seq (
 .block 1 (
 .seq (
 .reg [⟨some 11, none, .idx 1 (.t 7) (.t 9)⟩,
 ⟨some 12, none, .ld (.t 11)⟩,
 ⟨some 6, none, .mv (.t 12)⟩]) (
 .seq (
 .reg [⟨some 13, none, .mv (.t 1)⟩,
 ⟨some 14, none, .mv (.t 6)⟩,
 ⟨some 15, none, .bin .eql (.t 13) (.t 14)⟩]) (
 .cond (.t 15) (
 .seq (
 .reg [⟨some 4, none, .mv (.c (.d (.bool true)))⟩]) (
 .ret)) (
 .skip))))) (
 .reg [⟨some 16, none, .bin .add (.t 9) (.c (.d (.int 1)))⟩,
 ⟨some 9, none, .mv (.t 16)⟩])))

def C_impl_hasInt : Fun := ⟨2, 17,
 .seq (
 .reg [⟨some 4, none, .mv (.c (.d (.bool false)))⟩]) (
 .seq (
 .seq (
 .reg [⟨some 7, none, .mv (.t 0)⟩,
 ⟨some 8, none, .len (.t 7)⟩,
 ⟨some 9, none, .mv (.c (.d (.int 0)))⟩]) (
 .block 0 (
 .loop L0_impl_hasInt))) (
 .seq (
 .reg [⟨some 4, none, .mv (.c (.d (.bool false)))⟩]) (
 .ret))),
 [.t 4]⟩

theorem k_impl_hasInt : cFun Try.prog Try.f83 = some C_impl_hasInt.erase := by kernel_rfl

def L0_spec_l05Find : C :=
 .seq (
 .reg [⟨some 10, none, .bin .lss (.t 9) (.t 8)⟩]) (
 .seq (
 .cond (.t 10) (
 .skip) (
 .exit 0)) (
 .seq (
 .block 1 (
 .seq (
 .reg [⟨some 11, none, .mv (.t 9)⟩,
 ⟨some 12, none, .idx 1 (.t 7) (.t 9)⟩,
 ⟨some 13, none, .ld (.t 12)⟩,
 ⟨some 5, none, .mv (.t 11)⟩,
 ⟨some 6, none, .mv (.t 13)⟩]) (
 .seq (
 .reg [⟨some 14, none, .mv (.t 6)⟩,
 ⟨some 15, none, .mv (.t 1)⟩,
 ⟨some 16, none, .bin .eql (.t 14) (.t 15)⟩]) (
 .cond (.t 16) (
 .seq (
 .reg [⟨some 17, none, .mv (.t 5)⟩,
 ⟨some 4, none, .mv (.t 17)⟩]) (
 .ret)) (
 .skip))))) (
 .reg [⟨some 18, none, .bin .add (.t 9) (.c (.d (.int 1)))⟩,
 ⟨some 9, none, .mv (.t 18)⟩])))

def C_spec_l05Find : Fun := ⟨2, 19,
 .seq (
 .reg [⟨some 4, none, .mv (.c (.d (.int 0)))⟩]) (
 .seq (
 .seq (
 .reg [⟨some 7, none, .mv (.t 0)⟩,
 ⟨some 8, none, .len (.t 7)⟩,
 ⟨some 9, none, .mv (.c (.d (.int 0)))⟩]) (
 .block 0 (
 .loop L0_spec_l05Find))) (
 .seq (
 .reg [⟨some 4, none, .mv (.c (.d (.int (-1))))⟩]) (
 .ret))),
 [.t 4]⟩

theorem k_spec_l05Find : cFun Try.prog Try.f82 = some C_spec_l05Find.erase := by kernel_rfl

end Go.Proofs.Ytjoopfojiiklnaa

/-
  The compiled code of functions of the seat (written by mkcode.py). No condition.
-/
namespace Go.Proofs.Ytjoopfojiiklnaa
open Go.Lift

def L0_spec_l13Meet : C :=
 .seq (
 .reg [⟨some 11, none, .bin .lss (.t 10) (.t 9)⟩]) (
 .seq (
 .cond (.t 11) (
 .skip) (
 .exit 0)) (
 .seq (
 .block 1 (
 .seq (
 .reg [⟨some 12, none, .idx 1 (.t 8) (.t 10)⟩,
 ⟨some 13, none, .ld (.t 12)⟩,
 ⟨some 6, none, .mv (.t 13)⟩]) (
 .seq (
 .reg [⟨some 14, none, .fld 0 (.t 3)⟩,
 ⟨some 15, none, .ld (.t 14)⟩,
 ⟨some 16, none, .mv (.t 6)⟩,
 ⟨some 17, none, .call 82 [(.t 15), (.t 16)]⟩,
 ⟨some 18, none, .bin .geq (.t 17) (.c (.d (.int 0)))⟩]) (
 .cond (.t 18) (
 .seq (
 .reg [⟨some 4, none, .mv (.c (.d (.bool true)))⟩]) (
 .ret)) (
 .skip))))) (
 .reg [⟨some 19, none, .bin .add (.t 10) (.c (.d (.int 1)))⟩,
 ⟨some 10, none, .mv (.t 19)⟩])))

def C_spec_l13Meet : Fun := ⟨2, 20,
 .seq (
 .reg [⟨some 2, none, .box (.t 0)⟩,
 ⟨some 3, none, .box (.t 1)⟩,
 ⟨some 4, none, .mv (.c (.d (.bool false)))⟩]) (
 .seq (
 .seq (
 .reg [⟨some 7, none, .fld 0 (.t 2)⟩,
 ⟨some 8, none, .ld (.t 7)⟩,
 ⟨some 9, none, .len (.t 8)⟩,
 ⟨some 10, none, .mv (.c (.d (.int 0)))⟩]) (
 .block 0 (
 .loop L0_spec_l13Meet))) (
 .seq (
 .reg [⟨some 4, none, .mv (.c (.d (.bool false)))⟩]) (
 .ret))),
 [.t 4]⟩

theorem k_spec_l13Meet : cFun Try.prog Try.f106 = some C_spec_l13Meet.erase := by kernel_rfl

def L0_impl_shareLabel : C :=
 .seq (
 .reg [⟨some 10, none, .bin .lss (.t 9) (.t 8)⟩]) (
 .seq (
 .cond (.t 10) (
 .skip) (
 .exit 0)) (
 .seq (
 .block 1 (
 .seq (
 .reg [⟨some 11, none, .idx 1 (.t 7) (.t 9)⟩,
 ⟨some 12, none, .ld (.t 11)⟩,
 ⟨some 6, none, .mv (.t 12)⟩]) (
 .seq (
 .reg [⟨some 13, none, .mv (.t 1)⟩,
 ⟨some 14, none, .mv (.t 6)⟩,
 ⟨some 15, none, .call 83 [(.t 13), (.t 14)]⟩]) (
 .cond (.t 15) (
 .seq (
 .reg [⟨some 4, none, .mv (.c (.d (.bool true)))⟩]) (
 .ret)) (
 .skip))))) (
 .reg [⟨some 16, none, .bin .add (.t 9) (.c (.d (.int 1)))⟩,
 ⟨some 9, none, .mv (.t 16)⟩])))

def C_impl_shareLabel : Fun := ⟨2, 17,
 .seq (
 .reg [⟨some 4, none, .mv (.c (.d (.bool false)))⟩]) (
 .seq (
 .seq (
 .reg [⟨some 7, none, .mv (.t 0)⟩,
 ⟨some 8, none, .len (.t 7)⟩,
 ⟨some 9, none, .mv (.c (.d (.int 0)))⟩]) (
 .block 0 (
 .loop L0_impl_shareLabel))) (
 .seq (
 .reg [⟨some 4, none, .mv (.c (.d (.bool false)))⟩]) (
 .ret))),
 [.t 4]⟩

theorem k_impl_shareLabel : cFun Try.prog Try.f107 = some C_impl_shareLabel.erase := by kernel_rfl
end Go.Proofs.Ytjoopfojiiklnaa

/-
  The compiled code of functions of the seat (written by mkcode.py). No condition.
-/
namespace Go.Proofs.Ytjoopfojiiklnaa
open Go.Lift

def C_laws_szNetwork : Fun := ⟨2, 18,
 .seq (
 .reg [⟨some 2, none, .box (.t 0)⟩,
 ⟨some 4, none, .mv (.c (.d (.int 0)))⟩]) (
 .seq (
 .reg [⟨some 5, none, .fld 3 (.t 2)⟩,
 ⟨some 6, none, .ld (.t 5)⟩,
 ⟨some 7, none, .mv (.t 1)⟩,
 ⟨some 8, none, .call 52 [(.t 6), (.t 7)]⟩,
 ⟨some 1, none, .mv (.t 8)⟩]) (
 .seq (
 .seq (
 .reg [⟨some 9, none, .mv (.t 1)⟩,
 ⟨some 10, none, .bin .lss (.t 9) (.c (.d (.int 0)))⟩]) (
 .cond (.t 10) (
 .seq (
 .reg [⟨some 4, none, .mv (.c (.d (.int (-1))))⟩]) (
 .ret)) (
 .skip))) (
 .seq (
 .reg [⟨some 11, none, .fld 4 (.t 2)⟩,
 ⟨some 12, none, .ld (.t 11)⟩,
 ⟨some 13, none, .mv (.t 1)⟩,
 ⟨some 14, none, .call 67 [(.t 12), (.t 13)]⟩,
 ⟨some 1, none, .mv (.t 14)⟩]) (
 .seq (
 .seq (
 .reg [⟨some 15, none, .mv (.t 1)⟩,
 ⟨some 16, none, .bin .lss (.t 15) (.c (.d (.int 0)))⟩]) (
 .cond (.t 16) (
 .seq (
 .reg [⟨some 4, none, .mv (.c (.d (.int (-1))))⟩]) (
 .ret)) (
 .skip))) (
 .seq (
 .reg [⟨some 17, none, .mv (.t 1)⟩,
 ⟨some 4, none, .mv (.t 17)⟩]) (
 .ret)))))),
 [.t 4]⟩

theorem k_laws_szNetwork : cFun Try.prog Try.f15 = some C_laws_szNetwork.erase := by kernel_rfl

def L0_spec_NetworkOk : C :=
 .seq (
 .reg [⟨some 35, none, .bin .lss (.t 34) (.t 33)⟩]) (
 .seq (
 .cond (.t 35) (
 .skip) (
 .exit 2)) (
 .seq (
 .block 3 (
 .seq (
 .reg [⟨some 36, none, .mv (.t 34)⟩,
 ⟨some 37, none, .idx 1 (.t 32) (.t 34)⟩,
 ⟨some 38, none, .ld (.t 37)⟩,
 ⟨some 5, none, .mv (.t 36)⟩,
 ⟨some 6, none, .mv (.t 38)⟩]) (
 .seq (
 .reg [⟨some 39, none, .fld 3 (.t 1)⟩,
 ⟨some 40, none, .ld (.t 39)⟩,
 ⟨some 41, none, .mv (.t 3)⟩,
 ⟨some 42, none, .slc 3 (.t 40) none (some (.t 41))⟩,
 ⟨some 43, none, .mv (.t 6)⟩,
 ⟨some 44, none, .call 108 [(.t 42), (.t 43)]⟩,
 ⟨some 7, none, .mv (.t 44)⟩]) (
 .seq (
 .reg [⟨some 45, none, .mv (.t 7)⟩,
 ⟨some 46, none, .bin .gtr (.t 45) (.c (.d (.int 0)))⟩,
 ⟨some 47, none, .mv (.t 46)⟩,
 ⟨some 48, some (47, true), .mv (.t 7)⟩,
 ⟨some 49, some (47, true), .fld 1 (.t 4)⟩,
 ⟨some 50, some (47, true), .ld (.t 49)⟩,
 ⟨some 51, some (47, true), .mv (.t 5)⟩,
 ⟨some 52, some (47, true), .idx 1 (.t 50) (.t 51)⟩,
 ⟨some 53, some (47, true), .ld (.t 52)⟩,
 ⟨some 54, some (47, true), .bin .neq (.t 48) (.t 53)⟩,
 ⟨some 55, none, .pick (.t 47) (.t 54) (.c (.d (.bool false)))⟩]) (
 .cond (.t 55) (
 .seq (
 .reg [⟨some 2, none, .mv (.c (.d (.bool false)))⟩]) (
 .ret)) (
 .skip)))))) (
 .reg [⟨some 56, none, .bin .add (.t 34) (.c (.d (.int 1)))⟩,
 ⟨some 34, none, .mv (.t 56)⟩])))

def L1_spec_NetworkOk : C :=
 .seq (
 .reg [⟨some 22, none, .bin .lss (.t 21) (.t 20)⟩]) (
 .seq (
 .cond (.t 22) (
 .skip) (
 .exit 0)) (
 .seq (
 .block 1 (
 .seq (
 .reg [⟨some 23, none, .mv (.t 21)⟩,
 ⟨some 24, none, .idx 3 (.t 19) (.t 21)⟩,
 ⟨some 25, none, .ldn 3 (.t 24)⟩,
 ⟨some 4, none, .zer [.nil, .nil, .nil]⟩,
 ⟨some 3, none, .mv (.t 23)⟩,
 ⟨none, none, .st 3 (.t 4) (.t 25)⟩]) (
 .seq (
 .seq (
 .reg [⟨some 26, none, .fld 0 (.t 1)⟩,
 ⟨some 27, none, .ldn 3 (.t 26)⟩,
 ⟨some 28, none, .ldn 3 (.t 4)⟩,
 ⟨some 29, none, .call 91 [(.t 27), (.t 28)]⟩,
 ⟨some 30, none, .not (.t 29)⟩]) (
 .cond (.t 30) (
 .seq (
 .reg [⟨some 2, none, .mv (.c (.d (.bool false)))⟩]) (
 .ret)) (
 .skip))) (
 .seq (
 .reg [⟨some 31, none, .fld 0 (.t 4)⟩,
 ⟨some 32, none, .ld (.t 31)⟩,
 ⟨some 33, none, .len (.t 32)⟩,
 ⟨some 34, none, .mv (.c (.d (.int 0)))⟩]) (
 .block 2 (
 .loop L0_spec_NetworkOk)))))) (
 .reg [⟨some 57, none, .bin .add (.t 21) (.c (.d (.int 1)))⟩,
 ⟨some 21, none, .mv (.t 57)⟩])))

def C_spec_NetworkOk : Fun := ⟨1, 68,
 .seq (
 .reg [⟨some 1, none, .box (.t 0)⟩,
 ⟨some 2, none, .mv (.c (.d (.bool false)))⟩]) (
 .seq (
 .seq (
 .reg [⟨some 8, none, .fld 0 (.t 1)⟩,
 ⟨some 9, none, .ldn 3 (.t 8)⟩,
 ⟨some 10, none, .call 98 [(.t 9)]⟩,
 ⟨some 11, none, .not (.t 10)⟩,
 ⟨some 12, none, .mv (.t 11)⟩,
 ⟨some 13, some (12, false), .fld 3 (.t 1)⟩,
 ⟨some 14, some (12, false), .ld (.t 13)⟩,
 ⟨some 15, some (12, false), .len (.t 14)⟩,
 ⟨some 16, some (12, false), .bin .gtr (.t 15) (.c (.d (.int 12)))⟩,
 ⟨some 17, none, .pick (.t 12) (.c (.d (.bool true))) (.t 16)⟩]) (
 .cond (.t 17) (
 .seq (
 .reg [⟨some 2, none, .mv (.c (.d (.bool false)))⟩]) (
 .ret)) (
 .skip))) (
 .seq (
 .seq (
 .reg [⟨some 18, none, .fld 3 (.t 1)⟩,
 ⟨some 19, none, .ld (.t 18)⟩,
 ⟨some 20, none, .len (.t 19)⟩,
 ⟨some 21, none, .mv (.c (.d (.int 0)))⟩]) (
 .block 0 (
 .loop L1_spec_NetworkOk))) (
 .seq (
 .draw [⟨some 58, none, .fld 4 (.t 1)⟩,
 ⟨some 59, none, .ld (.t 58)⟩,
 ⟨some 60, none, .fld 3 (.t 1)⟩,
 ⟨some 61, none, .ld (.t 60)⟩,
 ⟨some 62, none, .fld 4 (.t 1)⟩,
 ⟨some 63, none, .ld (.t 62)⟩,
 ⟨some 64, none, .call 113 [(.t 61), (.t 63)]⟩]
 [⟨some 65, none, .agg [.nil, .nil, .nil] [(0, 1, (.t 59)), (1, 1, (.t 64))]⟩,
 ⟨some 66, none, .call 100 [(.t 65)]⟩,
 ⟨some 67, none, .bin .geq (.t 66) (.c (.d (.int 0)))⟩,
 ⟨some 2, none, .mv (.t 67)⟩]) (
 .ret)))),
 [.t 2]⟩

theorem k_spec_NetworkOk : cFun Try.prog Try.f68 = some C_spec_NetworkOk.erase := by kernel_rfl

def C_laws_toNetwork : Fun := ⟨1, 17,
 .seq (
 .reg [⟨some 1, none, .box (.t 0)⟩,
 ⟨some 2, none, .zer [.d (.int 0), .d (.int 0), .d (.int 0), .nil, .nil]⟩]) (
 .seq (
 .reg [⟨some 3, none, .zer [.d (.int 0), .d (.int 0), .d (.int 0), .nil, .nil]⟩]) (
 .seq (
 .reg [⟨some 4, none, .fld 0 (.t 1)⟩,
 ⟨some 5, none, .ldn 3 (.t 4)⟩,
 ⟨some 6, none, .call 45 [(.t 5)]⟩,
 ⟨some 7, none, .fld 0 (.t 3)⟩,
 ⟨none, none, .st 3 (.t 7) (.t 6)⟩]) (
 .seq (
 .reg [⟨some 8, none, .fld 3 (.t 1)⟩,
 ⟨some 9, none, .ld (.t 8)⟩,
 ⟨some 10, none, .call 54 [(.t 9)]⟩,
 ⟨some 11, none, .fld 3 (.t 3)⟩,
 ⟨none, none, .st 1 (.t 11) (.t 10)⟩]) (
 .seq (
 .reg [⟨some 12, none, .fld 4 (.t 1)⟩,
 ⟨some 13, none, .ld (.t 12)⟩,
 ⟨some 14, none, .call 32 [(.t 13)]⟩,
 ⟨some 15, none, .fld 4 (.t 3)⟩,
 ⟨none, none, .st 1 (.t 15) (.t 14)⟩]) (
 .seq (
 .reg [⟨some 16, none, .ldn 5 (.t 3)⟩,
 ⟨none, none, .st 5 (.t 2) (.t 16)⟩]) (
 .ret)))))),
 [.cell 2 5]⟩

theorem k_laws_toNetwork : cFun Try.prog Try.f17 = some C_laws_toNetwork.erase := by kernel_rfl

def L0_impl_NetworkOk : C :=
 .seq (
 .reg [⟨some 50, none, .bin .lss (.t 49) (.t 48)⟩]) (
 .seq (
 .cond (.t 50) (
 .skip) (
 .exit 2)) (
 .seq (
 .block 3 (
 .seq (
 .reg [⟨some 51, none, .idx 1 (.t 47) (.t 49)⟩,
 ⟨some 52, none, .ld (.t 51)⟩,
 ⟨some 8, none, .mv (.t 52)⟩]) (
 .seq (
 .reg [⟨some 53, none, .mv (.t 8)⟩,
 ⟨some 54, none, .bin .lss (.t 53) (.c (.d (.int 0)))⟩,
 ⟨some 55, none, .mv (.t 54)⟩,
 ⟨some 56, some (55, false), .mv (.t 8)⟩,
 ⟨some 57, some (55, false), .bin .gtr (.t 56) (.c (.d (.int 99)))⟩,
 ⟨some 58, none, .pick (.t 55) (.c (.d (.bool true))) (.t 57)⟩,
 ⟨some 59, none, .mv (.t 58)⟩,
 ⟨some 60, some (59, false), .mv (.t 8)⟩,
 ⟨some 61, some (59, false), .aix 1 100 (.t 5) (.t 60)⟩,
 ⟨some 62, some (59, false), .ld (.t 61)⟩,
 ⟨some 63, some (59, false), .bin .eql (.t 62) (.c (.d (.int 0)))⟩,
 ⟨some 64, none, .pick (.t 59) (.c (.d (.bool true))) (.t 63)⟩]) (
 .cond (.t 64) (
 .seq (
 .reg [⟨some 2, none, .mv (.c (.d (.bool false)))⟩]) (
 .ret)) (
 .skip))))) (
 .reg [⟨some 65, none, .bin .add (.t 49) (.c (.d (.int 1)))⟩,
 ⟨some 49, none, .mv (.t 65)⟩])))

def L1_impl_NetworkOk : C :=
 .seq (
 .reg [⟨some 29, none, .bin .lss (.t 28) (.t 27)⟩]) (
 .seq (
 .cond (.t 29) (
 .skip) (
 .exit 0)) (
 .seq (
 .block 1 (
 .seq (
 .reg [⟨some 30, none, .idx 3 (.t 26) (.t 28)⟩,
 ⟨some 31, none, .ldn 3 (.t 30)⟩,
 ⟨some 4, none, .zer [.nil, .nil, .nil]⟩,
 ⟨none, none, .st 3 (.t 4) (.t 31)⟩]) (
 .seq (
 .reg [⟨some 32, none, .fld 0 (.t 1)⟩,
 ⟨some 33, none, .ldn 3 (.t 32)⟩,
 ⟨some 34, none, .ldn 3 (.t 4)⟩,
 ⟨some 35, none, .call 94 [(.t 33), (.t 34)]⟩,
 ⟨some 36, none, .not (.t 35)⟩]) (
 .cond (.t 36) (
 .seq (
 .reg [⟨some 2, none, .mv (.c (.d (.bool false)))⟩]) (
 .ret)) (
 .skip))))) (
 .reg [⟨some 37, none, .bin .add (.t 28) (.c (.d (.int 1)))⟩,
 ⟨some 28, none, .mv (.t 37)⟩])))

def C_impl_NetworkOk : Fun := ⟨1, 72,
 .seq (
 .reg [⟨some 1, none, .box (.t 0)⟩,
 ⟨some 2, none, .mv (.c (.d (.bool false)))⟩]) (
 .seq (
 .seq (
 .reg [⟨some 9, none, .fld 0 (.t 1)⟩,
 ⟨some 10, none, .ldn 3 (.t 9)⟩,
 ⟨some 11, none, .call 103 [(.t 10)]⟩,
 ⟨some 12, none, .not (.t 11)⟩,
 ⟨some 13, none, .mv (.t 12)⟩,
 ⟨some 14, some (13, false), .fld 3 (.t 1)⟩,
 ⟨some 15, some (13, false), .ld (.t 14)⟩,
 ⟨some 16, some (13, false), .len (.t 15)⟩,
 ⟨some 17, some (13, false), .bin .gtr (.t 16) (.c (.d (.int 12)))⟩,
 ⟨some 18, none, .pick (.t 13) (.c (.d (.bool true))) (.t 17)⟩,
 ⟨some 19, none, .mv (.t 18)⟩,
 ⟨some 20, some (19, false), .fld 4 (.t 1)⟩,
 ⟨some 21, some (19, false), .ld (.t 20)⟩,
 ⟨some 22, some (19, false), .len (.t 21)⟩,
 ⟨some 23, some (19, false), .bin .gtr (.t 22) (.c (.d (.int 12)))⟩,
 ⟨some 24, none, .pick (.t 19) (.c (.d (.bool true))) (.t 23)⟩]) (
 .cond (.t 24) (
 .seq (
 .reg [⟨some 2, none, .mv (.c (.d (.bool false)))⟩]) (
 .ret)) (
 .skip))) (
 .seq (
 .seq (
 .reg [⟨some 25, none, .fld 3 (.t 1)⟩,
 ⟨some 26, none, .ld (.t 25)⟩,
 ⟨some 27, none, .len (.t 26)⟩,
 ⟨some 28, none, .mv (.c (.d (.int 0)))⟩]) (
 .block 0 (
 .loop L1_impl_NetworkOk))) (
 .seq (
 .reg [⟨some 39, none, .fld 3 (.t 1)⟩,
 ⟨some 40, none, .ld (.t 39)⟩,
 ⟨some 41, none, .call 114 [(.t 40)]⟩,
 ⟨some 38, none, .mv (.t 41)⟩,
 ⟨some 42, none, .ext 0 (.t 38)⟩,
 ⟨some 43, none, .ext 1 (.t 38)⟩,
 ⟨some 5, none, .zer (reps 100 (.d (.int 0)))⟩,
 ⟨none, none, .st 100 (.t 5) (.t 42)⟩,
 ⟨some 6, none, .mv (.t 43)⟩]) (
 .seq (
 .seq (
 .reg [⟨some 44, none, .mv (.t 6)⟩,
 ⟨some 45, none, .not (.t 44)⟩]) (
 .cond (.t 45) (
 .seq (
 .reg [⟨some 2, none, .mv (.c (.d (.bool false)))⟩]) (
 .ret)) (
 .skip))) (
 .seq (
 .seq (
 .reg [⟨some 46, none, .fld 4 (.t 1)⟩,
 ⟨some 47, none, .ld (.t 46)⟩,
 ⟨some 48, none, .len (.t 47)⟩,
 ⟨some 49, none, .mv (.c (.d (.int 0)))⟩]) (
 .block 2 (
 .loop L0_impl_NetworkOk))) (
 .seq (
 .reg [⟨some 66, none, .ldn 100 (.t 5)⟩,
 ⟨some 67, none, .fld 4 (.t 1)⟩,
 ⟨some 68, none, .ld (.t 67)⟩,
 ⟨some 69, none, .call 115 [(.t 66), (.t 68)]⟩,
 ⟨some 70, none, .call 105 [(.t 69)]⟩,
 ⟨some 71, none, .bin .neq (.t 70) (.c (.d (.int (-1))))⟩,
 ⟨some 2, none, .mv (.t 71)⟩]) (
 .ret))))))),
 [.t 2]⟩

theorem k_impl_NetworkOk : cFun Try.prog Try.f70 = some C_impl_NetworkOk.erase := by kernel_rfl

def C_laws_eqNetwork : Fun := ⟨2, 23,
 .seq (
 .reg [⟨some 2, none, .box (.t 0)⟩,
 ⟨some 3, none, .box (.t 1)⟩,
 ⟨some 4, none, .mv (.c (.d (.bool false)))⟩]) (
 .seq (
 .seq (
 .reg [⟨some 5, none, .fld 0 (.t 2)⟩,
 ⟨some 6, none, .ldn 3 (.t 5)⟩,
 ⟨some 7, none, .fld 0 (.t 3)⟩,
 ⟨some 8, none, .ldn 3 (.t 7)⟩,
 ⟨some 9, none, .call 71 [(.t 6), (.t 8)]⟩,
 ⟨some 10, none, .not (.t 9)⟩]) (
 .cond (.t 10) (
 .seq (
 .reg [⟨some 4, none, .mv (.c (.d (.bool false)))⟩]) (
 .ret)) (
 .skip))) (
 .seq (
 .seq (
 .reg [⟨some 11, none, .fld 3 (.t 2)⟩,
 ⟨some 12, none, .ld (.t 11)⟩,
 ⟨some 13, none, .fld 3 (.t 3)⟩,
 ⟨some 14, none, .ld (.t 13)⟩,
 ⟨some 15, none, .call 56 [(.t 12), (.t 14)]⟩,
 ⟨some 16, none, .not (.t 15)⟩]) (
 .cond (.t 16) (
 .seq (
 .reg [⟨some 4, none, .mv (.c (.d (.bool false)))⟩]) (
 .ret)) (
 .skip))) (
 .seq (
 .seq (
 .reg [⟨some 17, none, .fld 4 (.t 2)⟩,
 ⟨some 18, none, .ld (.t 17)⟩,
 ⟨some 19, none, .fld 4 (.t 3)⟩,
 ⟨some 20, none, .ld (.t 19)⟩,
 ⟨some 21, none, .call 22 [(.t 18), (.t 20)]⟩,
 ⟨some 22, none, .not (.t 21)⟩]) (
 .cond (.t 22) (
 .seq (
 .reg [⟨some 4, none, .mv (.c (.d (.bool false)))⟩]) (
 .ret)) (
 .skip))) (
 .seq (
 .reg [⟨some 4, none, .mv (.c (.d (.bool true)))⟩]) (
 .ret))))),
 [.t 4]⟩

theorem k_laws_eqNetwork : cFun Try.prog Try.f19 = some C_laws_eqNetwork.erase := by kernel_rfl

def L0_laws_szTensorS : C :=
 .seq (
 .seq (
 .reg [⟨some 12, none, .mv (.t 5)⟩,
 ⟨some 13, none, .mv (.t 0)⟩,
 ⟨some 14, none, .len (.t 13)⟩,
 ⟨some 15, none, .bin .lss (.t 12) (.t 14)⟩]) (
 .cond (.t 15) (
 .skip) (
 .exit 0))) (
 .seq (
 .block 1 (
 .seq (
 .reg [⟨some 18, none, .mv (.t 0)⟩,
 ⟨some 19, none, .mv (.t 5)⟩,
 ⟨some 20, none, .idx 3 (.t 18) (.t 19)⟩,
 ⟨some 21, none, .ldn 3 (.t 20)⟩,
 ⟨some 22, none, .mv (.t 1)⟩,
 ⟨some 23, none, .call 43 [(.t 21), (.t 22)]⟩,
 ⟨some 1, none, .mv (.t 23)⟩]) (
 .seq (
 .reg [⟨some 24, none, .mv (.t 1)⟩,
 ⟨some 25, none, .bin .lss (.t 24) (.c (.d (.int 0)))⟩]) (
 .cond (.t 25) (
 .seq (
 .reg [⟨some 4, none, .mv (.c (.d (.int (-1))))⟩]) (
 .ret)) (
 .skip))))) (
 .reg [⟨some 16, none, .mv (.t 5)⟩,
 ⟨some 17, none, .bin .add (.t 16) (.c (.d (.int 1)))⟩,
 ⟨some 5, none, .mv (.t 17)⟩]))

def C_laws_szTensorS : Fun := ⟨2, 27,
 .seq (
 .reg [⟨some 4, none, .mv (.c (.d (.int 0)))⟩]) (
 .seq (
 .reg [⟨some 6, none, .mv (.t 1)⟩,
 ⟨some 7, none, .mv (.t 0)⟩,
 ⟨some 8, none, .len (.t 7)⟩,
 ⟨some 9, none, .bin .sub (.t 6) (.t 8)⟩,
 ⟨some 1, none, .mv (.t 9)⟩]) (
 .seq (
 .seq (
 .reg [⟨some 10, none, .mv (.t 1)⟩,
 ⟨some 11, none, .bin .lss (.t 10) (.c (.d (.int 0)))⟩]) (
 .cond (.t 11) (
 .seq (
 .reg [⟨some 4, none, .mv (.c (.d (.int (-1))))⟩]) (
 .ret)) (
 .skip))) (
 .seq (
 .seq (
 .reg [⟨some 5, none, .mv (.c (.d (.int 0)))⟩]) (
 .block 0 (
 .loop L0_laws_szTensorS))) (
 .seq (
 .reg [⟨some 26, none, .mv (.t 1)⟩,
 ⟨some 4, none, .mv (.t 26)⟩]) (
 .ret))))),
 [.t 4]⟩

theorem k_laws_szTensorS : cFun Try.prog Try.f52 = some C_laws_szTensorS.erase := by kernel_rfl

def L0_spec_l12Dim : C :=
 .seq (
 .reg [⟨some 11, none, .bin .lss (.t 10) (.t 9)⟩]) (
 .seq (
 .cond (.t 11) (
 .skip) (
 .exit 0)) (
 .seq (
 .block 1 (
 .seq (
 .reg [⟨some 12, none, .idx 3 (.t 8) (.t 10)⟩,
 ⟨some 13, none, .ldn 3 (.t 12)⟩,
 ⟨some 6, none, .zer [.nil, .nil, .nil]⟩,
 ⟨none, none, .st 3 (.t 6) (.t 13)⟩]) (
 .seq (
 .reg [⟨some 14, none, .fld 0 (.t 6)⟩,
 ⟨some 15, none, .ld (.t 14)⟩,
 ⟨some 16, none, .mv (.t 1)⟩,
 ⟨some 17, none, .call 82 [(.t 15), (.t 16)]⟩,
 ⟨some 7, none, .mv (.t 17)⟩]) (
 .seq (
 .reg [⟨some 18, none, .mv (.t 7)⟩,
 ⟨some 19, none, .bin .geq (.t 18) (.c (.d (.int 0)))⟩]) (
 .cond (.t 19) (
 .seq (
 .reg [⟨some 20, none, .fld 1 (.t 6)⟩,
 ⟨some 21, none, .ld (.t 20)⟩,
 ⟨some 22, none, .mv (.t 7)⟩,
 ⟨some 23, none, .idx 1 (.t 21) (.t 22)⟩,
 ⟨some 24, none, .ld (.t 23)⟩,
 ⟨some 4, none, .mv (.t 24)⟩]) (
 .ret)) (
 .skip)))))) (
 .reg [⟨some 25, none, .bin .add (.t 10) (.c (.d (.int 1)))⟩,
 ⟨some 10, none, .mv (.t 25)⟩])))

def C_spec_l12Dim : Fun := ⟨2, 26,
 .seq (
 .reg [⟨some 4, none, .mv (.c (.d (.int 0)))⟩]) (
 .seq (
 .seq (
 .reg [⟨some 8, none, .mv (.t 0)⟩,
 ⟨some 9, none, .len (.t 8)⟩,
 ⟨some 10, none, .mv (.c (.d (.int 0)))⟩]) (
 .block 0 (
 .loop L0_spec_l12Dim))) (
 .seq (
 .reg [⟨some 4, none, .mv (.c (.d (.int 0)))⟩]) (
 .ret))),
 [.t 4]⟩

theorem k_spec_l12Dim : cFun Try.prog Try.f108 = some C_spec_l12Dim.erase := by kernel_rfl

def L0_spec_l12Dims : C :=
 .seq (
 .reg [⟨some 12, none, .bin .lss (.t 11) (.t 10)⟩]) (
 .seq (
 .cond (.t 12) (
 .skip) (
 .exit 0)) (
 .seq (
 .block 1 (
 .seq (
 .reg [⟨some 13, none, .idx 1 (.t 9) (.t 11)⟩,
 ⟨some 14, none, .ld (.t 13)⟩,
 ⟨some 7, none, .mv (.t 14)⟩]) (
 .reg [⟨some 15, none, .mv (.t 5)⟩,
 ⟨some 16, none, .mv (.t 0)⟩,
 ⟨some 17, none, .mv (.t 7)⟩,
 ⟨some 18, none, .call 108 [(.t 16), (.t 17)]⟩,
 ⟨some 19, none, .mksl 1 1 [.d (.int 0)] [(0, 1, (.t 18))]⟩,
 ⟨some 20, none, .app 1 8 [.d (.int 0)] (.t 15) (.t 19)⟩,
 ⟨some 5, none, .mv (.t 20)⟩]))) (
 .reg [⟨some 21, none, .bin .add (.t 11) (.c (.d (.int 1)))⟩,
 ⟨some 11, none, .mv (.t 21)⟩])))

def C_spec_l12Dims : Fun := ⟨2, 23,
 .seq (
 .reg [⟨some 4, none, .mv (.c (.nil))⟩]) (
 .seq (
 .reg [⟨some 8, none, .mksl 1 0 [.d (.int 0)] []⟩,
 ⟨some 5, none, .mv (.t 8)⟩]) (
 .seq (
 .seq (
 .reg [⟨some 9, none, .mv (.t 1)⟩,
 ⟨some 10, none, .len (.t 9)⟩,
 ⟨some 11, none, .mv (.c (.d (.int 0)))⟩]) (
 .block 0 (
 .loop L0_spec_l12Dims))) (
 .seq (
 .reg [⟨some 22, none, .mv (.t 5)⟩,
 ⟨some 4, none, .mv (.t 22)⟩]) (
 .ret)))),
 [.t 4]⟩

theorem k_spec_l12Dims : cFun Try.prog Try.f113 = some C_spec_l12Dims.erase := by kernel_rfl

def L0_laws_toTensorS : C :=
 .seq (
 .seq (
 .reg [⟨some 8, none, .mv (.t 4)⟩,
 ⟨some 9, none, .mv (.t 0)⟩,
 ⟨some 10, none, .len (.t 9)⟩,
 ⟨some 11, none, .bin .lss (.t 8) (.t 10)⟩]) (
 .cond (.t 11) (
 .skip) (
 .exit 0))) (
 .seq (
 .block 1 (
 .reg [⟨some 14, none, .mv (.t 3)⟩,
 ⟨some 15, none, .mv (.t 4)⟩,
 ⟨some 16, none, .mv (.t 0)⟩,
 ⟨some 17, none, .mv (.t 4)⟩,
 ⟨some 18, none, .idx 3 (.t 16) (.t 17)⟩,
 ⟨some 19, none, .ldn 3 (.t 18)⟩,
 ⟨some 20, none, .call 47 [(.t 19)]⟩,
 ⟨some 21, none, .idx 3 (.t 14) (.t 15)⟩,
 ⟨none, none, .st 3 (.t 21) (.t 20)⟩])) (
 .reg [⟨some 12, none, .mv (.t 4)⟩,
 ⟨some 13, none, .bin .add (.t 12) (.c (.d (.int 1)))⟩,
 ⟨some 4, none, .mv (.t 13)⟩]))

def C_laws_toTensorS : Fun := ⟨1, 23,
 .seq (
 .reg [⟨some 2, none, .mv (.c (.nil))⟩]) (
 .seq (
 .reg [⟨some 5, none, .mv (.t 0)⟩,
 ⟨some 6, none, .len (.t 5)⟩,
 ⟨some 7, none, .make 3 72 [.nil, .nil, .nil] (.t 6) (.t 6)⟩,
 ⟨some 3, none, .mv (.t 7)⟩]) (
 .seq (
 .seq (
 .reg [⟨some 4, none, .mv (.c (.d (.int 0)))⟩]) (
 .block 0 (
 .loop L0_laws_toTensorS))) (
 .seq (
 .reg [⟨some 22, none, .mv (.t 3)⟩,
 ⟨some 2, none, .mv (.t 22)⟩]) (
 .ret)))),
 [.t 2]⟩

theorem k_laws_toTensorS : cFun Try.prog Try.f54 = some C_laws_toTensorS.erase := by kernel_rfl

def L0_impl_dimsOf : C :=
 .seq (
 .reg [⟨some 19, none, .bin .lss (.t 18) (.t 17)⟩]) (
 .seq (
 .cond (.t 19) (
 .skip) (
 .exit 2)) (
 .seq (
 .block 3 (
 .seq (
 .reg [⟨some 20, none, .mv (.t 18)⟩,
 ⟨some 21, none, .idx 1 (.t 16) (.t 18)⟩,
 ⟨some 22, none, .ld (.t 21)⟩,
 ⟨some 7, none, .mv (.t 20)⟩,
 ⟨some 8, none, .mv (.t 22)⟩]) (
 .seq (
 .seq (
 .draw [⟨some 23, none, .mv (.t 8)⟩,
 ⟨some 24, none, .aix 1 100 (.t 4) (.t 23)⟩,
 ⟨some 25, none, .ld (.t 24)⟩,
 ⟨some 26, none, .bin .neq (.t 25) (.c (.d (.int 0)))⟩,
 ⟨some 27, none, .mv (.t 26)⟩,
 ⟨some 28, some (27, true), .mv (.t 8)⟩,
 ⟨some 29, some (27, true), .aix 1 100 (.t 4) (.t 28)⟩,
 ⟨some 30, some (27, true), .ld (.t 29)⟩,
 ⟨some 31, some (27, true), .fld 1 (.t 6)⟩,
 ⟨some 32, some (27, true), .ld (.t 31)⟩,
 ⟨some 33, some (27, true), .mv (.t 7)⟩,
 ⟨some 34, some (27, true), .idx 1 (.t 32) (.t 33)⟩,
 ⟨some 35, some (27, true), .ld (.t 34)⟩]
 [⟨some 36, some (27, true), .bin .neq (.t 30) (.t 35)⟩,
 ⟨some 37, none, .pick (.t 27) (.t 36) (.c (.d (.bool false)))⟩]) (
 .cond (.t 37) (
 .seq (
 .reg [⟨some 38, none, .ldn 100 (.t 4)⟩,
 ⟨none, none, .st 100 (.t 2) (.t 38)⟩,
 ⟨some 3, none, .mv (.c (.d (.bool false)))⟩]) (
 .ret)) (
 .skip))) (
 .reg [⟨some 39, none, .mv (.t 8)⟩,
 ⟨some 40, none, .fld 1 (.t 6)⟩,
 ⟨some 41, none, .ld (.t 40)⟩,
 ⟨some 42, none, .mv (.t 7)⟩,
 ⟨some 43, none, .idx 1 (.t 41) (.t 42)⟩,
 ⟨some 44, none, .ld (.t 43)⟩,
 ⟨some 45, none, .aix 1 100 (.t 4) (.t 39)⟩,
 ⟨none, none, .st 1 (.t 45) (.t 44)⟩])))) (
 .reg [⟨some 46, none, .bin .add (.t 18) (.c (.d (.int 1)))⟩,
 ⟨some 18, none, .mv (.t 46)⟩])))

def L1_impl_dimsOf : C :=
 .seq (
 .reg [⟨some 12, none, .bin .lss (.t 11) (.t 10)⟩]) (
 .seq (
 .cond (.t 12) (
 .skip) (
 .exit 0)) (
 .seq (
 .block 1 (
 .seq (
 .reg [⟨some 13, none, .idx 3 (.t 9) (.t 11)⟩,
 ⟨some 14, none, .ldn 3 (.t 13)⟩,
 ⟨some 6, none, .zer [.nil, .nil, .nil]⟩,
 ⟨none, none, .st 3 (.t 6) (.t 14)⟩]) (
 .seq (
 .reg [⟨some 15, none, .fld 0 (.t 6)⟩,
 ⟨some 16, none, .ld (.t 15)⟩,
 ⟨some 17, none, .len (.t 16)⟩,
 ⟨some 18, none, .mv (.c (.d (.int 0)))⟩]) (
 .block 2 (
 .loop L0_impl_dimsOf))))) (
 .reg [⟨some 47, none, .bin .add (.t 11) (.c (.d (.int 1)))⟩,
 ⟨some 11, none, .mv (.t 47)⟩])))

def C_impl_dimsOf : Fun := ⟨1, 49,
 .seq (
 .reg [⟨some 2, none, .zer (reps 100 (.d (.int 0)))⟩,
 ⟨some 3, none, .mv (.c (.d (.bool false)))⟩]) (
 .seq (
 .reg [⟨some 4, none, .zer (reps 100 (.d (.int 0)))⟩]) (
 .seq (
 .seq (
 .reg [⟨some 9, none, .mv (.t 0)⟩,
 ⟨some 10, none, .len (.t 9)⟩,
 ⟨some 11, none, .mv (.c (.d (.int 0)))⟩]) (
 .block 0 (
 .loop L1_impl_dimsOf))) (
 .seq (
 .reg [⟨some 48, none, .ldn 100 (.t 4)⟩,
 ⟨none, none, .st 100 (.t 2) (.t 48)⟩,
 ⟨some 3, none, .mv (.c (.d (.bool true)))⟩]) (
 .ret)))),
 [.cell 2 100, .t 3]⟩

theorem k_impl_dimsOf : cFun Try.prog Try.f114 = some C_impl_dimsOf.erase := by kernel_rfl

def L0_impl_axesOf : C :=
 .seq (
 .reg [⟨some 17, none, .bin .lss (.t 16) (.t 15)⟩]) (
 .seq (
 .cond (.t 17) (
 .skip) (
 .exit 0)) (
 .seq (
 .block 1 (
 .seq (
 .reg [⟨some 18, none, .mv (.t 16)⟩,
 ⟨some 19, none, .idx 1 (.t 14) (.t 16)⟩,
 ⟨some 20, none, .ld (.t 19)⟩,
 ⟨some 6, none, .mv (.t 18)⟩,
 ⟨some 7, none, .mv (.t 20)⟩]) (
 .draw [⟨some 21, none, .fld 1 (.t 5)⟩,
 ⟨some 22, none, .ld (.t 21)⟩,
 ⟨some 23, none, .mv (.t 6)⟩,
 ⟨some 24, none, .mv (.t 7)⟩,
 ⟨some 25, none, .aix 1 100 (.t 2) (.t 24)⟩,
 ⟨some 26, none, .ld (.t 25)⟩]
 [⟨some 27, none, .idx 1 (.t 22) (.t 23)⟩,
 ⟨none, none, .st 1 (.t 27) (.t 26)⟩]))) (
 .reg [⟨some 28, none, .bin .add (.t 16) (.c (.d (.int 1)))⟩,
 ⟨some 16, none, .mv (.t 28)⟩])))

def C_impl_axesOf : Fun := ⟨2, 30,
 .seq (
 .reg [⟨some 2, none, .box (.t 0)⟩,
 ⟨some 4, none, .zer [.nil, .nil, .nil]⟩]) (
 .seq (
 .draw [⟨some 8, none, .mv (.t 1)⟩,
 ⟨some 9, none, .call 80 [(.t 8)]⟩,
 ⟨some 10, none, .mv (.t 1)⟩,
 ⟨some 11, none, .len (.t 10)⟩,
 ⟨some 12, none, .make 1 8 [.d (.int 0)] (.t 11) (.t 11)⟩,
 ⟨some 13, none, .agg [.nil, .nil, .nil] [(0, 1, (.t 9)), (1, 1, (.t 12))]⟩,
 ⟨some 5, none, .zer [.nil, .nil, .nil]⟩]
 [⟨none, none, .st 3 (.t 5) (.t 13)⟩]) (
 .seq (
 .seq (
 .reg [⟨some 14, none, .mv (.t 1)⟩,
 ⟨some 15, none, .len (.t 14)⟩,
 ⟨some 16, none, .mv (.c (.d (.int 0)))⟩]) (
 .block 0 (
 .loop L0_impl_axesOf))) (
 .seq (
 .reg [⟨some 29, none, .ldn 3 (.t 5)⟩,
 ⟨none, none, .st 3 (.t 4) (.t 29)⟩]) (
 .ret)))),
 [.cell 4 3]⟩

theorem k_impl_axesOf : cFun Try.prog Try.f115 = some C_impl_axesOf.erase := by kernel_rfl

def C_laws_eqRing : Fun := ⟨2, 20,
 .seq (
 .reg [⟨some 2, none, .box (.t 0)⟩,
 ⟨some 3, none, .box (.t 1)⟩,
 ⟨some 4, none, .mv (.c (.d (.bool false)))⟩]) (
 .seq (
 .seq (
 .reg [⟨some 5, none, .fld 0 (.t 2)⟩,
 ⟨some 6, none, .ld (.t 5)⟩,
 ⟨some 7, none, .fld 0 (.t 3)⟩,
 ⟨some 8, none, .ld (.t 7)⟩,
 ⟨some 9, none, .bin .neq (.t 6) (.t 8)⟩]) (
 .cond (.t 9) (
 .seq (
 .reg [⟨some 4, none, .mv (.c (.d (.bool false)))⟩]) (
 .ret)) (
 .skip))) (
 .seq (
 .seq (
 .reg [⟨some 10, none, .fld 1 (.t 2)⟩,
 ⟨some 11, none, .ld (.t 10)⟩,
 ⟨some 12, none, .fld 1 (.t 3)⟩,
 ⟨some 13, none, .ld (.t 12)⟩,
 ⟨some 14, none, .bin .neq (.t 11) (.t 13)⟩]) (
 .cond (.t 14) (
 .seq (
 .reg [⟨some 4, none, .mv (.c (.d (.bool false)))⟩]) (
 .ret)) (
 .skip))) (
 .seq (
 .seq (
 .reg [⟨some 15, none, .fld 2 (.t 2)⟩,
 ⟨some 16, none, .ld (.t 15)⟩,
 ⟨some 17, none, .fld 2 (.t 3)⟩,
 ⟨some 18, none, .ld (.t 17)⟩,
 ⟨some 19, none, .bin .neq (.t 16) (.t 18)⟩]) (
 .cond (.t 19) (
 .seq (
 .reg [⟨some 4, none, .mv (.c (.d (.bool false)))⟩]) (
 .ret)) (
 .skip))) (
 .seq (
 .reg [⟨some 4, none, .mv (.c (.d (.bool true)))⟩]) (
 .ret))))),
 [.t 4]⟩

theorem k_laws_eqRing : cFun Try.prog Try.f71 = some C_laws_eqRing.erase := by kernel_rfl

def L0_laws_eqTensorS : C :=
 .seq (
 .seq (
 .reg [⟨some 11, none, .mv (.t 5)⟩,
 ⟨some 12, none, .mv (.t 0)⟩,
 ⟨some 13, none, .len (.t 12)⟩,
 ⟨some 14, none, .bin .lss (.t 11) (.t 13)⟩]) (
 .cond (.t 14) (
 .skip) (
 .exit 0))) (
 .seq (
 .block 1 (
 .seq (
 .draw [⟨some 17, none, .mv (.t 0)⟩,
 ⟨some 18, none, .mv (.t 5)⟩,
 ⟨some 19, none, .idx 3 (.t 17) (.t 18)⟩,
 ⟨some 20, none, .ldn 3 (.t 19)⟩,
 ⟨some 21, none, .mv (.t 1)⟩,
 ⟨some 22, none, .mv (.t 5)⟩,
 ⟨some 23, none, .idx 3 (.t 21) (.t 22)⟩,
 ⟨some 24, none, .ldn 3 (.t 23)⟩]
 [⟨some 25, none, .call 49 [(.t 20), (.t 24)]⟩,
 ⟨some 26, none, .not (.t 25)⟩]) (
 .cond (.t 26) (
 .seq (
 .reg [⟨some 4, none, .mv (.c (.d (.bool false)))⟩]) (
 .ret)) (
 .skip)))) (
 .reg [⟨some 15, none, .mv (.t 5)⟩,
 ⟨some 16, none, .bin .add (.t 15) (.c (.d (.int 1)))⟩,
 ⟨some 5, none, .mv (.t 16)⟩]))

def C_laws_eqTensorS : Fun := ⟨2, 27,
 .seq (
 .reg [⟨some 4, none, .mv (.c (.d (.bool false)))⟩]) (
 .seq (
 .seq (
 .reg [⟨some 6, none, .mv (.t 0)⟩,
 ⟨some 7, none, .len (.t 6)⟩,
 ⟨some 8, none, .mv (.t 1)⟩,
 ⟨some 9, none, .len (.t 8)⟩,
 ⟨some 10, none, .bin .neq (.t 7) (.t 9)⟩]) (
 .cond (.t 10) (
 .seq (
 .reg [⟨some 4, none, .mv (.c (.d (.bool false)))⟩]) (
 .ret)) (
 .skip))) (
 .seq (
 .seq (
 .reg [⟨some 5, none, .mv (.c (.d (.int 0)))⟩]) (
 .block 0 (
 .loop L0_laws_eqTensorS))) (
 .seq (
 .reg [⟨some 4, none, .mv (.c (.d (.bool true)))⟩]) (
 .ret)))),
 [.t 4]⟩

theorem k_laws_eqTensorS : cFun Try.prog Try.f56 = some C_laws_eqTensorS.erase := by kernel_rfl

end Go.Proofs.Ytjoopfojiiklnaa

/-
  The compiled code of functions of the seat (written by mkcode.py). No condition.
-/
namespace Go.Proofs.Ytjoopfojiiklnaa
open Go.Lift

end Go.Proofs.Ytjoopfojiiklnaa

/-
  The compiled code of functions of the seat (written by mkcode.py). No condition.
-/
namespace Go.Proofs.Ytjoopfojiiklnaa
open Go.Lift

def C_laws_markNetwork : Fun := ⟨2, 14,
 .seq (
 .reg [⟨some 2, none, .box (.t 0)⟩,
 ⟨some 4, none, .mv (.c (.d (.int 0)))⟩]) (
 .seq (
 .reg [⟨some 5, none, .fld 3 (.t 2)⟩,
 ⟨some 6, none, .ld (.t 5)⟩,
 ⟨some 7, none, .mv (.t 1)⟩,
 ⟨some 8, none, .call 57 [(.t 6), (.t 7)]⟩,
 ⟨some 1, none, .mv (.t 8)⟩]) (
 .seq (
 .reg [⟨some 9, none, .fld 4 (.t 2)⟩,
 ⟨some 10, none, .ld (.t 9)⟩,
 ⟨some 11, none, .mv (.t 1)⟩,
 ⟨some 12, none, .call 24 [(.t 10), (.t 11)]⟩,
 ⟨some 1, none, .mv (.t 12)⟩]) (
 .seq (
 .reg [⟨some 13, none, .mv (.t 1)⟩,
 ⟨some 4, none, .mv (.t 13)⟩]) (
 .ret)))),
 [.t 4]⟩

theorem k_laws_markNetwork : cFun Try.prog Try.f23 = some C_laws_markNetwork.erase := by kernel_rfl

def L0_laws_markTensorS : C :=
 .seq (
 .seq (
 .reg [⟨some 6, none, .mv (.t 5)⟩,
 ⟨some 7, none, .mv (.t 0)⟩,
 ⟨some 8, none, .len (.t 7)⟩,
 ⟨some 9, none, .bin .lss (.t 6) (.t 8)⟩]) (
 .gh (.cond (.t 9) (
 .skip) (
 .exit 0)))) (
 .seq (
 .block 1 (
 .seq (
 .reg [⟨some 12, none, .mv (.t 0)⟩,
 ⟨some 13, none, .mv (.t 5)⟩,
 ⟨some 14, none, .idx 3 (.t 12) (.t 13)⟩,
 ⟨some 15, none, .fld 0 (.t 14)⟩,
 ⟨some 16, none, .ld (.t 15)⟩,
 ⟨some 17, none, .mv (.t 1)⟩,
 ⟨some 18, none, .call 24 [(.t 16), (.t 17)]⟩,
 ⟨some 1, none, .mv (.t 18)⟩]) (
 .seq (
 .reg [⟨some 19, none, .mv (.t 0)⟩,
 ⟨some 20, none, .mv (.t 5)⟩,
 ⟨some 21, none, .idx 3 (.t 19) (.t 20)⟩,
 ⟨some 22, none, .fld 1 (.t 21)⟩,
 ⟨some 23, none, .ld (.t 22)⟩,
 ⟨some 24, none, .mv (.t 1)⟩,
 ⟨some 25, none, .call 24 [(.t 23), (.t 24)]⟩,
 ⟨some 1, none, .mv (.t 25)⟩]) (
 .reg [⟨some 26, none, .mv (.t 0)⟩,
 ⟨some 27, none, .mv (.t 5)⟩,
 ⟨some 28, none, .idx 3 (.t 26) (.t 27)⟩,
 ⟨some 29, none, .fld 2 (.t 28)⟩,
 ⟨some 30, none, .ld (.t 29)⟩,
 ⟨some 31, none, .mv (.t 1)⟩,
 ⟨some 32, none, .call 24 [(.t 30), (.t 31)]⟩,
 ⟨some 1, none, .mv (.t 32)⟩])))) (
 .reg [⟨some 10, none, .mv (.t 5)⟩,
 ⟨some 11, none, .bin .add (.t 10) (.c (.d (.int 1)))⟩,
 ⟨some 5, none, .mv (.t 11)⟩]))

def C_laws_markTensorS : Fun := ⟨2, 34,
 .seq (
 .reg [⟨some 4, none, .mv (.c (.d (.int 0)))⟩]) (
 .seq (
 .seq (
 .reg [⟨some 5, none, .mv (.c (.d (.int 0)))⟩]) (
 .block 0 (
 .loop L0_laws_markTensorS))) (
 .seq (
 .reg [⟨some 33, none, .mv (.t 1)⟩,
 ⟨some 4, none, .mv (.t 33)⟩]) (
 .ret))),
 [.t 4]⟩

theorem k_laws_markTensorS : cFun Try.prog Try.f57 = some C_laws_markTensorS.erase := by kernel_rfl

end Go.Proofs.Ytjoopfojiiklnaa
