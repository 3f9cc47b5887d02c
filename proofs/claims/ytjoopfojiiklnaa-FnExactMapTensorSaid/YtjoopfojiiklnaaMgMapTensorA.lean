/-
  The compiled code of functions of the seat (written by mkcode.py). No condition.
-/
import Derived.Test.YtjoopfojiiklnaaLiftE
import Derived.Test.YtjoopfojiiklnaaProg
import Derived.KernelRfl
namespace Go.Proofs.Ytjoopfojiiklnaa
open Go.Lift

def C_laws_FnExactMapTensor : Fun := ⟨4, 120,
 .seq (
 .reg [⟨some 4, none, .box (.t 0)⟩,
 ⟨some 5, none, .box (.t 1)⟩,
 ⟨some 6, none, .box (.t 2)⟩,
 ⟨some 7, none, .box (.t 3)⟩,
 ⟨some 8, none, .mv (.c (.d (.bool false)))⟩]) (
 .seq (
 .reg [⟨some 9, none, .mv (.c (.d (.int 1048576)))⟩]) (
 .seq (
 .reg [⟨some 20, none, .ldn 3 (.t 7)⟩,
 ⟨some 21, none, .mv (.t 9)⟩,
 ⟨some 22, none, .call 43 [(.t 20), (.t 21)]⟩,
 ⟨some 9, none, .mv (.t 22)⟩]) (
 .seq (
 .seq (
 .reg [⟨some 23, none, .mv (.t 9)⟩,
 ⟨some 24, none, .bin .lss (.t 23) (.c (.d (.int 0)))⟩]) (
 .cond (.t 24) (
 .seq (
 .reg [⟨some 8, none, .mv (.c (.d (.bool true)))⟩]) (
 .ret)) (
 .skip))) (
 .seq (
 .draw [⟨some 26, none, .ldn 3 (.t 4)⟩,
 ⟨some 27, none, .call 45 [(.t 26)]⟩,
 ⟨some 28, none, .ldn 3 (.t 5)⟩,
 ⟨some 29, none, .call 45 [(.t 28)]⟩,
 ⟨some 30, none, .ldn 2 (.t 6)⟩,
 ⟨some 31, none, .call 46 [(.t 30)]⟩,
 ⟨some 32, none, .ldn 3 (.t 7)⟩,
 ⟨some 33, none, .call 47 [(.t 32)]⟩,
 ⟨some 34, none, .call 44 [(.t 27), (.t 29), (.t 31), (.t 33)]⟩,
 ⟨some 25, none, .mv (.t 34)⟩,
 ⟨some 35, none, .ext 0 (.t 25)⟩,
 ⟨some 36, none, .ext 1 (.t 25)⟩,
 ⟨some 10, none, .zer [.nil, .nil, .nil]⟩]
 [⟨none, none, .st 3 (.t 10) (.t 35)⟩,
 ⟨some 11, none, .mv (.t 36)⟩]) (
 .seq (
 .reg [⟨some 37, none, .ldn 3 (.t 7)⟩,
 ⟨some 38, none, .call 47 [(.t 37)]⟩,
 ⟨some 12, none, .zer [.nil, .nil, .nil]⟩,
 ⟨none, none, .st 3 (.t 12) (.t 38)⟩]) (
 .seq (
 .draw [⟨some 40, none, .ldn 3 (.t 4)⟩,
 ⟨some 41, none, .call 45 [(.t 40)]⟩,
 ⟨some 42, none, .ldn 3 (.t 5)⟩,
 ⟨some 43, none, .call 45 [(.t 42)]⟩,
 ⟨some 44, none, .ldn 2 (.t 6)⟩,
 ⟨some 45, none, .call 46 [(.t 44)]⟩,
 ⟨some 46, none, .ldn 3 (.t 12)⟩,
 ⟨some 47, none, .call 48 [(.t 41), (.t 43), (.t 45), (.t 46)]⟩,
 ⟨some 39, none, .mv (.t 47)⟩,
 ⟨some 48, none, .ext 0 (.t 39)⟩,
 ⟨some 49, none, .ext 1 (.t 39)⟩,
 ⟨some 13, none, .zer [.nil, .nil, .nil]⟩]
 [⟨none, none, .st 3 (.t 13) (.t 48)⟩,
 ⟨some 14, none, .mv (.t 49)⟩]) (
 .seq (
 .seq (
 .reg [⟨some 50, none, .ldn 3 (.t 13)⟩,
 ⟨some 51, none, .ldn 3 (.t 10)⟩,
 ⟨some 52, none, .call 49 [(.t 50), (.t 51)]⟩,
 ⟨some 53, none, .not (.t 52)⟩,
 ⟨some 54, none, .mv (.t 53)⟩,
 ⟨some 55, some (54, false), .mv (.t 14)⟩,
 ⟨some 56, some (54, false), .mv (.t 11)⟩,
 ⟨some 57, some (54, false), .binb true (.t 55) (.t 56)⟩,
 ⟨some 58, none, .pick (.t 54) (.c (.d (.bool true))) (.t 57)⟩]) (
 .cond (.t 58) (
 .seq (
 .reg [⟨some 8, none, .mv (.c (.d (.bool false)))⟩]) (
 .ret)) (
 .skip))) (
 .seq (
 .seq (
 .draw [⟨some 59, none, .ldn 3 (.t 12)⟩,
 ⟨some 60, none, .ldn 3 (.t 7)⟩,
 ⟨some 61, none, .call 47 [(.t 60)]⟩]
 [⟨some 62, none, .call 49 [(.t 59), (.t 61)]⟩,
 ⟨some 63, none, .not (.t 62)⟩]) (
 .cond (.t 63) (
 .seq (
 .reg [⟨some 8, none, .mv (.c (.d (.bool false)))⟩]) (
 .ret)) (
 .skip))) (
 .seq (
 .reg [⟨some 15, none, .mv (.c (.d (.int 1)))⟩]) (
 .seq (
 .reg [⟨some 64, none, .ldn 3 (.t 12)⟩,
 ⟨some 65, none, .mv (.t 15)⟩,
 ⟨some 66, none, .call 50 [(.t 64), (.t 65)]⟩,
 ⟨some 15, none, .mv (.t 66)⟩]) (
 .seq (
 .seq (
 .reg [⟨some 67, none, .mv (.t 15)⟩,
 ⟨some 68, none, .bin .lss (.t 67) (.c (.d (.int 0)))⟩,
 ⟨some 69, none, .mv (.t 68)⟩,
 ⟨some 70, some (69, false), .ldn 3 (.t 13)⟩,
 ⟨some 71, some (69, false), .ldn 3 (.t 10)⟩,
 ⟨some 72, some (69, false), .call 49 [(.t 70), (.t 71)]⟩,
 ⟨some 73, some (69, false), .not (.t 72)⟩,
 ⟨some 74, none, .pick (.t 69) (.c (.d (.bool true))) (.t 73)⟩,
 ⟨some 75, none, .mv (.t 74)⟩,
 ⟨some 76, some (75, false), .mv (.t 14)⟩,
 ⟨some 77, some (75, false), .mv (.t 11)⟩,
 ⟨some 78, some (75, false), .binb true (.t 76) (.t 77)⟩,
 ⟨some 79, none, .pick (.t 75) (.c (.d (.bool true))) (.t 78)⟩]) (
 .cond (.t 79) (
 .seq (
 .reg [⟨some 8, none, .mv (.c (.d (.bool false)))⟩]) (
 .ret)) (
 .skip))) (
 .seq (
 .reg [⟨some 16, none, .mv (.c (.d (.int 1)))⟩]) (
 .seq (
 .reg [⟨some 80, none, .ldn 3 (.t 13)⟩,
 ⟨some 81, none, .mv (.t 16)⟩,
 ⟨some 82, none, .call 50 [(.t 80), (.t 81)]⟩,
 ⟨some 16, none, .mv (.t 82)⟩]) (
 .seq (
 .reg [⟨some 17, none, .mv (.c (.d (.int 1)))⟩]) (
 .seq (
 .reg [⟨some 83, none, .ldn 3 (.t 13)⟩,
 ⟨some 84, none, .mv (.t 17)⟩,
 ⟨some 85, none, .call 51 [(.t 83), (.t 84)]⟩,
 ⟨some 17, none, .mv (.t 85)⟩]) (
 .seq (
 .seq (
 .reg [⟨some 86, none, .mv (.t 17)⟩,
 ⟨some 87, none, .bin .lss (.t 86) (.c (.d (.int 0)))⟩]) (
 .cond (.t 87) (
 .seq (
 .reg [⟨some 8, none, .mv (.c (.d (.bool false)))⟩]) (
 .ret)) (
 .skip))) (
 .seq (
 .seq (
 .reg [⟨some 88, none, .mv (.t 17)⟩,
 ⟨some 89, none, .mv (.t 16)⟩,
 ⟨some 90, none, .bin .neq (.t 88) (.t 89)⟩]) (
 .cond (.t 90) (
 .seq (
 .reg [⟨some 8, none, .mv (.c (.d (.bool false)))⟩]) (
 .ret)) (
 .skip))) (
 .seq (
 .draw [⟨some 92, none, .ldn 3 (.t 4)⟩,
 ⟨some 93, none, .call 45 [(.t 92)]⟩,
 ⟨some 94, none, .ldn 3 (.t 5)⟩,
 ⟨some 95, none, .call 45 [(.t 94)]⟩,
 ⟨some 96, none, .ldn 2 (.t 6)⟩,
 ⟨some 97, none, .call 46 [(.t 96)]⟩,
 ⟨some 98, none, .ldn 3 (.t 7)⟩,
 ⟨some 99, none, .call 47 [(.t 98)]⟩,
 ⟨some 100, none, .call 48 [(.t 93), (.t 95), (.t 97), (.t 99)]⟩,
 ⟨some 91, none, .mv (.t 100)⟩,
 ⟨some 101, none, .ext 0 (.t 91)⟩,
 ⟨some 102, none, .ext 1 (.t 91)⟩,
 ⟨some 18, none, .zer [.nil, .nil, .nil]⟩]
 [⟨none, none, .st 3 (.t 18) (.t 101)⟩,
 ⟨some 19, none, .mv (.t 102)⟩]) (
 .seq (
 .seq (
 .reg [⟨some 103, none, .ldn 3 (.t 18)⟩,
 ⟨some 104, none, .ldn 3 (.t 10)⟩,
 ⟨some 105, none, .call 49 [(.t 103), (.t 104)]⟩,
 ⟨some 106, none, .not (.t 105)⟩,
 ⟨some 107, none, .mv (.t 106)⟩,
 ⟨some 108, some (107, false), .mv (.t 19)⟩,
 ⟨some 109, some (107, false), .mv (.t 11)⟩,
 ⟨some 110, some (107, false), .binb true (.t 108) (.t 109)⟩,
 ⟨some 111, none, .pick (.t 107) (.c (.d (.bool true))) (.t 110)⟩]) (
 .cond (.t 111) (
 .seq (
 .reg [⟨some 8, none, .mv (.c (.d (.bool false)))⟩]) (
 .ret)) (
 .skip))) (
 .seq (
 .reg [⟨some 17, none, .mv (.c (.d (.int 1)))⟩]) (
 .seq (
 .reg [⟨some 112, none, .ldn 3 (.t 13)⟩,
 ⟨some 113, none, .mv (.t 17)⟩,
 ⟨some 114, none, .call 51 [(.t 112), (.t 113)]⟩,
 ⟨some 17, none, .mv (.t 114)⟩]) (
 .seq (
 .seq (
 .reg [⟨some 115, none, .mv (.t 17)⟩,
 ⟨some 116, none, .bin .lss (.t 115) (.c (.d (.int 0)))⟩]) (
 .cond (.t 116) (
 .seq (
 .reg [⟨some 8, none, .mv (.c (.d (.bool false)))⟩]) (
 .ret)) (
 .skip))) (
 .seq (
 .seq (
 .reg [⟨some 117, none, .mv (.t 17)⟩,
 ⟨some 118, none, .mv (.t 16)⟩,
 ⟨some 119, none, .bin .neq (.t 117) (.t 118)⟩]) (
 .cond (.t 119) (
 .seq (
 .reg [⟨some 8, none, .mv (.c (.d (.bool false)))⟩]) (
 .ret)) (
 .skip))) (
 .seq (
 .reg [⟨some 8, none, .mv (.c (.d (.bool true)))⟩]) (
 .ret))))))))))))))))))))))))),
 [.t 8]⟩

theorem k_laws_FnExactMapTensor : cFun Try.prog Try.f10 = some C_laws_FnExactMapTensor.erase := by kernel_rfl

end Go.Proofs.Ytjoopfojiiklnaa

/-
  The compiled code of functions of the seat (written by mkcode.py). No condition.
-/
namespace Go.Proofs.Ytjoopfojiiklnaa
open Go.Lift

def C_spec_MapTensor : Fun := ⟨4, 27,
 .seq (
 .reg [⟨some 4, none, .box (.t 0)⟩,
 ⟨some 5, none, .box (.t 1)⟩,
 ⟨some 6, none, .box (.t 2)⟩,
 ⟨some 7, none, .box (.t 3)⟩,
 ⟨some 8, none, .zer [.nil, .nil, .nil]⟩,
 ⟨some 9, none, .mv (.c (.d (.bool false)))⟩]) (
 .seq (
 .seq (
 .reg [⟨some 10, none, .ldn 3 (.t 4)⟩,
 ⟨some 11, none, .ldn 3 (.t 5)⟩,
 ⟨some 12, none, .ldn 2 (.t 6)⟩,
 ⟨some 13, none, .call 90 [(.t 10), (.t 11), (.t 12)]⟩,
 ⟨some 14, none, .not (.t 13)⟩,
 ⟨some 15, none, .mv (.t 14)⟩,
 ⟨some 16, some (15, false), .ldn 3 (.t 4)⟩,
 ⟨some 17, some (15, false), .ldn 3 (.t 7)⟩,
 ⟨some 18, some (15, false), .call 91 [(.t 16), (.t 17)]⟩,
 ⟨some 19, some (15, false), .not (.t 18)⟩,
 ⟨some 20, none, .pick (.t 15) (.c (.d (.bool true))) (.t 19)⟩]) (
 .cond (.t 20) (
 .seq (
 .reg [⟨some 21, none, .agg [.nil, .nil, .nil] []⟩,
 ⟨none, none, .st 3 (.t 8) (.t 21)⟩,
 ⟨some 9, none, .mv (.c (.d (.bool false)))⟩]) (
 .ret)) (
 .skip))) (
 .seq (
 .reg [⟨some 22, none, .ldn 3 (.t 4)⟩,
 ⟨some 23, none, .ldn 3 (.t 5)⟩,
 ⟨some 24, none, .ldn 2 (.t 6)⟩,
 ⟨some 25, none, .ldn 3 (.t 7)⟩,
 ⟨some 26, none, .call 92 [(.t 22), (.t 23), (.t 24), (.t 25)]⟩,
 ⟨none, none, .st 3 (.t 8) (.t 26)⟩,
 ⟨some 9, none, .mv (.c (.d (.bool true)))⟩]) (
 .ret))),
 [.cell 8 3, .t 9]⟩

theorem k_spec_MapTensor : cFun Try.prog Try.f44 = some C_spec_MapTensor.erase := by kernel_rfl

def C_laws_toHom : Fun := ⟨1, 11,
 .seq (
 .reg [⟨some 1, none, .box (.t 0)⟩,
 ⟨some 2, none, .zer [.d (.int 0), .d (.int 0)]⟩]) (
 .seq (
 .reg [⟨some 3, none, .zer [.d (.int 0), .d (.int 0)]⟩]) (
 .seq (
 .reg [⟨some 4, none, .fld 0 (.t 1)⟩,
 ⟨some 5, none, .ld (.t 4)⟩,
 ⟨some 6, none, .fld 0 (.t 3)⟩,
 ⟨none, none, .st 1 (.t 6) (.t 5)⟩]) (
 .seq (
 .reg [⟨some 7, none, .fld 1 (.t 1)⟩,
 ⟨some 8, none, .ld (.t 7)⟩,
 ⟨some 9, none, .fld 1 (.t 3)⟩,
 ⟨none, none, .st 1 (.t 9) (.t 8)⟩]) (
 .seq (
 .reg [⟨some 10, none, .ldn 2 (.t 3)⟩,
 ⟨none, none, .st 2 (.t 2) (.t 10)⟩]) (
 .ret))))),
 [.cell 2 2]⟩

theorem k_laws_toHom : cFun Try.prog Try.f46 = some C_laws_toHom.erase := by kernel_rfl

def L0_impl_MapTensor : C :=
 .seq (
 .seq (
 .reg [⟨some 31, none, .mv (.t 11)⟩,
 ⟨some 32, none, .fld 1 (.t 7)⟩,
 ⟨some 33, none, .ld (.t 32)⟩,
 ⟨some 34, none, .call 95 [(.t 33)]⟩,
 ⟨some 35, none, .bin .lss (.t 31) (.t 34)⟩]) (
 .cond (.t 35) (
 .skip) (
 .exit 0))) (
 .seq (
 .block 1 (
 .draw [⟨some 38, none, .fld 2 (.t 10)⟩,
 ⟨some 39, none, .ld (.t 38)⟩,
 ⟨some 40, none, .ldn 3 (.t 4)⟩,
 ⟨some 41, none, .ldn 3 (.t 5)⟩,
 ⟨some 42, none, .ldn 2 (.t 6)⟩,
 ⟨some 43, none, .ldn 3 (.t 4)⟩,
 ⟨some 44, none, .ldn 3 (.t 7)⟩,
 ⟨some 45, none, .mv (.t 11)⟩,
 ⟨some 46, none, .call 97 [(.t 43), (.t 44), (.t 45)]⟩,
 ⟨some 47, none, .call 96 [(.t 40), (.t 41), (.t 42), (.t 46)]⟩]
 [⟨some 48, none, .app 1 8 [.d (.int 0)] (.t 39) (.t 47)⟩,
 ⟨some 49, none, .fld 2 (.t 10)⟩,
 ⟨none, none, .st 1 (.t 49) (.t 48)⟩])) (
 .reg [⟨some 36, none, .mv (.t 11)⟩,
 ⟨some 37, none, .bin .add (.t 36) (.c (.d (.int 1)))⟩,
 ⟨some 11, none, .mv (.t 37)⟩]))

def C_impl_MapTensor : Fun := ⟨4, 51,
 .seq (
 .reg [⟨some 4, none, .box (.t 0)⟩,
 ⟨some 5, none, .box (.t 1)⟩,
 ⟨some 6, none, .box (.t 2)⟩,
 ⟨some 7, none, .box (.t 3)⟩,
 ⟨some 8, none, .zer [.nil, .nil, .nil]⟩,
 ⟨some 9, none, .mv (.c (.d (.bool false)))⟩]) (
 .seq (
 .seq (
 .reg [⟨some 12, none, .ldn 3 (.t 4)⟩,
 ⟨some 13, none, .ldn 3 (.t 5)⟩,
 ⟨some 14, none, .ldn 2 (.t 6)⟩,
 ⟨some 15, none, .call 93 [(.t 12), (.t 13), (.t 14)]⟩,
 ⟨some 16, none, .not (.t 15)⟩,
 ⟨some 17, none, .mv (.t 16)⟩,
 ⟨some 18, some (17, false), .ldn 3 (.t 4)⟩,
 ⟨some 19, some (17, false), .ldn 3 (.t 7)⟩,
 ⟨some 20, some (17, false), .call 94 [(.t 18), (.t 19)]⟩,
 ⟨some 21, some (17, false), .not (.t 20)⟩,
 ⟨some 22, none, .pick (.t 17) (.c (.d (.bool true))) (.t 21)⟩]) (
 .cond (.t 22) (
 .seq (
 .reg [⟨some 23, none, .agg [.nil, .nil, .nil] []⟩,
 ⟨none, none, .st 3 (.t 8) (.t 23)⟩,
 ⟨some 9, none, .mv (.c (.d (.bool false)))⟩]) (
 .ret)) (
 .skip))) (
 .seq (
 .draw [⟨some 24, none, .fld 0 (.t 7)⟩,
 ⟨some 25, none, .ld (.t 24)⟩,
 ⟨some 26, none, .call 80 [(.t 25)]⟩,
 ⟨some 27, none, .fld 1 (.t 7)⟩,
 ⟨some 28, none, .ld (.t 27)⟩,
 ⟨some 29, none, .call 80 [(.t 28)]⟩,
 ⟨some 30, none, .agg [.nil, .nil, .nil] [(0, 1, (.t 26)), (1, 1, (.t 29))]⟩,
 ⟨some 10, none, .zer [.nil, .nil, .nil]⟩]
 [⟨none, none, .st 3 (.t 10) (.t 30)⟩]) (
 .seq (
 .seq (
 .reg [⟨some 11, none, .mv (.c (.d (.int 0)))⟩]) (
 .block 0 (
 .loop L0_impl_MapTensor))) (
 .seq (
 .reg [⟨some 50, none, .ldn 3 (.t 10)⟩,
 ⟨none, none, .st 3 (.t 8) (.t 50)⟩,
 ⟨some 9, none, .mv (.c (.d (.bool true)))⟩]) (
 .ret))))),
 [.cell 8 3, .t 9]⟩

theorem k_impl_MapTensor : cFun Try.prog Try.f48 = some C_impl_MapTensor.erase := by kernel_rfl

def C_spec_HomOk : Fun := ⟨3, 205,
 .seq (
 .reg [⟨some 3, none, .box (.t 0)⟩,
 ⟨some 4, none, .box (.t 1)⟩,
 ⟨some 5, none, .box (.t 2)⟩,
 ⟨some 6, none, .mv (.c (.d (.bool false)))⟩]) (
 .seq (
 .seq (
 .reg [⟨some 8, none, .ldn 3 (.t 3)⟩,
 ⟨some 9, none, .call 98 [(.t 8)]⟩,
 ⟨some 10, none, .not (.t 9)⟩,
 ⟨some 11, none, .mv (.t 10)⟩,
 ⟨some 12, some (11, false), .ldn 3 (.t 4)⟩,
 ⟨some 13, some (11, false), .call 98 [(.t 12)]⟩,
 ⟨some 14, some (11, false), .not (.t 13)⟩,
 ⟨some 15, none, .pick (.t 11) (.c (.d (.bool true))) (.t 14)⟩]) (
 .cond (.t 15) (
 .seq (
 .reg [⟨some 6, none, .mv (.c (.d (.bool false)))⟩]) (
 .ret)) (
 .skip))) (
 .seq (
 .seq (
 .reg [⟨some 16, none, .fld 0 (.t 5)⟩,
 ⟨some 17, none, .ld (.t 16)⟩]) (
 .block 0 (
 .seq (
 .reg [⟨some 19, none, .bin .eql (.t 17) (.c (.d (.int 3)))⟩,
 ⟨some 18, none, .mv (.t 19)⟩]) (
 .cond (.t 18) (
 .seq (
 .reg [⟨some 20, none, .fld 0 (.t 3)⟩,
 ⟨some 21, none, .ld (.t 20)⟩,
 ⟨some 22, none, .bin .eql (.t 21) (.c (.d (.int 6)))⟩,
 ⟨some 23, none, .mv (.t 22)⟩,
 ⟨some 24, some (23, true), .fld 0 (.t 4)⟩,
 ⟨some 25, some (23, true), .ld (.t 24)⟩,
 ⟨some 26, some (23, true), .bin .eql (.t 25) (.c (.d (.int 1)))⟩,
 ⟨some 27, none, .pick (.t 23) (.t 26) (.c (.d (.bool false)))⟩,
 ⟨some 28, none, .mv (.t 27)⟩,
 ⟨some 29, some (28, true), .fld 1 (.t 5)⟩,
 ⟨some 30, some (28, true), .ld (.t 29)⟩,
 ⟨some 31, some (28, true), .fld 2 (.t 3)⟩,
 ⟨some 32, some (28, true), .ld (.t 31)⟩,
 ⟨some 33, some (28, true), .bin .sub (.t 32) (.c (.d (.int 1)))⟩,
 ⟨some 34, some (28, true), .call 72 [(.t 30), (.c (.d (.int 0))), (.t 33)]⟩,
 ⟨some 35, none, .pick (.t 28) (.t 34) (.c (.d (.bool false)))⟩,
 ⟨some 6, none, .mv (.t 35)⟩]) (
 .ret)) (
 .seq (
 .reg [⟨some 37, none, .bin .eql (.t 17) (.c (.d (.int 4)))⟩,
 ⟨some 36, none, .mv (.t 37)⟩]) (
 .cond (.t 36) (
 .seq (
 .reg [⟨some 38, none, .fld 0 (.t 3)⟩,
 ⟨some 39, none, .ld (.t 38)⟩,
 ⟨some 40, none, .bin .eql (.t 39) (.c (.d (.int 5)))⟩,
 ⟨some 41, none, .mv (.t 40)⟩,
 ⟨some 42, some (41, true), .fld 0 (.t 4)⟩,
 ⟨some 43, some (41, true), .ld (.t 42)⟩,
 ⟨some 44, some (41, true), .bin .eql (.t 43) (.c (.d (.int 1)))⟩,
 ⟨some 45, none, .pick (.t 41) (.t 44) (.c (.d (.bool false)))⟩,
 ⟨some 46, none, .mv (.t 45)⟩,
 ⟨some 47, some (46, true), .fld 1 (.t 5)⟩,
 ⟨some 48, some (46, true), .ld (.t 47)⟩,
 ⟨some 49, some (46, true), .fld 1 (.t 3)⟩,
 ⟨some 50, some (46, true), .ld (.t 49)⟩,
 ⟨some 51, some (46, true), .call 72 [(.t 48), (.c (.d (.int 1))), (.t 50)]⟩,
 ⟨some 52, none, .pick (.t 46) (.t 51) (.c (.d (.bool false)))⟩,
 ⟨some 6, none, .mv (.t 52)⟩]) (
 .ret)) (
 .seq (
 .reg [⟨some 54, none, .bin .eql (.t 17) (.c (.d (.int 6)))⟩,
 ⟨some 53, none, .mv (.t 54)⟩]) (
 .cond (.t 53) (
 .seq (
 .reg [⟨some 55, none, .fld 1 (.t 5)⟩,
 ⟨some 56, none, .ld (.t 55)⟩,
 ⟨some 7, none, .mv (.t 56)⟩]) (
 .seq (
 .draw [⟨some 57, none, .fld 0 (.t 3)⟩,
 ⟨some 58, none, .ld (.t 57)⟩,
 ⟨some 59, none, .bin .eql (.t 58) (.c (.d (.int 8)))⟩,
 ⟨some 60, none, .mv (.t 59)⟩,
 ⟨some 61, some (60, true), .fld 0 (.t 4)⟩,
 ⟨some 62, some (60, true), .ld (.t 61)⟩,
 ⟨some 63, some (60, true), .bin .eql (.t 62) (.c (.d (.int 2)))⟩,
 ⟨some 64, none, .pick (.t 60) (.t 63) (.c (.d (.bool false)))⟩,
 ⟨some 65, none, .mv (.t 64)⟩,
 ⟨some 66, some (65, true), .fld 1 (.t 3)⟩,
 ⟨some 67, some (65, true), .ld (.t 66)⟩,
 ⟨some 68, some (65, true), .fld 1 (.t 4)⟩,
 ⟨some 69, some (65, true), .ld (.t 68)⟩,
 ⟨some 70, some (65, true), .bin .eql (.t 67) (.t 69)⟩,
 ⟨some 71, none, .pick (.t 65) (.t 70) (.c (.d (.bool false)))⟩,
 ⟨some 72, none, .mv (.t 71)⟩,
 ⟨some 73, some (72, true), .mv (.t 7)⟩,
 ⟨some 74, some (72, true), .fld 1 (.t 3)⟩,
 ⟨some 75, some (72, true), .ld (.t 74)⟩,
 ⟨some 76, some (72, true), .bin .sub (.t 75) (.c (.d (.int 1)))⟩,
 ⟨some 77, some (72, true), .call 72 [(.t 73), (.c (.d (.int 1))), (.t 76)]⟩,
 ⟨some 78, none, .pick (.t 72) (.t 77) (.c (.d (.bool false)))⟩,
 ⟨some 79, none, .mv (.t 78)⟩,
 ⟨some 80, some (79, true), .mv (.t 7)⟩,
 ⟨some 81, some (79, true), .mv (.t 7)⟩,
 ⟨some 82, some (79, true), .bin .mul (.t 80) (.t 81)⟩,
 ⟨some 83, some (79, true), .fld 1 (.t 3)⟩,
 ⟨some 84, some (79, true), .ld (.t 83)⟩,
 ⟨some 85, some (79, true), .bin .rem (.t 82) (.t 84)⟩,
 ⟨some 86, some (79, true), .mv (.t 7)⟩,
 ⟨some 87, some (79, true), .bin .mul (.t 85) (.t 86)⟩,
 ⟨some 88, some (79, true), .fld 1 (.t 3)⟩,
 ⟨some 89, some (79, true), .ld (.t 88)⟩,
 ⟨some 90, some (79, true), .bin .rem (.t 87) (.t 89)⟩,
 ⟨some 91, some (79, true), .mv (.t 7)⟩,
 ⟨some 92, some (79, true), .bin .mul (.t 90) (.t 91)⟩,
 ⟨some 93, some (79, true), .fld 1 (.t 3)⟩,
 ⟨some 94, some (79, true), .ld (.t 93)⟩,
 ⟨some 95, some (79, true), .bin .rem (.t 92) (.t 94)⟩,
 ⟨some 96, some (79, true), .fld 1 (.t 3)⟩,
 ⟨some 97, some (79, true), .ld (.t 96)⟩,
 ⟨some 98, some (79, true), .bin .sub (.t 97) (.c (.d (.int 1)))⟩]
 [⟨some 99, some (79, true), .bin .eql (.t 95) (.t 98)⟩,
 ⟨some 100, none, .pick (.t 79) (.t 99) (.c (.d (.bool false)))⟩,
 ⟨some 6, none, .mv (.t 100)⟩]) (
 .ret))) (
 .skip))))))))) (
 .seq (
 .seq (
 .reg [⟨some 101, none, .fld 1 (.t 5)⟩,
 ⟨some 102, none, .ld (.t 101)⟩,
 ⟨some 103, none, .bin .neq (.t 102) (.c (.d (.int 0)))⟩]) (
 .cond (.t 103) (
 .seq (
 .reg [⟨some 6, none, .mv (.c (.d (.bool false)))⟩]) (
 .ret)) (
 .skip))) (
 .seq (
 .seq (
 .reg [⟨some 104, none, .fld 0 (.t 5)⟩,
 ⟨some 105, none, .ld (.t 104)⟩]) (
 .block 1 (
 .seq (
 .reg [⟨some 107, none, .bin .eql (.t 105) (.c (.d (.int 1)))⟩,
 ⟨some 106, none, .mv (.t 107)⟩]) (
 .cond (.t 106) (
 .seq (
 .reg [⟨some 108, none, .ldn 3 (.t 3)⟩,
 ⟨some 109, none, .ldn 3 (.t 4)⟩,
 ⟨some 110, none, .eqs false 3 (.t 108) (.t 109)⟩,
 ⟨some 6, none, .mv (.t 110)⟩]) (
 .ret)) (
 .seq (
 .reg [⟨some 112, none, .bin .eql (.t 105) (.c (.d (.int 2)))⟩,
 ⟨some 111, none, .mv (.t 112)⟩]) (
 .cond (.t 111) (
 .seq (
 .reg [⟨some 113, none, .fld 0 (.t 3)⟩,
 ⟨some 114, none, .ld (.t 113)⟩,
 ⟨some 115, none, .bin .eql (.t 114) (.c (.d (.int 3)))⟩,
 ⟨some 116, none, .mv (.t 115)⟩,
 ⟨some 117, some (116, false), .fld 0 (.t 3)⟩,
 ⟨some 118, some (116, false), .ld (.t 117)⟩,
 ⟨some 119, some (116, false), .bin .eql (.t 118) (.c (.d (.int 4)))⟩,
 ⟨some 120, none, .pick (.t 116) (.c (.d (.bool true))) (.t 119)⟩,
 ⟨some 121, none, .mv (.t 120)⟩,
 ⟨some 122, some (121, true), .fld 0 (.t 4)⟩,
 ⟨some 123, some (121, true), .ld (.t 122)⟩,
 ⟨some 124, some (121, true), .bin .eql (.t 123) (.c (.d (.int 1)))⟩,
 ⟨some 125, none, .pick (.t 121) (.t 124) (.c (.d (.bool false)))⟩,
 ⟨some 6, none, .mv (.t 125)⟩]) (
 .ret)) (
 .seq (
 .reg [⟨some 127, none, .bin .eql (.t 105) (.c (.d (.int 5)))⟩,
 ⟨some 126, none, .mv (.t 127)⟩]) (
 .cond (.t 126) (
 .seq (
 .reg [⟨some 128, none, .fld 0 (.t 3)⟩,
 ⟨some 129, none, .ld (.t 128)⟩,
 ⟨some 130, none, .bin .eql (.t 129) (.c (.d (.int 7)))⟩,
 ⟨some 131, none, .mv (.t 130)⟩,
 ⟨some 132, some (131, true), .fld 0 (.t 4)⟩,
 ⟨some 133, some (131, true), .ld (.t 132)⟩,
 ⟨some 134, some (131, true), .bin .eql (.t 133) (.c (.d (.int 2)))⟩,
 ⟨some 135, none, .pick (.t 131) (.t 134) (.c (.d (.bool false)))⟩,
 ⟨some 136, none, .mv (.t 135)⟩,
 ⟨some 137, some (136, true), .fld 1 (.t 3)⟩,
 ⟨some 138, some (136, true), .ld (.t 137)⟩,
 ⟨some 139, some (136, true), .fld 1 (.t 4)⟩,
 ⟨some 140, some (136, true), .ld (.t 139)⟩,
 ⟨some 141, some (136, true), .bin .eql (.t 138) (.t 140)⟩,
 ⟨some 142, none, .pick (.t 136) (.t 141) (.c (.d (.bool false)))⟩,
 ⟨some 6, none, .mv (.t 142)⟩]) (
 .ret)) (
 .seq (
 .reg [⟨some 144, none, .bin .eql (.t 105) (.c (.d (.int 7)))⟩,
 ⟨some 143, none, .mv (.t 144)⟩]) (
 .cond (.t 143) (
 .seq (
 .reg [⟨some 145, none, .fld 0 (.t 3)⟩,
 ⟨some 146, none, .ld (.t 145)⟩]) (
 .block 2 (
 .seq (
 .seq (
 .reg [⟨some 148, none, .bin .eql (.t 146) (.c (.d (.int 3)))⟩,
 ⟨some 147, none, .mv (.t 148)⟩]) (
 .cond (.t 147) (
 .skip) (
 .seq (
 .reg [⟨some 149, none, .bin .eql (.t 146) (.c (.d (.int 4)))⟩,
 ⟨some 147, none, .mv (.t 149)⟩]) (
 .cond (.t 147) (
 .skip) (
 .reg [⟨some 150, none, .bin .eql (.t 146) (.c (.d (.int 5)))⟩,
 ⟨some 147, none, .mv (.t 150)⟩]))))) (
 .cond (.t 147) (
 .seq (
 .reg [⟨some 151, none, .fld 0 (.t 4)⟩,
 ⟨some 152, none, .ld (.t 151)⟩,
 ⟨some 153, none, .fld 0 (.t 3)⟩,
 ⟨some 154, none, .ld (.t 153)⟩,
 ⟨some 155, none, .bin .eql (.t 152) (.t 154)⟩,
 ⟨some 156, none, .mv (.t 155)⟩,
 ⟨some 157, some (156, true), .fld 1 (.t 4)⟩,
 ⟨some 158, some (156, true), .ld (.t 157)⟩,
 ⟨some 159, some (156, true), .fld 1 (.t 3)⟩,
 ⟨some 160, some (156, true), .ld (.t 159)⟩,
 ⟨some 161, some (156, true), .bin .leq (.t 158) (.t 160)⟩,
 ⟨some 162, none, .pick (.t 156) (.t 161) (.c (.d (.bool false)))⟩,
 ⟨some 6, none, .mv (.t 162)⟩]) (
 .ret)) (
 .seq (
 .seq (
 .reg [⟨some 164, none, .bin .eql (.t 146) (.c (.d (.int 7)))⟩,
 ⟨some 163, none, .mv (.t 164)⟩]) (
 .cond (.t 163) (
 .skip) (
 .reg [⟨some 165, none, .bin .eql (.t 146) (.c (.d (.int 6)))⟩,
 ⟨some 163, none, .mv (.t 165)⟩]))) (
 .cond (.t 163) (
 .seq (
 .reg [⟨some 166, none, .fld 0 (.t 4)⟩,
 ⟨some 167, none, .ld (.t 166)⟩,
 ⟨some 168, none, .fld 0 (.t 3)⟩,
 ⟨some 169, none, .ld (.t 168)⟩,
 ⟨some 170, none, .bin .eql (.t 167) (.t 169)⟩,
 ⟨some 171, none, .mv (.t 170)⟩,
 ⟨some 172, some (171, true), .fld 1 (.t 4)⟩,
 ⟨some 173, some (171, true), .ld (.t 172)⟩,
 ⟨some 174, some (171, true), .fld 1 (.t 3)⟩,
 ⟨some 175, some (171, true), .ld (.t 174)⟩,
 ⟨some 176, some (171, true), .bin .eql (.t 173) (.t 175)⟩,
 ⟨some 177, none, .pick (.t 171) (.t 176) (.c (.d (.bool false)))⟩,
 ⟨some 178, none, .mv (.t 177)⟩,
 ⟨some 179, some (178, true), .fld 2 (.t 4)⟩,
 ⟨some 180, some (178, true), .ld (.t 179)⟩,
 ⟨some 181, some (178, true), .fld 2 (.t 3)⟩,
 ⟨some 182, some (178, true), .ld (.t 181)⟩,
 ⟨some 183, some (178, true), .bin .leq (.t 180) (.t 182)⟩,
 ⟨some 184, none, .pick (.t 178) (.t 183) (.c (.d (.bool false)))⟩,
 ⟨some 6, none, .mv (.t 184)⟩]) (
 .ret)) (
 .skip))))))) (
 .seq (
 .reg [⟨some 186, none, .bin .eql (.t 105) (.c (.d (.int 8)))⟩,
 ⟨some 185, none, .mv (.t 186)⟩]) (
 .cond (.t 185) (
 .seq (
 .reg [⟨some 187, none, .fld 0 (.t 3)⟩,
 ⟨some 188, none, .ld (.t 187)⟩,
 ⟨some 189, none, .bin .eql (.t 188) (.c (.d (.int 1)))⟩,
 ⟨some 190, none, .mv (.t 189)⟩,
 ⟨some 191, some (190, true), .fld 0 (.t 4)⟩,
 ⟨some 192, some (190, true), .ld (.t 191)⟩,
 ⟨some 193, some (190, true), .bin .eql (.t 192) (.c (.d (.int 4)))⟩,
 ⟨some 194, some (190, true), .mv (.t 193)⟩,
 ⟨some 195, some (194, false), .fld 0 (.t 4)⟩,
 ⟨some 196, some (194, false), .ld (.t 195)⟩,
 ⟨some 197, some (194, false), .bin .eql (.t 196) (.c (.d (.int 5)))⟩,
 ⟨some 198, some (190, true), .pick (.t 194) (.c (.d (.bool true))) (.t 197)⟩,
 ⟨some 199, some (190, true), .mv (.t 198)⟩,
 ⟨some 200, some (199, false), .fld 0 (.t 4)⟩,
 ⟨some 201, some (199, false), .ld (.t 200)⟩,
 ⟨some 202, some (199, false), .bin .eql (.t 201) (.c (.d (.int 6)))⟩,
 ⟨some 203, some (190, true), .pick (.t 199) (.c (.d (.bool true))) (.t 202)⟩,
 ⟨some 204, none, .pick (.t 190) (.t 203) (.c (.d (.bool false)))⟩,
 ⟨some 6, none, .mv (.t 204)⟩]) (
 .ret)) (
 .skip))))))))))))) (
 .seq (
 .reg [⟨some 6, none, .mv (.c (.d (.bool false)))⟩]) (
 .ret)))))),
 [.t 6]⟩

theorem k_spec_HomOk : cFun Try.prog Try.f90 = some C_spec_HomOk.erase := by kernel_rfl

def L0_spec_l07Map : C :=
 .seq (
 .seq (
 .reg [⟨some 18, none, .mv (.t 10)⟩,
 ⟨some 19, none, .fld 1 (.t 7)⟩,
 ⟨some 20, none, .ld (.t 19)⟩,
 ⟨some 21, none, .call 101 [(.t 20), (.c (.d (.int 4096)))]⟩,
 ⟨some 22, none, .bin .lss (.t 18) (.t 21)⟩]) (
 .cond (.t 22) (
 .skip) (
 .exit 0))) (
 .seq (
 .block 1 (
 .draw [⟨some 25, none, .fld 2 (.t 9)⟩,
 ⟨some 26, none, .ld (.t 25)⟩,
 ⟨some 27, none, .ldn 3 (.t 4)⟩,
 ⟨some 28, none, .ldn 3 (.t 5)⟩,
 ⟨some 29, none, .ldn 2 (.t 6)⟩,
 ⟨some 30, none, .ldn 3 (.t 4)⟩,
 ⟨some 31, none, .ldn 3 (.t 7)⟩,
 ⟨some 32, none, .mv (.t 10)⟩,
 ⟨some 33, none, .call 102 [(.t 30), (.t 31), (.t 32)]⟩,
 ⟨some 34, none, .call 125 [(.t 27), (.t 28), (.t 29), (.t 33)]⟩]
 [⟨some 35, none, .app 1 8 [.d (.int 0)] (.t 26) (.t 34)⟩,
 ⟨some 36, none, .fld 2 (.t 9)⟩,
 ⟨none, none, .st 1 (.t 36) (.t 35)⟩])) (
 .reg [⟨some 23, none, .mv (.t 10)⟩,
 ⟨some 24, none, .bin .add (.t 23) (.c (.d (.int 1)))⟩,
 ⟨some 10, none, .mv (.t 24)⟩]))

def C_spec_l07Map : Fun := ⟨4, 38,
 .seq (
 .reg [⟨some 4, none, .box (.t 0)⟩,
 ⟨some 5, none, .box (.t 1)⟩,
 ⟨some 6, none, .box (.t 2)⟩,
 ⟨some 7, none, .box (.t 3)⟩,
 ⟨some 8, none, .zer [.nil, .nil, .nil]⟩]) (
 .seq (
 .draw [⟨some 11, none, .fld 0 (.t 7)⟩,
 ⟨some 12, none, .ld (.t 11)⟩,
 ⟨some 13, none, .call 78 [(.t 12)]⟩,
 ⟨some 14, none, .fld 1 (.t 7)⟩,
 ⟨some 15, none, .ld (.t 14)⟩,
 ⟨some 16, none, .call 78 [(.t 15)]⟩,
 ⟨some 17, none, .agg [.nil, .nil, .nil] [(0, 1, (.t 13)), (1, 1, (.t 16))]⟩,
 ⟨some 9, none, .zer [.nil, .nil, .nil]⟩]
 [⟨none, none, .st 3 (.t 9) (.t 17)⟩]) (
 .seq (
 .seq (
 .reg [⟨some 10, none, .mv (.c (.d (.int 0)))⟩]) (
 .block 0 (
 .loop L0_spec_l07Map))) (
 .seq (
 .reg [⟨some 37, none, .ldn 3 (.t 9)⟩,
 ⟨none, none, .st 3 (.t 8) (.t 37)⟩]) (
 .ret)))),
 [.cell 8 3]⟩

theorem k_spec_l07Map : cFun Try.prog Try.f92 = some C_spec_l07Map.erase := by kernel_rfl

def C_impl_HomOk : Fun := ⟨3, 172,
 .seq (
 .reg [⟨some 3, none, .box (.t 0)⟩,
 ⟨some 4, none, .box (.t 1)⟩,
 ⟨some 5, none, .box (.t 2)⟩,
 ⟨some 6, none, .mv (.c (.d (.bool false)))⟩]) (
 .seq (
 .seq (
 .reg [⟨some 7, none, .ldn 3 (.t 3)⟩,
 ⟨some 8, none, .call 103 [(.t 7)]⟩,
 ⟨some 9, none, .not (.t 8)⟩,
 ⟨some 10, none, .mv (.t 9)⟩,
 ⟨some 11, some (10, false), .ldn 3 (.t 4)⟩,
 ⟨some 12, some (10, false), .call 103 [(.t 11)]⟩,
 ⟨some 13, some (10, false), .not (.t 12)⟩,
 ⟨some 14, none, .pick (.t 10) (.c (.d (.bool true))) (.t 13)⟩]) (
 .cond (.t 14) (
 .seq (
 .reg [⟨some 6, none, .mv (.c (.d (.bool false)))⟩]) (
 .ret)) (
 .skip))) (
 .seq (
 .seq (
 .reg [⟨some 15, none, .fld 0 (.t 5)⟩,
 ⟨some 16, none, .ld (.t 15)⟩]) (
 .block 0 (
 .seq (
 .reg [⟨some 18, none, .bin .eql (.t 16) (.c (.d (.int 1)))⟩,
 ⟨some 17, none, .mv (.t 18)⟩]) (
 .cond (.t 17) (
 .seq (
 .reg [⟨some 19, none, .ldn 3 (.t 3)⟩,
 ⟨some 20, none, .ldn 3 (.t 4)⟩,
 ⟨some 21, none, .eqs false 3 (.t 19) (.t 20)⟩,
 ⟨some 22, none, .mv (.t 21)⟩,
 ⟨some 23, some (22, true), .fld 1 (.t 5)⟩,
 ⟨some 24, some (22, true), .ld (.t 23)⟩,
 ⟨some 25, some (22, true), .bin .eql (.t 24) (.c (.d (.int 0)))⟩,
 ⟨some 26, none, .pick (.t 22) (.t 25) (.c (.d (.bool false)))⟩,
 ⟨some 6, none, .mv (.t 26)⟩]) (
 .ret)) (
 .seq (
 .reg [⟨some 28, none, .bin .eql (.t 16) (.c (.d (.int 2)))⟩,
 ⟨some 27, none, .mv (.t 28)⟩]) (
 .cond (.t 27) (
 .seq (
 .reg [⟨some 29, none, .fld 0 (.t 3)⟩,
 ⟨some 30, none, .ld (.t 29)⟩,
 ⟨some 31, none, .bin .eql (.t 30) (.c (.d (.int 3)))⟩,
 ⟨some 32, none, .mv (.t 31)⟩,
 ⟨some 33, some (32, false), .fld 0 (.t 3)⟩,
 ⟨some 34, some (32, false), .ld (.t 33)⟩,
 ⟨some 35, some (32, false), .bin .eql (.t 34) (.c (.d (.int 4)))⟩,
 ⟨some 36, none, .pick (.t 32) (.c (.d (.bool true))) (.t 35)⟩,
 ⟨some 37, none, .mv (.t 36)⟩,
 ⟨some 38, some (37, true), .fld 0 (.t 4)⟩,
 ⟨some 39, some (37, true), .ld (.t 38)⟩,
 ⟨some 40, some (37, true), .bin .eql (.t 39) (.c (.d (.int 1)))⟩,
 ⟨some 41, none, .pick (.t 37) (.t 40) (.c (.d (.bool false)))⟩,
 ⟨some 42, none, .mv (.t 41)⟩,
 ⟨some 43, some (42, true), .fld 1 (.t 5)⟩,
 ⟨some 44, some (42, true), .ld (.t 43)⟩,
 ⟨some 45, some (42, true), .bin .eql (.t 44) (.c (.d (.int 0)))⟩,
 ⟨some 46, none, .pick (.t 42) (.t 45) (.c (.d (.bool false)))⟩,
 ⟨some 6, none, .mv (.t 46)⟩]) (
 .ret)) (
 .seq (
 .reg [⟨some 48, none, .bin .eql (.t 16) (.c (.d (.int 3)))⟩,
 ⟨some 47, none, .mv (.t 48)⟩]) (
 .cond (.t 47) (
 .seq (
 .reg [⟨some 49, none, .fld 0 (.t 3)⟩,
 ⟨some 50, none, .ld (.t 49)⟩,
 ⟨some 51, none, .bin .eql (.t 50) (.c (.d (.int 6)))⟩,
 ⟨some 52, none, .mv (.t 51)⟩,
 ⟨some 53, some (52, true), .fld 0 (.t 4)⟩,
 ⟨some 54, some (52, true), .ld (.t 53)⟩,
 ⟨some 55, some (52, true), .bin .eql (.t 54) (.c (.d (.int 1)))⟩,
 ⟨some 56, none, .pick (.t 52) (.t 55) (.c (.d (.bool false)))⟩,
 ⟨some 57, none, .mv (.t 56)⟩,
 ⟨some 58, some (57, true), .fld 1 (.t 5)⟩,
 ⟨some 59, some (57, true), .ld (.t 58)⟩,
 ⟨some 60, some (57, true), .bin .geq (.t 59) (.c (.d (.int 0)))⟩,
 ⟨some 61, none, .pick (.t 57) (.t 60) (.c (.d (.bool false)))⟩,
 ⟨some 62, none, .mv (.t 61)⟩,
 ⟨some 63, some (62, true), .fld 1 (.t 5)⟩,
 ⟨some 64, some (62, true), .ld (.t 63)⟩,
 ⟨some 65, some (62, true), .fld 2 (.t 3)⟩,
 ⟨some 66, some (62, true), .ld (.t 65)⟩,
 ⟨some 67, some (62, true), .bin .lss (.t 64) (.t 66)⟩,
 ⟨some 68, none, .pick (.t 62) (.t 67) (.c (.d (.bool false)))⟩,
 ⟨some 6, none, .mv (.t 68)⟩]) (
 .ret)) (
 .seq (
 .reg [⟨some 70, none, .bin .eql (.t 16) (.c (.d (.int 4)))⟩,
 ⟨some 69, none, .mv (.t 70)⟩]) (
 .cond (.t 69) (
 .seq (
 .reg [⟨some 71, none, .fld 0 (.t 3)⟩,
 ⟨some 72, none, .ld (.t 71)⟩,
 ⟨some 73, none, .bin .eql (.t 72) (.c (.d (.int 5)))⟩,
 ⟨some 74, none, .mv (.t 73)⟩,
 ⟨some 75, some (74, true), .fld 0 (.t 4)⟩,
 ⟨some 76, some (74, true), .ld (.t 75)⟩,
 ⟨some 77, some (74, true), .bin .eql (.t 76) (.c (.d (.int 1)))⟩,
 ⟨some 78, none, .pick (.t 74) (.t 77) (.c (.d (.bool false)))⟩,
 ⟨some 79, none, .mv (.t 78)⟩,
 ⟨some 80, some (79, true), .fld 1 (.t 5)⟩,
 ⟨some 81, some (79, true), .ld (.t 80)⟩,
 ⟨some 82, some (79, true), .bin .geq (.t 81) (.c (.d (.int 1)))⟩,
 ⟨some 83, none, .pick (.t 79) (.t 82) (.c (.d (.bool false)))⟩,
 ⟨some 84, none, .mv (.t 83)⟩,
 ⟨some 85, some (84, true), .fld 1 (.t 5)⟩,
 ⟨some 86, some (84, true), .ld (.t 85)⟩,
 ⟨some 87, some (84, true), .fld 1 (.t 3)⟩,
 ⟨some 88, some (84, true), .ld (.t 87)⟩,
 ⟨some 89, some (84, true), .bin .leq (.t 86) (.t 88)⟩,
 ⟨some 90, none, .pick (.t 84) (.t 89) (.c (.d (.bool false)))⟩,
 ⟨some 6, none, .mv (.t 90)⟩]) (
 .ret)) (
 .seq (
 .reg [⟨some 92, none, .bin .eql (.t 16) (.c (.d (.int 5)))⟩,
 ⟨some 91, none, .mv (.t 92)⟩]) (
 .cond (.t 91) (
 .seq (
 .reg [⟨some 93, none, .fld 0 (.t 3)⟩,
 ⟨some 94, none, .ld (.t 93)⟩,
 ⟨some 95, none, .bin .eql (.t 94) (.c (.d (.int 7)))⟩,
 ⟨some 96, none, .mv (.t 95)⟩,
 ⟨some 97, some (96, true), .fld 0 (.t 4)⟩,
 ⟨some 98, some (96, true), .ld (.t 97)⟩,
 ⟨some 99, some (96, true), .bin .eql (.t 98) (.c (.d (.int 2)))⟩,
 ⟨some 100, none, .pick (.t 96) (.t 99) (.c (.d (.bool false)))⟩,
 ⟨some 101, none, .mv (.t 100)⟩,
 ⟨some 102, some (101, true), .fld 1 (.t 3)⟩,
 ⟨some 103, some (101, true), .ld (.t 102)⟩,
 ⟨some 104, some (101, true), .fld 1 (.t 4)⟩,
 ⟨some 105, some (101, true), .ld (.t 104)⟩,
 ⟨some 106, some (101, true), .bin .eql (.t 103) (.t 105)⟩,
 ⟨some 107, none, .pick (.t 101) (.t 106) (.c (.d (.bool false)))⟩,
 ⟨some 108, none, .mv (.t 107)⟩,
 ⟨some 109, some (108, true), .fld 1 (.t 5)⟩,
 ⟨some 110, some (108, true), .ld (.t 109)⟩,
 ⟨some 111, some (108, true), .bin .eql (.t 110) (.c (.d (.int 0)))⟩,
 ⟨some 112, none, .pick (.t 108) (.t 111) (.c (.d (.bool false)))⟩,
 ⟨some 6, none, .mv (.t 112)⟩]) (
 .ret)) (
 .seq (
 .reg [⟨some 114, none, .bin .eql (.t 16) (.c (.d (.int 6)))⟩,
 ⟨some 113, none, .mv (.t 114)⟩]) (
 .cond (.t 113) (
 .seq (
 .reg [⟨some 115, none, .fld 0 (.t 3)⟩,
 ⟨some 116, none, .ld (.t 115)⟩,
 ⟨some 117, none, .bin .eql (.t 116) (.c (.d (.int 8)))⟩,
 ⟨some 118, none, .mv (.t 117)⟩,
 ⟨some 119, some (118, true), .fld 0 (.t 4)⟩,
 ⟨some 120, some (118, true), .ld (.t 119)⟩,
 ⟨some 121, some (118, true), .bin .eql (.t 120) (.c (.d (.int 2)))⟩,
 ⟨some 122, none, .pick (.t 118) (.t 121) (.c (.d (.bool false)))⟩,
 ⟨some 123, none, .mv (.t 122)⟩,
 ⟨some 124, some (123, true), .fld 1 (.t 3)⟩,
 ⟨some 125, some (123, true), .ld (.t 124)⟩,
 ⟨some 126, some (123, true), .fld 1 (.t 4)⟩,
 ⟨some 127, some (123, true), .ld (.t 126)⟩,
 ⟨some 128, some (123, true), .bin .eql (.t 125) (.t 127)⟩,
 ⟨some 129, none, .pick (.t 123) (.t 128) (.c (.d (.bool false)))⟩,
 ⟨some 130, none, .mv (.t 129)⟩,
 ⟨some 131, some (130, true), .fld 1 (.t 3)⟩,
 ⟨some 132, some (130, true), .ld (.t 131)⟩,
 ⟨some 133, some (130, true), .fld 1 (.t 5)⟩,
 ⟨some 134, some (130, true), .ld (.t 133)⟩,
 ⟨some 135, some (130, true), .call 126 [(.t 132), (.t 134)]⟩,
 ⟨some 136, none, .pick (.t 130) (.t 135) (.c (.d (.bool false)))⟩,
 ⟨some 6, none, .mv (.t 136)⟩]) (
 .ret)) (
 .seq (
 .reg [⟨some 138, none, .bin .eql (.t 16) (.c (.d (.int 7)))⟩,
 ⟨some 137, none, .mv (.t 138)⟩]) (
 .cond (.t 137) (
 .seq (
 .reg [⟨some 139, none, .fld 1 (.t 5)⟩,
 ⟨some 140, none, .ld (.t 139)⟩,
 ⟨some 141, none, .bin .eql (.t 140) (.c (.d (.int 0)))⟩,
 ⟨some 142, none, .mv (.t 141)⟩,
 ⟨some 143, some (142, true), .ldn 3 (.t 3)⟩,
 ⟨some 144, some (142, true), .ldn 3 (.t 4)⟩,
 ⟨some 145, some (142, true), .call 127 [(.t 143), (.t 144)]⟩,
 ⟨some 146, none, .pick (.t 142) (.t 145) (.c (.d (.bool false)))⟩,
 ⟨some 6, none, .mv (.t 146)⟩]) (
 .ret)) (
 .seq (
 .reg [⟨some 148, none, .bin .eql (.t 16) (.c (.d (.int 8)))⟩,
 ⟨some 147, none, .mv (.t 148)⟩]) (
 .cond (.t 147) (
 .seq (
 .reg [⟨some 149, none, .fld 0 (.t 3)⟩,
 ⟨some 150, none, .ld (.t 149)⟩,
 ⟨some 151, none, .bin .eql (.t 150) (.c (.d (.int 1)))⟩,
 ⟨some 152, none, .mv (.t 151)⟩,
 ⟨some 153, some (152, true), .fld 1 (.t 5)⟩,
 ⟨some 154, some (152, true), .ld (.t 153)⟩,
 ⟨some 155, some (152, true), .bin .eql (.t 154) (.c (.d (.int 0)))⟩,
 ⟨some 156, none, .pick (.t 152) (.t 155) (.c (.d (.bool false)))⟩,
 ⟨some 157, none, .mv (.t 156)⟩,
 ⟨some 158, some (157, true), .fld 0 (.t 4)⟩,
 ⟨some 159, some (157, true), .ld (.t 158)⟩,
 ⟨some 160, some (157, true), .bin .eql (.t 159) (.c (.d (.int 4)))⟩,
 ⟨some 161, some (157, true), .mv (.t 160)⟩,
 ⟨some 162, some (161, false), .fld 0 (.t 4)⟩,
 ⟨some 163, some (161, false), .ld (.t 162)⟩,
 ⟨some 164, some (161, false), .bin .eql (.t 163) (.c (.d (.int 5)))⟩,
 ⟨some 165, some (157, true), .pick (.t 161) (.c (.d (.bool true))) (.t 164)⟩,
 ⟨some 166, some (157, true), .mv (.t 165)⟩,
 ⟨some 167, some (166, false), .fld 0 (.t 4)⟩,
 ⟨some 168, some (166, false), .ld (.t 167)⟩,
 ⟨some 169, some (166, false), .bin .eql (.t 168) (.c (.d (.int 6)))⟩,
 ⟨some 170, some (157, true), .pick (.t 166) (.c (.d (.bool true))) (.t 169)⟩,
 ⟨some 171, none, .pick (.t 157) (.t 170) (.c (.d (.bool false)))⟩,
 ⟨some 6, none, .mv (.t 171)⟩]) (
 .ret)) (
 .skip))))))))))))))))))) (
 .seq (
 .reg [⟨some 6, none, .mv (.c (.d (.bool false)))⟩]) (
 .ret)))),
 [.t 6]⟩

theorem k_impl_HomOk : cFun Try.prog Try.f93 = some C_impl_HomOk.erase := by kernel_rfl

def L0_impl_rawHom : C :=
 .seq (
 .seq (
 .reg [⟨some 64, none, .mv (.t 10)⟩,
 ⟨some 65, none, .bin .geq (.t 64) (.c (.d (.int 0)))⟩]) (
 .cond (.t 65) (
 .skip) (
 .exit 1))) (
 .seq (
 .block 2 (
 .draw [⟨some 68, none, .mv (.t 9)⟩,
 ⟨some 69, none, .fld 1 (.t 6)⟩,
 ⟨some 70, none, .ld (.t 69)⟩,
 ⟨some 71, none, .bin .mul (.t 68) (.t 70)⟩,
 ⟨some 72, none, .mv (.t 3)⟩,
 ⟨some 73, none, .mv (.t 10)⟩,
 ⟨some 74, none, .idx 1 (.t 72) (.t 73)⟩,
 ⟨some 75, none, .ld (.t 74)⟩,
 ⟨some 76, none, .bin .add (.t 71) (.t 75)⟩,
 ⟨some 77, none, .fld 1 (.t 4)⟩,
 ⟨some 78, none, .ld (.t 77)⟩]
 [⟨some 79, none, .bin .rem (.t 76) (.t 78)⟩,
 ⟨some 9, none, .mv (.t 79)⟩])) (
 .reg [⟨some 66, none, .mv (.t 10)⟩,
 ⟨some 67, none, .bin .sub (.t 66) (.c (.d (.int 1)))⟩,
 ⟨some 10, none, .mv (.t 67)⟩]))

def C_impl_rawHom : Fun := ⟨4, 121,
 .seq (
 .reg [⟨some 4, none, .box (.t 0)⟩,
 ⟨some 5, none, .box (.t 1)⟩,
 ⟨some 6, none, .box (.t 2)⟩,
 ⟨some 8, none, .mv (.c (.nil))⟩]) (
 .seq (
 .seq (
 .reg [⟨some 11, none, .fld 0 (.t 6)⟩,
 ⟨some 12, none, .ld (.t 11)⟩]) (
 .block 0 (
 .seq (
 .reg [⟨some 14, none, .bin .eql (.t 12) (.c (.d (.int 2)))⟩,
 ⟨some 13, none, .mv (.t 14)⟩]) (
 .cond (.t 13) (
 .seq (
 .reg [⟨some 15, none, .fld 0 (.t 4)⟩,
 ⟨some 16, none, .ld (.t 15)⟩,
 ⟨some 17, none, .bin .eql (.t 16) (.c (.d (.int 3)))⟩,
 ⟨some 18, none, .mv (.t 17)⟩,
 ⟨some 19, some (18, true), .mv (.t 3)⟩,
 ⟨some 20, some (18, true), .idx 1 (.t 19) (.c (.d (.int 0)))⟩,
 ⟨some 21, some (18, true), .ld (.t 20)⟩,
 ⟨some 22, some (18, true), .bin .gtr (.t 21) (.c (.d (.int 0)))⟩,
 ⟨some 23, none, .pick (.t 18) (.t 22) (.c (.d (.bool false)))⟩,
 ⟨some 24, none, .mv (.t 23)⟩,
 ⟨some 25, some (24, false), .fld 0 (.t 4)⟩,
 ⟨some 26, some (24, false), .ld (.t 25)⟩,
 ⟨some 27, some (24, false), .bin .eql (.t 26) (.c (.d (.int 4)))⟩,
 ⟨some 28, some (24, false), .mv (.t 27)⟩,
 ⟨some 29, some (28, true), .mv (.t 3)⟩,
 ⟨some 30, some (28, true), .idx 1 (.t 29) (.c (.d (.int 0)))⟩,
 ⟨some 31, some (28, true), .ld (.t 30)⟩,
 ⟨some 32, some (28, true), .bin .eql (.t 31) (.c (.d (.int 0)))⟩,
 ⟨some 33, some (24, false), .pick (.t 28) (.t 32) (.c (.d (.bool false)))⟩,
 ⟨some 34, none, .pick (.t 24) (.c (.d (.bool true))) (.t 33)⟩,
 ⟨some 35, none, .call 128 [(.t 34)]⟩,
 ⟨some 8, none, .mv (.t 35)⟩]) (
 .ret)) (
 .seq (
 .reg [⟨some 37, none, .bin .eql (.t 12) (.c (.d (.int 3)))⟩,
 ⟨some 36, none, .mv (.t 37)⟩]) (
 .cond (.t 36) (
 .seq (
 .draw [⟨some 38, none, .mv (.t 3)⟩,
 ⟨some 39, none, .idx 1 (.t 38) (.c (.d (.int 0)))⟩,
 ⟨some 40, none, .ld (.t 39)⟩,
 ⟨some 41, none, .fld 1 (.t 6)⟩,
 ⟨some 42, none, .ld (.t 41)⟩]
 [⟨some 43, none, .bin .shr (.t 40) (.t 42)⟩,
 ⟨some 44, none, .bin .and (.t 43) (.c (.d (.int 1)))⟩,
 ⟨some 45, none, .bin .eql (.t 44) (.c (.d (.int 1)))⟩,
 ⟨some 46, none, .call 128 [(.t 45)]⟩,
 ⟨some 8, none, .mv (.t 46)⟩]) (
 .ret)) (
 .seq (
 .reg [⟨some 48, none, .bin .eql (.t 12) (.c (.d (.int 4)))⟩,
 ⟨some 47, none, .mv (.t 48)⟩]) (
 .cond (.t 47) (
 .seq (
 .draw [⟨some 49, none, .mv (.t 3)⟩,
 ⟨some 50, none, .idx 1 (.t 49) (.c (.d (.int 0)))⟩,
 ⟨some 51, none, .ld (.t 50)⟩,
 ⟨some 52, none, .fld 1 (.t 6)⟩,
 ⟨some 53, none, .ld (.t 52)⟩]
 [⟨some 54, none, .bin .geq (.t 51) (.t 53)⟩,
 ⟨some 55, none, .call 128 [(.t 54)]⟩,
 ⟨some 8, none, .mv (.t 55)⟩]) (
 .ret)) (
 .seq (
 .reg [⟨some 57, none, .bin .eql (.t 12) (.c (.d (.int 5)))⟩,
 ⟨some 56, none, .mv (.t 57)⟩]) (
 .cond (.t 56) (
 .seq (
 .reg [⟨some 58, none, .mv (.t 3)⟩,
 ⟨some 59, none, .idx 1 (.t 58) (.c (.d (.int 0)))⟩,
 ⟨some 60, none, .ld (.t 59)⟩,
 ⟨some 61, none, .mksl 1 1 [.d (.int 0)] [(0, 1, (.t 60))]⟩,
 ⟨some 8, none, .mv (.t 61)⟩]) (
 .ret)) (
 .seq (
 .reg [⟨some 63, none, .bin .eql (.t 12) (.c (.d (.int 6)))⟩,
 ⟨some 62, none, .mv (.t 63)⟩]) (
 .cond (.t 62) (
 .seq (
 .reg [⟨some 9, none, .mv (.c (.d (.int 0)))⟩]) (
 .seq (
 .seq (
 .reg [⟨some 10, none, .mv (.c (.d (.int 3)))⟩]) (
 .block 1 (
 .loop L0_impl_rawHom))) (
 .seq (
 .reg [⟨some 80, none, .mv (.t 9)⟩,
 ⟨some 81, none, .mksl 1 1 [.d (.int 0)] [(0, 1, (.t 80))]⟩,
 ⟨some 8, none, .mv (.t 81)⟩]) (
 .ret)))) (
 .seq (
 .reg [⟨some 83, none, .bin .eql (.t 12) (.c (.d (.int 7)))⟩,
 ⟨some 82, none, .mv (.t 83)⟩]) (
 .cond (.t 82) (
 .seq (
 .seq (
 .reg [⟨some 84, none, .fld 0 (.t 4)⟩,
 ⟨some 85, none, .ld (.t 84)⟩]) (
 .block 3 (
 .seq (
 .reg [⟨some 87, none, .bin .eql (.t 85) (.c (.d (.int 7)))⟩,
 ⟨some 86, none, .mv (.t 87)⟩]) (
 .cond (.t 86) (
 .seq (
 .reg [⟨some 88, none, .mv (.t 3)⟩,
 ⟨some 89, none, .fld 2 (.t 5)⟩,
 ⟨some 90, none, .ld (.t 89)⟩,
 ⟨some 91, none, .slc 1 (.t 88) none (some (.t 90))⟩,
 ⟨some 92, none, .call 80 [(.t 91)]⟩,
 ⟨some 8, none, .mv (.t 92)⟩]) (
 .ret)) (
 .seq (
 .reg [⟨some 94, none, .bin .eql (.t 85) (.c (.d (.int 6)))⟩,
 ⟨some 93, none, .mv (.t 94)⟩]) (
 .cond (.t 93) (
 .seq (
 .draw [⟨some 95, none, .mv (.t 3)⟩,
 ⟨some 96, none, .idx 1 (.t 95) (.c (.d (.int 0)))⟩,
 ⟨some 97, none, .ld (.t 96)⟩,
 ⟨some 98, none, .ldn 3 (.t 5)⟩,
 ⟨some 99, none, .call 129 [(.t 98)]⟩]
 [⟨some 100, none, .bin .and (.t 97) (.t 99)⟩,
 ⟨some 101, none, .mksl 1 1 [.d (.int 0)] [(0, 1, (.t 100))]⟩,
 ⟨some 8, none, .mv (.t 101)⟩]) (
 .ret)) (
 .skip))))))) (
 .seq (
 .draw [⟨some 102, none, .mv (.t 3)⟩,
 ⟨some 103, none, .idx 1 (.t 102) (.c (.d (.int 0)))⟩,
 ⟨some 104, none, .ld (.t 103)⟩,
 ⟨some 105, none, .fld 1 (.t 5)⟩,
 ⟨some 106, none, .ld (.t 105)⟩]
 [⟨some 107, none, .mnx false (.t 104) (.t 106)⟩,
 ⟨some 108, none, .mksl 1 1 [.d (.int 0)] [(0, 1, (.t 107))]⟩,
 ⟨some 8, none, .mv (.t 108)⟩]) (
 .ret))) (
 .seq (
 .reg [⟨some 110, none, .bin .eql (.t 12) (.c (.d (.int 8)))⟩,
 ⟨some 109, none, .mv (.t 110)⟩]) (
 .cond (.t 109) (
 .seq (
 .seq (
 .reg [⟨some 111, none, .mv (.t 3)⟩,
 ⟨some 112, none, .idx 1 (.t 111) (.c (.d (.int 0)))⟩,
 ⟨some 113, none, .ld (.t 112)⟩,
 ⟨some 114, none, .bin .eql (.t 113) (.c (.d (.int 1)))⟩]) (
 .cond (.t 114) (
 .seq (
 .reg [⟨some 115, none, .ldn 3 (.t 5)⟩,
 ⟨some 116, none, .call 130 [(.t 115)]⟩,
 ⟨some 8, none, .mv (.t 116)⟩]) (
 .ret)) (
 .skip))) (
 .seq (
 .reg [⟨some 117, none, .ldn 3 (.t 5)⟩,
 ⟨some 118, none, .call 131 [(.t 117)]⟩,
 ⟨some 8, none, .mv (.t 118)⟩]) (
 .ret))) (
 .skip))))))))))))))))) (
 .seq (
 .reg [⟨some 119, none, .mv (.t 3)⟩,
 ⟨some 120, none, .call 80 [(.t 119)]⟩,
 ⟨some 8, none, .mv (.t 120)⟩]) (
 .ret))),
 [.t 8]⟩

theorem k_impl_rawHom : cFun Try.prog Try.f96 = some C_impl_rawHom.erase := by kernel_rfl

def L0_spec_l03Map : C :=
 .seq (
 .seq (
 .reg [⟨some 52, none, .mv (.t 10)⟩,
 ⟨some 53, none, .bin .geq (.t 52) (.c (.d (.int 0)))⟩]) (
 .cond (.t 53) (
 .skip) (
 .exit 1))) (
 .seq (
 .block 2 (
 .draw [⟨some 56, none, .mv (.t 9)⟩,
 ⟨some 57, none, .fld 1 (.t 6)⟩,
 ⟨some 58, none, .ld (.t 57)⟩,
 ⟨some 59, none, .bin .mul (.t 56) (.t 58)⟩,
 ⟨some 60, none, .mv (.t 3)⟩,
 ⟨some 61, none, .mv (.t 10)⟩,
 ⟨some 62, none, .idx 1 (.t 60) (.t 61)⟩,
 ⟨some 63, none, .ld (.t 62)⟩,
 ⟨some 64, none, .bin .add (.t 59) (.t 63)⟩,
 ⟨some 65, none, .fld 1 (.t 4)⟩,
 ⟨some 66, none, .ld (.t 65)⟩]
 [⟨some 67, none, .bin .rem (.t 64) (.t 66)⟩,
 ⟨some 9, none, .mv (.t 67)⟩])) (
 .reg [⟨some 54, none, .mv (.t 10)⟩,
 ⟨some 55, none, .bin .sub (.t 54) (.c (.d (.int 1)))⟩,
 ⟨some 10, none, .mv (.t 55)⟩]))

def C_spec_l03Map : Fun := ⟨4, 111,
 .seq (
 .reg [⟨some 4, none, .box (.t 0)⟩,
 ⟨some 5, none, .box (.t 1)⟩,
 ⟨some 6, none, .box (.t 2)⟩,
 ⟨some 8, none, .mv (.c (.nil))⟩]) (
 .seq (
 .seq (
 .reg [⟨some 11, none, .fld 0 (.t 6)⟩,
 ⟨some 12, none, .ld (.t 11)⟩]) (
 .block 0 (
 .seq (
 .reg [⟨some 14, none, .bin .eql (.t 12) (.c (.d (.int 2)))⟩,
 ⟨some 13, none, .mv (.t 14)⟩]) (
 .cond (.t 13) (
 .seq (
 .draw [⟨some 15, none, .mv (.t 3)⟩,
 ⟨some 16, none, .idx 1 (.t 15) (.c (.d (.int 0)))⟩,
 ⟨some 17, none, .ld (.t 16)⟩,
 ⟨some 18, none, .bin .gtr (.t 17) (.c (.d (.int 0)))⟩,
 ⟨some 19, none, .fld 0 (.t 4)⟩,
 ⟨some 20, none, .ld (.t 19)⟩,
 ⟨some 21, none, .bin .eql (.t 20) (.c (.d (.int 3)))⟩]
 [⟨some 22, none, .binb false (.t 18) (.t 21)⟩,
 ⟨some 23, none, .call 146 [(.t 22)]⟩,
 ⟨some 8, none, .mv (.t 23)⟩]) (
 .ret)) (
 .seq (
 .reg [⟨some 25, none, .bin .eql (.t 12) (.c (.d (.int 3)))⟩,
 ⟨some 24, none, .mv (.t 25)⟩]) (
 .cond (.t 24) (
 .seq (
 .draw [⟨some 26, none, .mv (.t 3)⟩,
 ⟨some 27, none, .idx 1 (.t 26) (.c (.d (.int 0)))⟩,
 ⟨some 28, none, .ld (.t 27)⟩,
 ⟨some 29, none, .fld 1 (.t 6)⟩,
 ⟨some 30, none, .ld (.t 29)⟩]
 [⟨some 31, none, .bin .shr (.t 28) (.t 30)⟩,
 ⟨some 32, none, .bin .and (.t 31) (.c (.d (.int 1)))⟩,
 ⟨some 33, none, .bin .eql (.t 32) (.c (.d (.int 1)))⟩,
 ⟨some 34, none, .call 146 [(.t 33)]⟩,
 ⟨some 8, none, .mv (.t 34)⟩]) (
 .ret)) (
 .seq (
 .reg [⟨some 36, none, .bin .eql (.t 12) (.c (.d (.int 4)))⟩,
 ⟨some 35, none, .mv (.t 36)⟩]) (
 .cond (.t 35) (
 .seq (
 .draw [⟨some 37, none, .mv (.t 3)⟩,
 ⟨some 38, none, .idx 1 (.t 37) (.c (.d (.int 0)))⟩,
 ⟨some 39, none, .ld (.t 38)⟩,
 ⟨some 40, none, .fld 1 (.t 6)⟩,
 ⟨some 41, none, .ld (.t 40)⟩]
 [⟨some 42, none, .bin .geq (.t 39) (.t 41)⟩,
 ⟨some 43, none, .call 146 [(.t 42)]⟩,
 ⟨some 8, none, .mv (.t 43)⟩]) (
 .ret)) (
 .seq (
 .reg [⟨some 45, none, .bin .eql (.t 12) (.c (.d (.int 5)))⟩,
 ⟨some 44, none, .mv (.t 45)⟩]) (
 .cond (.t 44) (
 .seq (
 .reg [⟨some 46, none, .mv (.t 3)⟩,
 ⟨some 47, none, .idx 1 (.t 46) (.c (.d (.int 0)))⟩,
 ⟨some 48, none, .ld (.t 47)⟩,
 ⟨some 49, none, .mksl 1 1 [.d (.int 0)] [(0, 1, (.t 48))]⟩,
 ⟨some 8, none, .mv (.t 49)⟩]) (
 .ret)) (
 .seq (
 .reg [⟨some 51, none, .bin .eql (.t 12) (.c (.d (.int 6)))⟩,
 ⟨some 50, none, .mv (.t 51)⟩]) (
 .cond (.t 50) (
 .seq (
 .reg [⟨some 9, none, .mv (.c (.d (.int 0)))⟩]) (
 .seq (
 .seq (
 .reg [⟨some 10, none, .mv (.c (.d (.int 3)))⟩]) (
 .block 1 (
 .loop L0_spec_l03Map))) (
 .seq (
 .reg [⟨some 68, none, .mv (.t 9)⟩,
 ⟨some 69, none, .mksl 1 1 [.d (.int 0)] [(0, 1, (.t 68))]⟩,
 ⟨some 8, none, .mv (.t 69)⟩]) (
 .ret)))) (
 .seq (
 .reg [⟨some 71, none, .bin .eql (.t 12) (.c (.d (.int 7)))⟩,
 ⟨some 70, none, .mv (.t 71)⟩]) (
 .cond (.t 70) (
 .seq (
 .seq (
 .reg [⟨some 72, none, .fld 0 (.t 4)⟩,
 ⟨some 73, none, .ld (.t 72)⟩]) (
 .block 3 (
 .seq (
 .reg [⟨some 75, none, .bin .eql (.t 73) (.c (.d (.int 7)))⟩,
 ⟨some 74, none, .mv (.t 75)⟩]) (
 .cond (.t 74) (
 .seq (
 .reg [⟨some 76, none, .mksl 1 0 [.d (.int 0)] []⟩,
 ⟨some 77, none, .mv (.t 3)⟩,
 ⟨some 78, none, .fld 2 (.t 5)⟩,
 ⟨some 79, none, .ld (.t 78)⟩,
 ⟨some 80, none, .slc 1 (.t 77) none (some (.t 79))⟩,
 ⟨some 81, none, .app 1 8 [.d (.int 0)] (.t 76) (.t 80)⟩,
 ⟨some 8, none, .mv (.t 81)⟩]) (
 .ret)) (
 .seq (
 .reg [⟨some 83, none, .bin .eql (.t 73) (.c (.d (.int 6)))⟩,
 ⟨some 82, none, .mv (.t 83)⟩]) (
 .cond (.t 82) (
 .seq (
 .draw [⟨some 84, none, .mv (.t 3)⟩,
 ⟨some 85, none, .idx 1 (.t 84) (.c (.d (.int 0)))⟩,
 ⟨some 86, none, .ld (.t 85)⟩,
 ⟨some 87, none, .ldn 3 (.t 5)⟩,
 ⟨some 88, none, .call 119 [(.t 87)]⟩]
 [⟨some 89, none, .bin .and (.t 86) (.t 88)⟩,
 ⟨some 90, none, .mksl 1 1 [.d (.int 0)] [(0, 1, (.t 89))]⟩,
 ⟨some 8, none, .mv (.t 90)⟩]) (
 .ret)) (
 .skip))))))) (
 .seq (
 .draw [⟨some 91, none, .mv (.t 3)⟩,
 ⟨some 92, none, .idx 1 (.t 91) (.c (.d (.int 0)))⟩,
 ⟨some 93, none, .ld (.t 92)⟩,
 ⟨some 94, none, .fld 1 (.t 5)⟩,
 ⟨some 95, none, .ld (.t 94)⟩]
 [⟨some 96, none, .mnx false (.t 93) (.t 95)⟩,
 ⟨some 97, none, .mksl 1 1 [.d (.int 0)] [(0, 1, (.t 96))]⟩,
 ⟨some 8, none, .mv (.t 97)⟩]) (
 .ret))) (
 .seq (
 .reg [⟨some 99, none, .bin .eql (.t 12) (.c (.d (.int 8)))⟩,
 ⟨some 98, none, .mv (.t 99)⟩]) (
 .cond (.t 98) (
 .seq (
 .seq (
 .reg [⟨some 100, none, .mv (.t 3)⟩,
 ⟨some 101, none, .idx 1 (.t 100) (.c (.d (.int 0)))⟩,
 ⟨some 102, none, .ld (.t 101)⟩,
 ⟨some 103, none, .bin .eql (.t 102) (.c (.d (.int 1)))⟩]) (
 .cond (.t 103) (
 .seq (
 .reg [⟨some 104, none, .ldn 3 (.t 5)⟩,
 ⟨some 105, none, .call 147 [(.t 104)]⟩,
 ⟨some 8, none, .mv (.t 105)⟩]) (
 .ret)) (
 .skip))) (
 .seq (
 .reg [⟨some 106, none, .ldn 3 (.t 5)⟩,
 ⟨some 107, none, .call 148 [(.t 106)]⟩,
 ⟨some 8, none, .mv (.t 107)⟩]) (
 .ret))) (
 .skip))))))))))))))))) (
 .seq (
 .reg [⟨some 108, none, .mksl 1 0 [.d (.int 0)] []⟩,
 ⟨some 109, none, .mv (.t 3)⟩,
 ⟨some 110, none, .app 1 8 [.d (.int 0)] (.t 108) (.t 109)⟩,
 ⟨some 8, none, .mv (.t 110)⟩]) (
 .ret))),
 [.t 8]⟩

theorem k_spec_l03Map : cFun Try.prog Try.f125 = some C_spec_l03Map.erase := by kernel_rfl

def C_impl_rootOk : Fun := ⟨2, 27,
 .seq (
 .reg [⟨some 4, none, .mv (.c (.d (.bool false)))⟩]) (
 .seq (
 .seq (
 .reg [⟨some 6, none, .mv (.t 1)⟩,
 ⟨some 7, none, .bin .lss (.t 6) (.c (.d (.int 1)))⟩,
 ⟨some 8, none, .mv (.t 7)⟩,
 ⟨some 9, some (8, false), .mv (.t 1)⟩,
 ⟨some 10, some (8, false), .mv (.t 0)⟩,
 ⟨some 11, some (8, false), .bin .sub (.t 10) (.c (.d (.int 1)))⟩,
 ⟨some 12, some (8, false), .bin .gtr (.t 9) (.t 11)⟩,
 ⟨some 13, none, .pick (.t 8) (.c (.d (.bool true))) (.t 12)⟩]) (
 .cond (.t 13) (
 .seq (
 .reg [⟨some 4, none, .mv (.c (.d (.bool false)))⟩]) (
 .ret)) (
 .skip))) (
 .seq (
 .reg [⟨some 14, none, .mv (.t 1)⟩,
 ⟨some 15, none, .mv (.t 1)⟩,
 ⟨some 16, none, .bin .mul (.t 14) (.t 15)⟩,
 ⟨some 17, none, .mv (.t 0)⟩,
 ⟨some 18, none, .bin .rem (.t 16) (.t 17)⟩,
 ⟨some 5, none, .mv (.t 18)⟩]) (
 .seq (
 .reg [⟨some 19, none, .mv (.t 5)⟩,
 ⟨some 20, none, .mv (.t 5)⟩,
 ⟨some 21, none, .bin .mul (.t 19) (.t 20)⟩,
 ⟨some 22, none, .mv (.t 0)⟩,
 ⟨some 23, none, .bin .rem (.t 21) (.t 22)⟩,
 ⟨some 24, none, .mv (.t 0)⟩,
 ⟨some 25, none, .bin .sub (.t 24) (.c (.d (.int 1)))⟩,
 ⟨some 26, none, .bin .eql (.t 23) (.t 25)⟩,
 ⟨some 4, none, .mv (.t 26)⟩]) (
 .ret)))),
 [.t 4]⟩

theorem k_impl_rootOk : cFun Try.prog Try.f126 = some C_impl_rootOk.erase := by kernel_rfl

def C_impl_cutOk : Fun := ⟨2, 42,
 .seq (
 .reg [⟨some 2, none, .box (.t 0)⟩,
 ⟨some 3, none, .box (.t 1)⟩,
 ⟨some 4, none, .mv (.c (.d (.bool false)))⟩]) (
 .seq (
 .seq (
 .reg [⟨some 5, none, .fld 0 (.t 2)⟩,
 ⟨some 6, none, .ld (.t 5)⟩,
 ⟨some 7, none, .fld 0 (.t 3)⟩,
 ⟨some 8, none, .ld (.t 7)⟩,
 ⟨some 9, none, .bin .neq (.t 6) (.t 8)⟩]) (
 .cond (.t 9) (
 .seq (
 .reg [⟨some 4, none, .mv (.c (.d (.bool false)))⟩]) (
 .ret)) (
 .skip))) (
 .seq (
 .seq (
 .reg [⟨some 10, none, .fld 0 (.t 2)⟩,
 ⟨some 11, none, .ld (.t 10)⟩]) (
 .block 0 (
 .seq (
 .seq (
 .reg [⟨some 13, none, .bin .eql (.t 11) (.c (.d (.int 3)))⟩,
 ⟨some 12, none, .mv (.t 13)⟩]) (
 .cond (.t 12) (
 .skip) (
 .seq (
 .reg [⟨some 14, none, .bin .eql (.t 11) (.c (.d (.int 4)))⟩,
 ⟨some 12, none, .mv (.t 14)⟩]) (
 .cond (.t 12) (
 .skip) (
 .reg [⟨some 15, none, .bin .eql (.t 11) (.c (.d (.int 5)))⟩,
 ⟨some 12, none, .mv (.t 15)⟩]))))) (
 .cond (.t 12) (
 .seq (
 .reg [⟨some 16, none, .fld 1 (.t 3)⟩,
 ⟨some 17, none, .ld (.t 16)⟩,
 ⟨some 18, none, .fld 1 (.t 2)⟩,
 ⟨some 19, none, .ld (.t 18)⟩,
 ⟨some 20, none, .bin .leq (.t 17) (.t 19)⟩,
 ⟨some 4, none, .mv (.t 20)⟩]) (
 .ret)) (
 .seq (
 .reg [⟨some 22, none, .bin .eql (.t 11) (.c (.d (.int 7)))⟩,
 ⟨some 21, none, .mv (.t 22)⟩]) (
 .cond (.t 21) (
 .seq (
 .reg [⟨some 23, none, .fld 1 (.t 3)⟩,
 ⟨some 24, none, .ld (.t 23)⟩,
 ⟨some 25, none, .fld 1 (.t 2)⟩,
 ⟨some 26, none, .ld (.t 25)⟩,
 ⟨some 27, none, .bin .eql (.t 24) (.t 26)⟩,
 ⟨some 28, none, .mv (.t 27)⟩,
 ⟨some 29, some (28, true), .fld 2 (.t 3)⟩,
 ⟨some 30, some (28, true), .ld (.t 29)⟩,
 ⟨some 31, some (28, true), .fld 2 (.t 2)⟩,
 ⟨some 32, some (28, true), .ld (.t 31)⟩,
 ⟨some 33, some (28, true), .bin .leq (.t 30) (.t 32)⟩,
 ⟨some 34, none, .pick (.t 28) (.t 33) (.c (.d (.bool false)))⟩,
 ⟨some 4, none, .mv (.t 34)⟩]) (
 .ret)) (
 .seq (
 .reg [⟨some 36, none, .bin .eql (.t 11) (.c (.d (.int 6)))⟩,
 ⟨some 35, none, .mv (.t 36)⟩]) (
 .cond (.t 35) (
 .seq (
 .reg [⟨some 37, none, .fld 2 (.t 3)⟩,
 ⟨some 38, none, .ld (.t 37)⟩,
 ⟨some 39, none, .fld 2 (.t 2)⟩,
 ⟨some 40, none, .ld (.t 39)⟩,
 ⟨some 41, none, .bin .leq (.t 38) (.t 40)⟩,
 ⟨some 4, none, .mv (.t 41)⟩]) (
 .ret)) (
 .skip))))))))) (
 .seq (
 .reg [⟨some 4, none, .mv (.c (.d (.bool false)))⟩]) (
 .ret)))),
 [.t 4]⟩

theorem k_impl_cutOk : cFun Try.prog Try.f127 = some C_impl_cutOk.erase := by kernel_rfl

def C_impl_bitElem : Fun := ⟨1, 6,
 .seq (
 .reg [⟨some 2, none, .mv (.c (.nil))⟩]) (
 .seq (
 .seq (
 .reg [⟨some 3, none, .mv (.t 0)⟩]) (
 .cond (.t 3) (
 .seq (
 .reg [⟨some 4, none, .mksl 1 1 [.d (.int 0)] [(0, 1, (.c (.d (.int 1))))]⟩,
 ⟨some 2, none, .mv (.t 4)⟩]) (
 .ret)) (
 .skip))) (
 .seq (
 .reg [⟨some 5, none, .mksl 1 1 [.d (.int 0)] [(0, 1, (.c (.d (.int 0))))]⟩,
 ⟨some 2, none, .mv (.t 5)⟩]) (
 .ret))),
 [.t 2]⟩

theorem k_impl_bitElem : cFun Try.prog Try.f128 = some C_impl_bitElem.erase := by kernel_rfl

def C_impl_rawOne : Fun := ⟨1, 28,
 .seq (
 .reg [⟨some 1, none, .box (.t 0)⟩,
 ⟨some 2, none, .mv (.c (.nil))⟩]) (
 .seq (
 .reg [⟨some 4, none, .ldn 3 (.t 1)⟩,
 ⟨some 5, none, .call 121 [(.t 4)]⟩,
 ⟨some 6, none, .make 1 8 [.d (.int 0)] (.t 5) (.t 5)⟩,
 ⟨some 3, none, .mv (.t 6)⟩]) (
 .seq (
 .seq (
 .reg [⟨some 7, none, .fld 0 (.t 1)⟩,
 ⟨some 8, none, .ld (.t 7)⟩]) (
 .block 0 (
 .seq (
 .reg [⟨some 12, none, .bin .eql (.t 8) (.c (.d (.int 4)))⟩,
 ⟨some 11, none, .mv (.t 12)⟩]) (
 .cond (.t 11) (
 .reg [⟨some 13, none, .mv (.t 3)⟩,
 ⟨some 14, none, .idx 1 (.t 13) (.c (.d (.int 0)))⟩,
 ⟨none, none, .st 1 (.t 14) (.c (.d (.int 0)))⟩]) (
 .seq (
 .reg [⟨some 16, none, .bin .eql (.t 8) (.c (.d (.int 5)))⟩,
 ⟨some 15, none, .mv (.t 16)⟩]) (
 .cond (.t 15) (
 .reg [⟨some 17, none, .mv (.t 3)⟩,
 ⟨some 18, none, .fld 1 (.t 1)⟩,
 ⟨some 19, none, .ld (.t 18)⟩,
 ⟨some 20, none, .idx 1 (.t 17) (.c (.d (.int 0)))⟩,
 ⟨none, none, .st 1 (.t 20) (.t 19)⟩]) (
 .seq (
 .reg [⟨some 22, none, .bin .eql (.t 8) (.c (.d (.int 6)))⟩,
 ⟨some 21, none, .mv (.t 22)⟩]) (
 .cond (.t 21) (
 .reg [⟨some 23, none, .mv (.t 3)⟩,
 ⟨some 24, none, .ldn 3 (.t 1)⟩,
 ⟨some 25, none, .call 129 [(.t 24)]⟩,
 ⟨some 26, none, .idx 1 (.t 23) (.c (.d (.int 0)))⟩,
 ⟨none, none, .st 1 (.t 26) (.t 25)⟩]) (
 .reg [⟨some 9, none, .mv (.t 3)⟩,
 ⟨some 10, none, .idx 1 (.t 9) (.c (.d (.int 0)))⟩,
 ⟨none, none, .st 1 (.t 10) (.c (.d (.int 1)))⟩]))))))))) (
 .seq (
 .reg [⟨some 27, none, .mv (.t 3)⟩,
 ⟨some 2, none, .mv (.t 27)⟩]) (
 .ret)))),
 [.t 2]⟩

theorem k_impl_rawOne : cFun Try.prog Try.f130 = some C_impl_rawOne.erase := by kernel_rfl

def C_impl_rawZero : Fun := ⟨1, 15,
 .seq (
 .reg [⟨some 1, none, .box (.t 0)⟩,
 ⟨some 2, none, .mv (.c (.nil))⟩]) (
 .seq (
 .reg [⟨some 4, none, .ldn 3 (.t 1)⟩,
 ⟨some 5, none, .call 121 [(.t 4)]⟩,
 ⟨some 6, none, .make 1 8 [.d (.int 0)] (.t 5) (.t 5)⟩,
 ⟨some 3, none, .mv (.t 6)⟩]) (
 .seq (
 .seq (
 .reg [⟨some 7, none, .fld 0 (.t 1)⟩,
 ⟨some 8, none, .ld (.t 7)⟩,
 ⟨some 9, none, .bin .eql (.t 8) (.c (.d (.int 4)))⟩]) (
 .cond (.t 9) (
 .reg [⟨some 10, none, .mv (.t 3)⟩,
 ⟨some 11, none, .fld 1 (.t 1)⟩,
 ⟨some 12, none, .ld (.t 11)⟩,
 ⟨some 13, none, .idx 1 (.t 10) (.c (.d (.int 0)))⟩,
 ⟨none, none, .st 1 (.t 13) (.t 12)⟩]) (
 .skip))) (
 .seq (
 .reg [⟨some 14, none, .mv (.t 3)⟩,
 ⟨some 2, none, .mv (.t 14)⟩]) (
 .ret)))),
 [.t 2]⟩

theorem k_impl_rawZero : cFun Try.prog Try.f131 = some C_impl_rawZero.erase := by kernel_rfl

def C_spec_l03Bit : Fun := ⟨1, 6,
 .seq (
 .reg [⟨some 2, none, .mv (.c (.nil))⟩]) (
 .seq (
 .seq (
 .reg [⟨some 3, none, .mv (.t 0)⟩]) (
 .cond (.t 3) (
 .seq (
 .reg [⟨some 4, none, .mksl 1 1 [.d (.int 0)] [(0, 1, (.c (.d (.int 1))))]⟩,
 ⟨some 2, none, .mv (.t 4)⟩]) (
 .ret)) (
 .skip))) (
 .seq (
 .reg [⟨some 5, none, .mksl 1 1 [.d (.int 0)] [(0, 1, (.c (.d (.int 0))))]⟩,
 ⟨some 2, none, .mv (.t 5)⟩]) (
 .ret))),
 [.t 2]⟩

theorem k_spec_l03Bit : cFun Try.prog Try.f146 = some C_spec_l03Bit.erase := by kernel_rfl

def C_spec_l02One : Fun := ⟨1, 23,
 .seq (
 .reg [⟨some 1, none, .box (.t 0)⟩,
 ⟨some 2, none, .mv (.c (.nil))⟩]) (
 .seq (
 .reg [⟨some 4, none, .ldn 3 (.t 1)⟩,
 ⟨some 5, none, .call 120 [(.t 4)]⟩,
 ⟨some 6, none, .make 1 8 [.d (.int 0)] (.t 5) (.t 5)⟩,
 ⟨some 3, none, .mv (.t 6)⟩]) (
 .seq (
 .seq (
 .reg [⟨some 7, none, .fld 0 (.t 1)⟩,
 ⟨some 8, none, .ld (.t 7)⟩]) (
 .block 0 (
 .seq (
 .seq (
 .reg [⟨some 12, none, .bin .eql (.t 8) (.c (.d (.int 5)))⟩,
 ⟨some 11, none, .mv (.t 12)⟩]) (
 .cond (.t 11) (
 .skip) (
 .reg [⟨some 13, none, .bin .eql (.t 8) (.c (.d (.int 6)))⟩,
 ⟨some 11, none, .mv (.t 13)⟩]))) (
 .cond (.t 11) (
 .reg [⟨some 14, none, .mv (.t 3)⟩,
 ⟨some 15, none, .ldn 3 (.t 1)⟩,
 ⟨some 16, none, .call 119 [(.t 15)]⟩,
 ⟨some 17, none, .idx 1 (.t 14) (.c (.d (.int 0)))⟩,
 ⟨none, none, .st 1 (.t 17) (.t 16)⟩]) (
 .seq (
 .reg [⟨some 19, none, .bin .eql (.t 8) (.c (.d (.int 4)))⟩,
 ⟨some 18, none, .mv (.t 19)⟩]) (
 .cond (.t 18) (
 .reg [⟨some 20, none, .mv (.t 3)⟩,
 ⟨some 21, none, .idx 1 (.t 20) (.c (.d (.int 0)))⟩,
 ⟨none, none, .st 1 (.t 21) (.c (.d (.int 0)))⟩]) (
 .reg [⟨some 9, none, .mv (.t 3)⟩,
 ⟨some 10, none, .idx 1 (.t 9) (.c (.d (.int 0)))⟩,
 ⟨none, none, .st 1 (.t 10) (.c (.d (.int 1)))⟩]))))))) (
 .seq (
 .reg [⟨some 22, none, .mv (.t 3)⟩,
 ⟨some 2, none, .mv (.t 22)⟩]) (
 .ret)))),
 [.t 2]⟩

theorem k_spec_l02One : cFun Try.prog Try.f147 = some C_spec_l02One.erase := by kernel_rfl

def C_spec_l02Zero : Fun := ⟨1, 15,
 .seq (
 .reg [⟨some 1, none, .box (.t 0)⟩,
 ⟨some 2, none, .mv (.c (.nil))⟩]) (
 .seq (
 .reg [⟨some 4, none, .ldn 3 (.t 1)⟩,
 ⟨some 5, none, .call 120 [(.t 4)]⟩,
 ⟨some 6, none, .make 1 8 [.d (.int 0)] (.t 5) (.t 5)⟩,
 ⟨some 3, none, .mv (.t 6)⟩]) (
 .seq (
 .seq (
 .reg [⟨some 7, none, .fld 0 (.t 1)⟩,
 ⟨some 8, none, .ld (.t 7)⟩,
 ⟨some 9, none, .bin .eql (.t 8) (.c (.d (.int 4)))⟩]) (
 .cond (.t 9) (
 .reg [⟨some 10, none, .mv (.t 3)⟩,
 ⟨some 11, none, .fld 1 (.t 1)⟩,
 ⟨some 12, none, .ld (.t 11)⟩,
 ⟨some 13, none, .idx 1 (.t 10) (.c (.d (.int 0)))⟩,
 ⟨none, none, .st 1 (.t 13) (.t 12)⟩]) (
 .skip))) (
 .seq (
 .reg [⟨some 14, none, .mv (.t 3)⟩,
 ⟨some 2, none, .mv (.t 14)⟩]) (
 .ret)))),
 [.t 2]⟩

theorem k_spec_l02Zero : cFun Try.prog Try.f148 = some C_spec_l02Zero.erase := by kernel_rfl
end Go.Proofs.Ytjoopfojiiklnaa

/-
  The compiled code of functions of the seat (written by mkcode.py). No condition.
-/
namespace Go.Proofs.Ytjoopfojiiklnaa
open Go.Lift

end Go.Proofs.Ytjoopfojiiklnaa

/-
  The compiled code of functions of the seat (written by mkcode.py). No condition.
-/
namespace Go.Proofs.Ytjoopfojiiklnaa
open Go.Lift

def L0_spec_l07Join : C :=
 .seq (
 .seq (
 .reg [⟨some 13, none, .mv (.t 10)⟩,
 ⟨some 14, none, .fld 1 (.t 5)⟩,
 ⟨some 15, none, .ld (.t 14)⟩,
 ⟨some 16, none, .call 101 [(.t 15), (.c (.d (.int 4096)))]⟩,
 ⟨some 17, none, .bin .lss (.t 13) (.t 16)⟩]) (
 .cond (.t 17) (
 .skip) (
 .exit 0))) (
 .seq (
 .block 1 (
 .seq (
 .reg [⟨some 20, none, .mv (.t 3)⟩]) (
 .cond (.t 20) (
 .draw [⟨some 21, none, .ldn 3 (.t 4)⟩,
 ⟨some 22, none, .ldn 3 (.t 9)⟩,
 ⟨some 23, none, .mv (.t 10)⟩,
 ⟨some 24, none, .ldn 3 (.t 4)⟩,
 ⟨some 25, none, .ldn 3 (.t 4)⟩,
 ⟨some 26, none, .ldn 3 (.t 5)⟩,
 ⟨some 27, none, .mv (.t 10)⟩,
 ⟨some 28, none, .call 102 [(.t 25), (.t 26), (.t 27)]⟩,
 ⟨some 29, none, .ldn 3 (.t 4)⟩,
 ⟨some 30, none, .ldn 3 (.t 6)⟩,
 ⟨some 31, none, .mv (.t 10)⟩,
 ⟨some 32, none, .call 102 [(.t 29), (.t 30), (.t 31)]⟩,
 ⟨some 33, none, .call 143 [(.t 24), (.t 28), (.t 32)]⟩]
 [⟨some 34, none, .call 142 [(.t 21), (.t 22), (.t 23), (.t 33)]⟩]) (
 .draw [⟨some 35, none, .ldn 3 (.t 4)⟩,
 ⟨some 36, none, .ldn 3 (.t 9)⟩,
 ⟨some 37, none, .mv (.t 10)⟩,
 ⟨some 38, none, .ldn 3 (.t 4)⟩,
 ⟨some 39, none, .ldn 3 (.t 4)⟩,
 ⟨some 40, none, .ldn 3 (.t 5)⟩,
 ⟨some 41, none, .mv (.t 10)⟩,
 ⟨some 42, none, .call 102 [(.t 39), (.t 40), (.t 41)]⟩,
 ⟨some 43, none, .ldn 3 (.t 4)⟩,
 ⟨some 44, none, .ldn 3 (.t 6)⟩,
 ⟨some 45, none, .mv (.t 10)⟩,
 ⟨some 46, none, .call 102 [(.t 43), (.t 44), (.t 45)]⟩,
 ⟨some 47, none, .call 144 [(.t 38), (.t 42), (.t 46)]⟩]
 [⟨some 48, none, .call 142 [(.t 35), (.t 36), (.t 37), (.t 47)]⟩])))) (
 .reg [⟨some 18, none, .mv (.t 10)⟩,
 ⟨some 19, none, .bin .add (.t 18) (.c (.d (.int 1)))⟩,
 ⟨some 10, none, .mv (.t 19)⟩]))

def C_spec_l07Join : Fun := ⟨4, 50,
 .seq (
 .reg [⟨some 4, none, .box (.t 0)⟩,
 ⟨some 5, none, .box (.t 1)⟩,
 ⟨some 6, none, .box (.t 2)⟩,
 ⟨some 8, none, .zer [.nil, .nil, .nil]⟩]) (
 .seq (
 .reg [⟨some 11, none, .ldn 3 (.t 5)⟩,
 ⟨some 12, none, .call 117 [(.t 11)]⟩,
 ⟨some 9, none, .zer [.nil, .nil, .nil]⟩,
 ⟨none, none, .st 3 (.t 9) (.t 12)⟩]) (
 .seq (
 .seq (
 .reg [⟨some 10, none, .mv (.c (.d (.int 0)))⟩]) (
 .block 0 (
 .loop L0_spec_l07Join))) (
 .seq (
 .reg [⟨some 49, none, .ldn 3 (.t 9)⟩,
 ⟨none, none, .st 3 (.t 8) (.t 49)⟩]) (
 .ret)))),
 [.cell 8 3]⟩

theorem k_spec_l07Join : cFun Try.prog Try.f111 = some C_spec_l07Join.erase := by kernel_rfl

def L0_impl_addInto : C :=
 .seq (
 .reg [⟨some 12, none, .bin .lss (.t 11) (.t 10)⟩]) (
 .seq (
 .cond (.t 12) (
 .skip) (
 .exit 1)) (
 .seq (
 .block 2 (
 .seq (
 .reg [⟨some 13, none, .mv (.t 11)⟩,
 ⟨some 6, none, .mv (.t 13)⟩]) (
 .draw [⟨some 14, none, .mv (.t 1)⟩,
 ⟨some 15, none, .mv (.t 6)⟩,
 ⟨some 16, none, .mv (.t 1)⟩,
 ⟨some 17, none, .mv (.t 6)⟩,
 ⟨some 18, none, .idx 1 (.t 16) (.t 17)⟩,
 ⟨some 19, none, .ld (.t 18)⟩,
 ⟨some 20, none, .mv (.t 2)⟩,
 ⟨some 21, none, .mv (.t 6)⟩,
 ⟨some 22, none, .idx 1 (.t 20) (.t 21)⟩,
 ⟨some 23, none, .ld (.t 22)⟩,
 ⟨some 24, none, .bin .add (.t 19) (.t 23)⟩,
 ⟨some 25, none, .fld 1 (.t 3)⟩,
 ⟨some 26, none, .ld (.t 25)⟩,
 ⟨some 27, none, .bin .rem (.t 24) (.t 26)⟩]
 [⟨some 28, none, .idx 1 (.t 14) (.t 15)⟩,
 ⟨none, none, .st 1 (.t 28) (.t 27)⟩]))) (
 .reg [⟨some 29, none, .bin .add (.t 11) (.c (.d (.int 1)))⟩,
 ⟨some 11, none, .mv (.t 29)⟩])))

def C_impl_addInto : Fun := ⟨3, 77,
 .seq (
 .reg [⟨some 3, none, .box (.t 0)⟩]) (
 .seq (
 .reg [⟨some 7, none, .fld 0 (.t 3)⟩,
 ⟨some 8, none, .ld (.t 7)⟩]) (
 .block 0 (
 .seq (
 .seq (
 .reg [⟨some 31, none, .bin .eql (.t 8) (.c (.d (.int 1)))⟩,
 ⟨some 30, none, .mv (.t 31)⟩]) (
 .cond (.t 30) (
 .skip) (
 .reg [⟨some 32, none, .bin .eql (.t 8) (.c (.d (.int 5)))⟩,
 ⟨some 30, none, .mv (.t 32)⟩]))) (
 .cond (.t 30) (
 .draw [⟨some 33, none, .mv (.t 1)⟩,
 ⟨some 34, none, .mv (.t 1)⟩,
 ⟨some 35, none, .idx 1 (.t 34) (.c (.d (.int 0)))⟩,
 ⟨some 36, none, .ld (.t 35)⟩,
 ⟨some 37, none, .mv (.t 2)⟩,
 ⟨some 38, none, .idx 1 (.t 37) (.c (.d (.int 0)))⟩,
 ⟨some 39, none, .ld (.t 38)⟩,
 ⟨some 40, none, .mnx true (.t 36) (.t 39)⟩]
 [⟨some 41, none, .idx 1 (.t 33) (.c (.d (.int 0)))⟩,
 ⟨none, none, .st 1 (.t 41) (.t 40)⟩]) (
 .seq (
 .reg [⟨some 43, none, .bin .eql (.t 8) (.c (.d (.int 3)))⟩,
 ⟨some 42, none, .mv (.t 43)⟩]) (
 .cond (.t 42) (
 .draw [⟨some 44, none, .mv (.t 1)⟩,
 ⟨some 45, none, .mv (.t 1)⟩,
 ⟨some 46, none, .idx 1 (.t 45) (.c (.d (.int 0)))⟩,
 ⟨some 47, none, .ld (.t 46)⟩,
 ⟨some 48, none, .mv (.t 2)⟩,
 ⟨some 49, none, .idx 1 (.t 48) (.c (.d (.int 0)))⟩,
 ⟨some 50, none, .ld (.t 49)⟩,
 ⟨some 51, none, .bin .add (.t 47) (.t 50)⟩,
 ⟨some 52, none, .fld 1 (.t 3)⟩,
 ⟨some 53, none, .ld (.t 52)⟩,
 ⟨some 54, none, .mnx false (.t 51) (.t 53)⟩]
 [⟨some 55, none, .idx 1 (.t 44) (.c (.d (.int 0)))⟩,
 ⟨none, none, .st 1 (.t 55) (.t 54)⟩]) (
 .seq (
 .reg [⟨some 57, none, .bin .eql (.t 8) (.c (.d (.int 4)))⟩,
 ⟨some 56, none, .mv (.t 57)⟩]) (
 .cond (.t 56) (
 .draw [⟨some 58, none, .mv (.t 1)⟩,
 ⟨some 59, none, .mv (.t 1)⟩,
 ⟨some 60, none, .idx 1 (.t 59) (.c (.d (.int 0)))⟩,
 ⟨some 61, none, .ld (.t 60)⟩,
 ⟨some 62, none, .mv (.t 2)⟩,
 ⟨some 63, none, .idx 1 (.t 62) (.c (.d (.int 0)))⟩,
 ⟨some 64, none, .ld (.t 63)⟩,
 ⟨some 65, none, .mnx false (.t 61) (.t 64)⟩]
 [⟨some 66, none, .idx 1 (.t 58) (.c (.d (.int 0)))⟩,
 ⟨none, none, .st 1 (.t 66) (.t 65)⟩]) (
 .seq (
 .reg [⟨some 68, none, .bin .eql (.t 8) (.c (.d (.int 6)))⟩,
 ⟨some 67, none, .mv (.t 68)⟩]) (
 .cond (.t 67) (
 .draw [⟨some 69, none, .mv (.t 1)⟩,
 ⟨some 70, none, .idx 1 (.t 69) (.c (.d (.int 0)))⟩,
 ⟨some 71, none, .ld (.t 70)⟩,
 ⟨some 72, none, .mv (.t 2)⟩,
 ⟨some 73, none, .idx 1 (.t 72) (.c (.d (.int 0)))⟩,
 ⟨some 74, none, .ld (.t 73)⟩]
 [⟨some 75, none, .bin .or (.t 71) (.t 74)⟩,
 ⟨some 76, none, .idx 1 (.t 69) (.c (.d (.int 0)))⟩,
 ⟨none, none, .st 1 (.t 76) (.t 75)⟩]) (
 .seq (
 .reg [⟨some 9, none, .mv (.t 1)⟩,
 ⟨some 10, none, .len (.t 9)⟩,
 ⟨some 11, none, .mv (.c (.d (.int 0)))⟩]) (
 .block 1 (
 .loop L0_impl_addInto))))))))))))),
 []⟩

theorem k_impl_addInto : cFun Try.prog Try.f112 = some C_impl_addInto.erase := by kernel_rfl

def L0_spec_l02Add : C :=
 .seq (
 .reg [⟨some 15, none, .bin .lss (.t 14) (.t 13)⟩]) (
 .seq (
 .cond (.t 15) (
 .skip) (
 .exit 0)) (
 .seq (
 .block 1 (
 .seq (
 .reg [⟨some 16, none, .mv (.t 14)⟩,
 ⟨some 8, none, .mv (.t 16)⟩]) (
 .seq (
 .reg [⟨some 17, none, .fld 0 (.t 3)⟩,
 ⟨some 18, none, .ld (.t 17)⟩]) (
 .block 2 (
 .seq (
 .seq (
 .reg [⟨some 35, none, .bin .eql (.t 18) (.c (.d (.int 1)))⟩,
 ⟨some 34, none, .mv (.t 35)⟩]) (
 .cond (.t 34) (
 .skip) (
 .reg [⟨some 36, none, .bin .eql (.t 18) (.c (.d (.int 6)))⟩,
 ⟨some 34, none, .mv (.t 36)⟩]))) (
 .cond (.t 34) (
 .draw [⟨some 37, none, .mv (.t 7)⟩,
 ⟨some 38, none, .mv (.t 8)⟩,
 ⟨some 39, none, .mv (.t 1)⟩,
 ⟨some 40, none, .mv (.t 8)⟩,
 ⟨some 41, none, .idx 1 (.t 39) (.t 40)⟩,
 ⟨some 42, none, .ld (.t 41)⟩,
 ⟨some 43, none, .mv (.t 2)⟩,
 ⟨some 44, none, .mv (.t 8)⟩,
 ⟨some 45, none, .idx 1 (.t 43) (.t 44)⟩,
 ⟨some 46, none, .ld (.t 45)⟩,
 ⟨some 47, none, .bin .or (.t 42) (.t 46)⟩]
 [⟨some 48, none, .idx 1 (.t 37) (.t 38)⟩,
 ⟨none, none, .st 1 (.t 48) (.t 47)⟩]) (
 .seq (
 .reg [⟨some 50, none, .bin .eql (.t 18) (.c (.d (.int 3)))⟩,
 ⟨some 49, none, .mv (.t 50)⟩]) (
 .cond (.t 49) (
 .draw [⟨some 51, none, .mv (.t 7)⟩,
 ⟨some 52, none, .mv (.t 8)⟩,
 ⟨some 53, none, .mv (.t 1)⟩,
 ⟨some 54, none, .mv (.t 8)⟩,
 ⟨some 55, none, .idx 1 (.t 53) (.t 54)⟩,
 ⟨some 56, none, .ld (.t 55)⟩,
 ⟨some 57, none, .mv (.t 2)⟩,
 ⟨some 58, none, .mv (.t 8)⟩,
 ⟨some 59, none, .idx 1 (.t 57) (.t 58)⟩,
 ⟨some 60, none, .ld (.t 59)⟩,
 ⟨some 61, none, .bin .add (.t 56) (.t 60)⟩,
 ⟨some 62, none, .fld 1 (.t 3)⟩,
 ⟨some 63, none, .ld (.t 62)⟩,
 ⟨some 64, none, .mnx false (.t 61) (.t 63)⟩]
 [⟨some 65, none, .idx 1 (.t 51) (.t 52)⟩,
 ⟨none, none, .st 1 (.t 65) (.t 64)⟩]) (
 .seq (
 .reg [⟨some 67, none, .bin .eql (.t 18) (.c (.d (.int 4)))⟩,
 ⟨some 66, none, .mv (.t 67)⟩]) (
 .cond (.t 66) (
 .draw [⟨some 68, none, .mv (.t 7)⟩,
 ⟨some 69, none, .mv (.t 8)⟩,
 ⟨some 70, none, .mv (.t 1)⟩,
 ⟨some 71, none, .mv (.t 8)⟩,
 ⟨some 72, none, .idx 1 (.t 70) (.t 71)⟩,
 ⟨some 73, none, .ld (.t 72)⟩,
 ⟨some 74, none, .mv (.t 2)⟩,
 ⟨some 75, none, .mv (.t 8)⟩,
 ⟨some 76, none, .idx 1 (.t 74) (.t 75)⟩,
 ⟨some 77, none, .ld (.t 76)⟩,
 ⟨some 78, none, .mnx false (.t 73) (.t 77)⟩]
 [⟨some 79, none, .idx 1 (.t 68) (.t 69)⟩,
 ⟨none, none, .st 1 (.t 79) (.t 78)⟩]) (
 .seq (
 .reg [⟨some 81, none, .bin .eql (.t 18) (.c (.d (.int 5)))⟩,
 ⟨some 80, none, .mv (.t 81)⟩]) (
 .cond (.t 80) (
 .draw [⟨some 82, none, .mv (.t 7)⟩,
 ⟨some 83, none, .mv (.t 8)⟩,
 ⟨some 84, none, .mv (.t 1)⟩,
 ⟨some 85, none, .mv (.t 8)⟩,
 ⟨some 86, none, .idx 1 (.t 84) (.t 85)⟩,
 ⟨some 87, none, .ld (.t 86)⟩,
 ⟨some 88, none, .mv (.t 2)⟩,
 ⟨some 89, none, .mv (.t 8)⟩,
 ⟨some 90, none, .idx 1 (.t 88) (.t 89)⟩,
 ⟨some 91, none, .ld (.t 90)⟩,
 ⟨some 92, none, .mnx true (.t 87) (.t 91)⟩]
 [⟨some 93, none, .idx 1 (.t 82) (.t 83)⟩,
 ⟨none, none, .st 1 (.t 93) (.t 92)⟩]) (
 .draw [⟨some 19, none, .mv (.t 7)⟩,
 ⟨some 20, none, .mv (.t 8)⟩,
 ⟨some 21, none, .mv (.t 1)⟩,
 ⟨some 22, none, .mv (.t 8)⟩,
 ⟨some 23, none, .idx 1 (.t 21) (.t 22)⟩,
 ⟨some 24, none, .ld (.t 23)⟩,
 ⟨some 25, none, .mv (.t 2)⟩,
 ⟨some 26, none, .mv (.t 8)⟩,
 ⟨some 27, none, .idx 1 (.t 25) (.t 26)⟩,
 ⟨some 28, none, .ld (.t 27)⟩,
 ⟨some 29, none, .bin .add (.t 24) (.t 28)⟩,
 ⟨some 30, none, .fld 1 (.t 3)⟩,
 ⟨some 31, none, .ld (.t 30)⟩,
 ⟨some 32, none, .bin .rem (.t 29) (.t 31)⟩]
 [⟨some 33, none, .idx 1 (.t 19) (.t 20)⟩,
 ⟨none, none, .st 1 (.t 33) (.t 32)⟩]))))))))))))) (
 .reg [⟨some 94, none, .bin .add (.t 14) (.c (.d (.int 1)))⟩,
 ⟨some 14, none, .mv (.t 94)⟩])))

def C_spec_l02Add : Fun := ⟨3, 96,
 .seq (
 .reg [⟨some 3, none, .box (.t 0)⟩,
 ⟨some 6, none, .mv (.c (.nil))⟩]) (
 .seq (
 .reg [⟨some 9, none, .mv (.t 1)⟩,
 ⟨some 10, none, .len (.t 9)⟩,
 ⟨some 11, none, .make 1 8 [.d (.int 0)] (.t 10) (.t 10)⟩,
 ⟨some 7, none, .mv (.t 11)⟩]) (
 .seq (
 .seq (
 .reg [⟨some 12, none, .mv (.t 1)⟩,
 ⟨some 13, none, .len (.t 12)⟩,
 ⟨some 14, none, .mv (.c (.d (.int 0)))⟩]) (
 .block 0 (
 .loop L0_spec_l02Add))) (
 .seq (
 .reg [⟨some 95, none, .mv (.t 7)⟩,
 ⟨some 6, none, .mv (.t 95)⟩]) (
 .ret)))),
 [.t 6]⟩

theorem k_spec_l02Add : cFun Try.prog Try.f144 = some C_spec_l02Add.erase := by kernel_rfl

end Go.Proofs.Ytjoopfojiiklnaa

/-
  The compiled code of functions of the seat (written by mkcode.py). No condition.
-/
namespace Go.Proofs.Ytjoopfojiiklnaa
open Go.Lift

def L0_laws_toIntS : C :=
      .seq (
      .seq (
      .reg [⟨some 8, none, .mv (.t 4)⟩,
            ⟨some 9, none, .mv (.t 0)⟩,
            ⟨some 10, none, .len (.t 9)⟩,
            ⟨some 11, none, .bin .lss (.t 8) (.t 10)⟩]) (
      .cond (.t 11) (
        .skip) (
        .exit 0))) (
      .seq (
      .block 1 (
        .reg [⟨some 14, none, .mv (.t 3)⟩,
              ⟨some 15, none, .mv (.t 4)⟩,
              ⟨some 16, none, .mv (.t 0)⟩,
              ⟨some 17, none, .mv (.t 4)⟩,
              ⟨some 18, none, .idx 1 (.t 16) (.t 17)⟩,
              ⟨some 19, none, .ld (.t 18)⟩,
              ⟨some 20, none, .idx 1 (.t 14) (.t 15)⟩,
              ⟨none, none, .st 1 (.t 20) (.t 19)⟩])) (
      .reg [⟨some 12, none, .mv (.t 4)⟩,
            ⟨some 13, none, .bin .add (.t 12) (.c (.d (.int 1)))⟩,
            ⟨some 4, none, .mv (.t 13)⟩]))

def C_laws_toIntS : Fun := ⟨1, 22,
  .seq (
  .reg [⟨some 2, none, .mv (.c (.nil))⟩]) (
  .seq (
  .reg [⟨some 5, none, .mv (.t 0)⟩,
        ⟨some 6, none, .len (.t 5)⟩,
        ⟨some 7, none, .make 1 8 [.d (.int 0)] (.t 6) (.t 6)⟩,
        ⟨some 3, none, .mv (.t 7)⟩]) (
  .seq (
  .seq (
  .reg [⟨some 4, none, .mv (.c (.d (.int 0)))⟩]) (
  .block 0 (
    .loop L0_laws_toIntS))) (
  .seq (
  .reg [⟨some 21, none, .mv (.t 3)⟩,
        ⟨some 2, none, .mv (.t 21)⟩]) (
  .ret)))),
  [.t 2]⟩

theorem k_laws_toIntS : cFun Try.prog Try.f32 = some C_laws_toIntS.erase := by kernel_rfl

def C_laws_toRing : Fun := ⟨1, 14,
  .seq (
  .reg [⟨some 1, none, .box (.t 0)⟩,
        ⟨some 2, none, .zer [.d (.int 0), .d (.int 0), .d (.int 0)]⟩]) (
  .seq (
  .reg [⟨some 3, none, .zer [.d (.int 0), .d (.int 0), .d (.int 0)]⟩]) (
  .seq (
  .reg [⟨some 4, none, .fld 0 (.t 1)⟩,
        ⟨some 5, none, .ld (.t 4)⟩,
        ⟨some 6, none, .fld 0 (.t 3)⟩,
        ⟨none, none, .st 1 (.t 6) (.t 5)⟩]) (
  .seq (
  .reg [⟨some 7, none, .fld 1 (.t 1)⟩,
        ⟨some 8, none, .ld (.t 7)⟩,
        ⟨some 9, none, .fld 1 (.t 3)⟩,
        ⟨none, none, .st 1 (.t 9) (.t 8)⟩]) (
  .seq (
  .reg [⟨some 10, none, .fld 2 (.t 1)⟩,
        ⟨some 11, none, .ld (.t 10)⟩,
        ⟨some 12, none, .fld 2 (.t 3)⟩,
        ⟨none, none, .st 1 (.t 12) (.t 11)⟩]) (
  .seq (
  .reg [⟨some 13, none, .ldn 3 (.t 3)⟩,
        ⟨none, none, .st 3 (.t 2) (.t 13)⟩]) (
  .ret)))))),
  [.cell 2 3]⟩

theorem k_laws_toRing : cFun Try.prog Try.f45 = some C_laws_toRing.erase := by kernel_rfl

def C_laws_toTensor : Fun := ⟨1, 17,
  .seq (
  .reg [⟨some 1, none, .box (.t 0)⟩,
        ⟨some 2, none, .zer [.nil, .nil, .nil]⟩]) (
  .seq (
  .reg [⟨some 3, none, .zer [.nil, .nil, .nil]⟩]) (
  .seq (
  .reg [⟨some 4, none, .fld 0 (.t 1)⟩,
        ⟨some 5, none, .ld (.t 4)⟩,
        ⟨some 6, none, .call 32 [(.t 5)]⟩,
        ⟨some 7, none, .fld 0 (.t 3)⟩,
        ⟨none, none, .st 1 (.t 7) (.t 6)⟩]) (
  .seq (
  .reg [⟨some 8, none, .fld 1 (.t 1)⟩,
        ⟨some 9, none, .ld (.t 8)⟩,
        ⟨some 10, none, .call 32 [(.t 9)]⟩,
        ⟨some 11, none, .fld 1 (.t 3)⟩,
        ⟨none, none, .st 1 (.t 11) (.t 10)⟩]) (
  .seq (
  .reg [⟨some 12, none, .fld 2 (.t 1)⟩,
        ⟨some 13, none, .ld (.t 12)⟩,
        ⟨some 14, none, .call 32 [(.t 13)]⟩,
        ⟨some 15, none, .fld 2 (.t 3)⟩,
        ⟨none, none, .st 1 (.t 15) (.t 14)⟩]) (
  .seq (
  .reg [⟨some 16, none, .ldn 3 (.t 3)⟩,
        ⟨none, none, .st 3 (.t 2) (.t 16)⟩]) (
  .ret)))))),
  [.cell 2 3]⟩

theorem k_laws_toTensor : cFun Try.prog Try.f47 = some C_laws_toTensor.erase := by kernel_rfl

def C_laws_szIntS : Fun := ⟨2, 12,
  .seq (
  .reg [⟨some 4, none, .mv (.c (.d (.int 0)))⟩]) (
  .seq (
  .reg [⟨some 5, none, .mv (.t 1)⟩,
        ⟨some 6, none, .mv (.t 0)⟩,
        ⟨some 7, none, .len (.t 6)⟩,
        ⟨some 8, none, .bin .sub (.t 5) (.t 7)⟩,
        ⟨some 1, none, .mv (.t 8)⟩]) (
  .seq (
  .seq (
  .reg [⟨some 9, none, .mv (.t 1)⟩,
        ⟨some 10, none, .bin .lss (.t 9) (.c (.d (.int 0)))⟩]) (
  .cond (.t 10) (
    .seq (
    .reg [⟨some 4, none, .mv (.c (.d (.int (-1))))⟩]) (
    .ret)) (
    .skip))) (
  .seq (
  .reg [⟨some 11, none, .mv (.t 1)⟩,
        ⟨some 4, none, .mv (.t 11)⟩]) (
  .ret)))),
  [.t 4]⟩

theorem k_laws_szIntS : cFun Try.prog Try.f67 = some C_laws_szIntS.erase := by kernel_rfl

def C_laws_szTensor : Fun := ⟨2, 24,
  .seq (
  .reg [⟨some 2, none, .box (.t 0)⟩,
        ⟨some 4, none, .mv (.c (.d (.int 0)))⟩]) (
  .seq (
  .reg [⟨some 5, none, .fld 0 (.t 2)⟩,
        ⟨some 6, none, .ld (.t 5)⟩,
        ⟨some 7, none, .mv (.t 1)⟩,
        ⟨some 8, none, .call 67 [(.t 6), (.t 7)]⟩,
        ⟨some 1, none, .mv (.t 8)⟩]) (
  .seq (
  .seq (
  .reg [⟨some 9, none, .mv (.t 1)⟩,
        ⟨some 10, none, .bin .lss (.t 9) (.c (.d (.int 0)))⟩]) (
  .cond (.t 10) (
    .seq (
    .reg [⟨some 4, none, .mv (.c (.d (.int (-1))))⟩]) (
    .ret)) (
    .skip))) (
  .seq (
  .reg [⟨some 11, none, .fld 1 (.t 2)⟩,
        ⟨some 12, none, .ld (.t 11)⟩,
        ⟨some 13, none, .mv (.t 1)⟩,
        ⟨some 14, none, .call 67 [(.t 12), (.t 13)]⟩,
        ⟨some 1, none, .mv (.t 14)⟩]) (
  .seq (
  .seq (
  .reg [⟨some 15, none, .mv (.t 1)⟩,
        ⟨some 16, none, .bin .lss (.t 15) (.c (.d (.int 0)))⟩]) (
  .cond (.t 16) (
    .seq (
    .reg [⟨some 4, none, .mv (.c (.d (.int (-1))))⟩]) (
    .ret)) (
    .skip))) (
  .seq (
  .reg [⟨some 17, none, .fld 2 (.t 2)⟩,
        ⟨some 18, none, .ld (.t 17)⟩,
        ⟨some 19, none, .mv (.t 1)⟩,
        ⟨some 20, none, .call 67 [(.t 18), (.t 19)]⟩,
        ⟨some 1, none, .mv (.t 20)⟩]) (
  .seq (
  .seq (
  .reg [⟨some 21, none, .mv (.t 1)⟩,
        ⟨some 22, none, .bin .lss (.t 21) (.c (.d (.int 0)))⟩]) (
  .cond (.t 22) (
    .seq (
    .reg [⟨some 4, none, .mv (.c (.d (.int (-1))))⟩]) (
    .ret)) (
    .skip))) (
  .seq (
  .reg [⟨some 23, none, .mv (.t 1)⟩,
        ⟨some 4, none, .mv (.t 23)⟩]) (
  .ret)))))))),
  [.t 4]⟩

theorem k_laws_szTensor : cFun Try.prog Try.f43 = some C_laws_szTensor.erase := by kernel_rfl

def L0_laws_eqIntS : C :=
      .seq (
      .seq (
      .reg [⟨some 11, none, .mv (.t 5)⟩,
            ⟨some 12, none, .mv (.t 0)⟩,
            ⟨some 13, none, .len (.t 12)⟩,
            ⟨some 14, none, .bin .lss (.t 11) (.t 13)⟩]) (
      .cond (.t 14) (
        .skip) (
        .exit 0))) (
      .seq (
      .block 1 (
        .seq (
        .draw [⟨some 17, none, .mv (.t 0)⟩,
               ⟨some 18, none, .mv (.t 5)⟩,
               ⟨some 19, none, .idx 1 (.t 17) (.t 18)⟩,
               ⟨some 20, none, .ld (.t 19)⟩,
               ⟨some 21, none, .mv (.t 1)⟩,
               ⟨some 22, none, .mv (.t 5)⟩,
               ⟨some 23, none, .idx 1 (.t 21) (.t 22)⟩,
               ⟨some 24, none, .ld (.t 23)⟩]
          [⟨some 25, none, .bin .neq (.t 20) (.t 24)⟩]) (
        .cond (.t 25) (
          .seq (
          .reg [⟨some 4, none, .mv (.c (.d (.bool false)))⟩]) (
          .ret)) (
          .skip)))) (
      .reg [⟨some 15, none, .mv (.t 5)⟩,
            ⟨some 16, none, .bin .add (.t 15) (.c (.d (.int 1)))⟩,
            ⟨some 5, none, .mv (.t 16)⟩]))

def C_laws_eqIntS : Fun := ⟨2, 26,
  .seq (
  .reg [⟨some 4, none, .mv (.c (.d (.bool false)))⟩]) (
  .seq (
  .seq (
  .reg [⟨some 6, none, .mv (.t 0)⟩,
        ⟨some 7, none, .len (.t 6)⟩,
        ⟨some 8, none, .mv (.t 1)⟩,
        ⟨some 9, none, .len (.t 8)⟩,
        ⟨some 10, none, .bin .neq (.t 7) (.t 9)⟩]) (
  .cond (.t 10) (
    .seq (
    .reg [⟨some 4, none, .mv (.c (.d (.bool false)))⟩]) (
    .ret)) (
    .skip))) (
  .seq (
  .seq (
  .reg [⟨some 5, none, .mv (.c (.d (.int 0)))⟩]) (
  .block 0 (
    .loop L0_laws_eqIntS))) (
  .seq (
  .reg [⟨some 4, none, .mv (.c (.d (.bool true)))⟩]) (
  .ret)))),
  [.t 4]⟩

theorem k_laws_eqIntS : cFun Try.prog Try.f22 = some C_laws_eqIntS.erase := by kernel_rfl

def C_laws_eqTensor : Fun := ⟨2, 23,
  .seq (
  .reg [⟨some 2, none, .box (.t 0)⟩,
        ⟨some 3, none, .box (.t 1)⟩,
        ⟨some 4, none, .mv (.c (.d (.bool false)))⟩]) (
  .seq (
  .seq (
  .reg [⟨some 5, none, .fld 0 (.t 2)⟩,
        ⟨some 6, none, .ld (.t 5)⟩,
        ⟨some 7, none, .fld 0 (.t 3)⟩,
        ⟨some 8, none, .ld (.t 7)⟩,
        ⟨some 9, none, .call 22 [(.t 6), (.t 8)]⟩,
        ⟨some 10, none, .not (.t 9)⟩]) (
  .cond (.t 10) (
    .seq (
    .reg [⟨some 4, none, .mv (.c (.d (.bool false)))⟩]) (
    .ret)) (
    .skip))) (
  .seq (
  .seq (
  .reg [⟨some 11, none, .fld 1 (.t 2)⟩,
        ⟨some 12, none, .ld (.t 11)⟩,
        ⟨some 13, none, .fld 1 (.t 3)⟩,
        ⟨some 14, none, .ld (.t 13)⟩,
        ⟨some 15, none, .call 22 [(.t 12), (.t 14)]⟩,
        ⟨some 16, none, .not (.t 15)⟩]) (
  .cond (.t 16) (
    .seq (
    .reg [⟨some 4, none, .mv (.c (.d (.bool false)))⟩]) (
    .ret)) (
    .skip))) (
  .seq (
  .seq (
  .reg [⟨some 17, none, .fld 2 (.t 2)⟩,
        ⟨some 18, none, .ld (.t 17)⟩,
        ⟨some 19, none, .fld 2 (.t 3)⟩,
        ⟨some 20, none, .ld (.t 19)⟩,
        ⟨some 21, none, .call 22 [(.t 18), (.t 20)]⟩,
        ⟨some 22, none, .not (.t 21)⟩]) (
  .cond (.t 22) (
    .seq (
    .reg [⟨some 4, none, .mv (.c (.d (.bool false)))⟩]) (
    .ret)) (
    .skip))) (
  .seq (
  .reg [⟨some 4, none, .mv (.c (.d (.bool true)))⟩]) (
  .ret))))),
  [.t 4]⟩

theorem k_laws_eqTensor : cFun Try.prog Try.f49 = some C_laws_eqTensor.erase := by kernel_rfl

def L0_laws_markIntS : C :=
      .seq (
      .seq (
      .reg [⟨some 6, none, .mv (.t 5)⟩,
            ⟨some 7, none, .mv (.t 0)⟩,
            ⟨some 8, none, .len (.t 7)⟩,
            ⟨some 9, none, .bin .lss (.t 6) (.t 8)⟩]) (
      .cond (.t 9) (
        .skip) (
        .exit 0))) (
      .seq (
      .block 1 (
        .seq (
        .reg [⟨some 12, none, .mv (.t 0)⟩,
              ⟨some 13, none, .mv (.t 5)⟩,
              ⟨some 14, none, .mv (.t 1)⟩,
              ⟨some 15, none, .idx 1 (.t 12) (.t 13)⟩,
              ⟨none, none, .st 1 (.t 15) (.t 14)⟩]) (
        .reg [⟨some 16, none, .mv (.t 1)⟩,
              ⟨some 17, none, .bin .add (.t 16) (.c (.d (.int 1)))⟩,
              ⟨some 1, none, .mv (.t 17)⟩]))) (
      .reg [⟨some 10, none, .mv (.t 5)⟩,
            ⟨some 11, none, .bin .add (.t 10) (.c (.d (.int 1)))⟩,
            ⟨some 5, none, .mv (.t 11)⟩]))

def C_laws_markIntS : Fun := ⟨2, 19,
  .seq (
  .reg [⟨some 4, none, .mv (.c (.d (.int 0)))⟩]) (
  .seq (
  .seq (
  .reg [⟨some 5, none, .mv (.c (.d (.int 0)))⟩]) (
  .block 0 (
    .loop L0_laws_markIntS))) (
  .seq (
  .reg [⟨some 18, none, .mv (.t 1)⟩,
        ⟨some 4, none, .mv (.t 18)⟩]) (
  .ret))),
  [.t 4]⟩

theorem k_laws_markIntS : cFun Try.prog Try.f24 = some C_laws_markIntS.erase := by kernel_rfl

def C_laws_markTensor : Fun := ⟨2, 18,
  .seq (
  .reg [⟨some 2, none, .box (.t 0)⟩,
        ⟨some 4, none, .mv (.c (.d (.int 0)))⟩]) (
  .seq (
  .reg [⟨some 5, none, .fld 0 (.t 2)⟩,
        ⟨some 6, none, .ld (.t 5)⟩,
        ⟨some 7, none, .mv (.t 1)⟩,
        ⟨some 8, none, .call 24 [(.t 6), (.t 7)]⟩,
        ⟨some 1, none, .mv (.t 8)⟩]) (
  .seq (
  .reg [⟨some 9, none, .fld 1 (.t 2)⟩,
        ⟨some 10, none, .ld (.t 9)⟩,
        ⟨some 11, none, .mv (.t 1)⟩,
        ⟨some 12, none, .call 24 [(.t 10), (.t 11)]⟩,
        ⟨some 1, none, .mv (.t 12)⟩]) (
  .seq (
  .reg [⟨some 13, none, .fld 2 (.t 2)⟩,
        ⟨some 14, none, .ld (.t 13)⟩,
        ⟨some 15, none, .mv (.t 1)⟩,
        ⟨some 16, none, .call 24 [(.t 14), (.t 15)]⟩,
        ⟨some 1, none, .mv (.t 16)⟩]) (
  .seq (
  .reg [⟨some 17, none, .mv (.t 1)⟩,
        ⟨some 4, none, .mv (.t 17)⟩]) (
  .ret))))),
  [.t 4]⟩

theorem k_laws_markTensor : cFun Try.prog Try.f50 = some C_laws_markTensor.erase := by kernel_rfl

def L0_laws_heldIntS : C :=
      .seq (
      .seq (
      .reg [⟨some 6, none, .mv (.t 5)⟩,
            ⟨some 7, none, .mv (.t 0)⟩,
            ⟨some 8, none, .len (.t 7)⟩,
            ⟨some 9, none, .bin .lss (.t 6) (.t 8)⟩]) (
      .cond (.t 9) (
        .skip) (
        .exit 0))) (
      .seq (
      .block 1 (
        .seq (
        .seq (
        .reg [⟨some 12, none, .mv (.t 0)⟩,
              ⟨some 13, none, .mv (.t 5)⟩,
              ⟨some 14, none, .idx 1 (.t 12) (.t 13)⟩,
              ⟨some 15, none, .ld (.t 14)⟩,
              ⟨some 16, none, .mv (.t 1)⟩,
              ⟨some 17, none, .bin .neq (.t 15) (.t 16)⟩]) (
        .cond (.t 17) (
          .seq (
          .reg [⟨some 4, none, .mv (.c (.d (.int (-1))))⟩]) (
          .ret)) (
          .skip))) (
        .reg [⟨some 18, none, .mv (.t 1)⟩,
              ⟨some 19, none, .bin .add (.t 18) (.c (.d (.int 1)))⟩,
              ⟨some 1, none, .mv (.t 19)⟩]))) (
      .reg [⟨some 10, none, .mv (.t 5)⟩,
            ⟨some 11, none, .bin .add (.t 10) (.c (.d (.int 1)))⟩,
            ⟨some 5, none, .mv (.t 11)⟩]))

def C_laws_heldIntS : Fun := ⟨2, 21,
  .seq (
  .reg [⟨some 4, none, .mv (.c (.d (.int 0)))⟩]) (
  .seq (
  .seq (
  .reg [⟨some 5, none, .mv (.c (.d (.int 0)))⟩]) (
  .block 0 (
    .loop L0_laws_heldIntS))) (
  .seq (
  .reg [⟨some 20, none, .mv (.t 1)⟩,
        ⟨some 4, none, .mv (.t 20)⟩]) (
  .ret))),
  [.t 4]⟩

theorem k_laws_heldIntS : cFun Try.prog Try.f25 = some C_laws_heldIntS.erase := by kernel_rfl

def C_impl_copyInts : Fun := ⟨1, 5,
  .seq (
  .reg [⟨some 2, none, .mv (.c (.nil))⟩]) (
  .seq (
  .reg [⟨some 3, none, .mv (.t 0)⟩,
        ⟨some 4, none, .app 1 8 [.d (.int 0)] (.c (.nil)) (.t 3)⟩,
        ⟨some 2, none, .mv (.t 4)⟩]) (
  .ret)),
  [.t 2]⟩

theorem k_impl_copyInts : cFun Try.prog Try.f80 = some C_impl_copyInts.erase := by kernel_rfl

def C_impl_rawElem : Fun := ⟨3, 20,
  .seq (
  .reg [⟨some 3, none, .box (.t 0)⟩,
        ⟨some 4, none, .box (.t 1)⟩,
        ⟨some 6, none, .mv (.c (.nil))⟩]) (
  .seq (
  .reg [⟨some 8, none, .ldn 3 (.t 3)⟩,
        ⟨some 9, none, .call 121 [(.t 8)]⟩,
        ⟨some 7, none, .mv (.t 9)⟩]) (
  .seq (
  .reg [⟨some 10, none, .fld 2 (.t 4)⟩,
        ⟨some 11, none, .ld (.t 10)⟩,
        ⟨some 12, none, .mv (.t 2)⟩,
        ⟨some 13, none, .mv (.t 7)⟩,
        ⟨some 14, none, .bin .mul (.t 12) (.t 13)⟩,
        ⟨some 15, none, .mv (.t 2)⟩,
        ⟨some 16, none, .bin .add (.t 15) (.c (.d (.int 1)))⟩,
        ⟨some 17, none, .mv (.t 7)⟩,
        ⟨some 18, none, .bin .mul (.t 16) (.t 17)⟩,
        ⟨some 19, none, .slc 1 (.t 11) (some (.t 14)) (some (.t 18))⟩,
        ⟨some 6, none, .mv (.t 19)⟩]) (
  .ret))),
  [.t 6]⟩

theorem k_impl_rawElem : cFun Try.prog Try.f97 = some C_impl_rawElem.erase := by kernel_rfl

def C_spec_l05Get : Fun := ⟨3, 23,
  .seq (
  .reg [⟨some 3, none, .box (.t 0)⟩,
        ⟨some 4, none, .box (.t 1)⟩,
        ⟨some 6, none, .mv (.c (.nil))⟩]) (
  .seq (
  .reg [⟨some 8, none, .ldn 3 (.t 3)⟩,
        ⟨some 9, none, .call 120 [(.t 8)]⟩,
        ⟨some 7, none, .mv (.t 9)⟩]) (
  .seq (
  .reg [⟨some 10, none, .mksl 1 0 [.d (.int 0)] []⟩,
        ⟨some 11, none, .fld 2 (.t 4)⟩,
        ⟨some 12, none, .ld (.t 11)⟩,
        ⟨some 13, none, .mv (.t 2)⟩,
        ⟨some 14, none, .mv (.t 7)⟩,
        ⟨some 15, none, .bin .mul (.t 13) (.t 14)⟩,
        ⟨some 16, none, .mv (.t 2)⟩,
        ⟨some 17, none, .mv (.t 7)⟩,
        ⟨some 18, none, .bin .mul (.t 16) (.t 17)⟩,
        ⟨some 19, none, .mv (.t 7)⟩,
        ⟨some 20, none, .bin .add (.t 18) (.t 19)⟩,
        ⟨some 21, none, .slc 1 (.t 12) (some (.t 15)) (some (.t 20))⟩,
        ⟨some 22, none, .app 1 8 [.d (.int 0)] (.t 10) (.t 21)⟩,
        ⟨some 6, none, .mv (.t 22)⟩]) (
  .ret))),
  [.t 6]⟩

theorem k_spec_l05Get : cFun Try.prog Try.f102 = some C_spec_l05Get.erase := by kernel_rfl

end Go.Proofs.Ytjoopfojiiklnaa

/-
  The compiled code of functions of the seat (written by mkcode.py). No condition.
-/
namespace Go.Proofs.Ytjoopfojiiklnaa
open Go.Lift

def C_laws_heldTensor : Fun := ⟨2, 24,
 .seq (
 .reg [⟨some 2, none, .box (.t 0)⟩,
 ⟨some 4, none, .mv (.c (.d (.int 0)))⟩]) (
 .seq (
 .reg [⟨some 5, none, .fld 0 (.t 2)⟩,
 ⟨some 6, none, .ld (.t 5)⟩,
 ⟨some 7, none, .mv (.t 1)⟩,
 ⟨some 8, none, .call 25 [(.t 6), (.t 7)]⟩,
 ⟨some 1, none, .mv (.t 8)⟩]) (
 .seq (
 .seq (
 .reg [⟨some 9, none, .mv (.t 1)⟩,
 ⟨some 10, none, .bin .lss (.t 9) (.c (.d (.int 0)))⟩]) (
 .cond (.t 10) (
 .seq (
 .reg [⟨some 4, none, .mv (.c (.d (.int (-1))))⟩]) (
 .ret)) (
 .skip))) (
 .seq (
 .reg [⟨some 11, none, .fld 1 (.t 2)⟩,
 ⟨some 12, none, .ld (.t 11)⟩,
 ⟨some 13, none, .mv (.t 1)⟩,
 ⟨some 14, none, .call 25 [(.t 12), (.t 13)]⟩,
 ⟨some 1, none, .mv (.t 14)⟩]) (
 .seq (
 .seq (
 .reg [⟨some 15, none, .mv (.t 1)⟩,
 ⟨some 16, none, .bin .lss (.t 15) (.c (.d (.int 0)))⟩]) (
 .cond (.t 16) (
 .seq (
 .reg [⟨some 4, none, .mv (.c (.d (.int (-1))))⟩]) (
 .ret)) (
 .skip))) (
 .seq (
 .reg [⟨some 17, none, .fld 2 (.t 2)⟩,
 ⟨some 18, none, .ld (.t 17)⟩,
 ⟨some 19, none, .mv (.t 1)⟩,
 ⟨some 20, none, .call 25 [(.t 18), (.t 19)]⟩,
 ⟨some 1, none, .mv (.t 20)⟩]) (
 .seq (
 .seq (
 .reg [⟨some 21, none, .mv (.t 1)⟩,
 ⟨some 22, none, .bin .lss (.t 21) (.c (.d (.int 0)))⟩]) (
 .cond (.t 22) (
 .seq (
 .reg [⟨some 4, none, .mv (.c (.d (.int (-1))))⟩]) (
 .ret)) (
 .skip))) (
 .seq (
 .reg [⟨some 23, none, .mv (.t 1)⟩,
 ⟨some 4, none, .mv (.t 23)⟩]) (
 .ret)))))))),
 [.t 4]⟩

theorem k_laws_heldTensor : cFun Try.prog Try.f51 = some C_laws_heldTensor.erase := by kernel_rfl

def L0_spec_l05Product : C :=
 .seq (
 .reg [⟨some 11, none, .bin .lss (.t 10) (.t 9)⟩]) (
 .seq (
 .cond (.t 11) (
 .skip) (
 .exit 0)) (
 .seq (
 .block 1 (
 .seq (
 .reg [⟨some 12, none, .idx 1 (.t 8) (.t 10)⟩,
 ⟨some 13, none, .ld (.t 12)⟩,
 ⟨some 7, none, .mv (.t 13)⟩]) (
 .reg [⟨some 14, none, .mv (.t 5)⟩,
 ⟨some 15, none, .mv (.t 7)⟩,
 ⟨some 16, none, .bin .mul (.t 14) (.t 15)⟩,
 ⟨some 17, none, .mv (.t 1)⟩,
 ⟨some 18, none, .bin .add (.t 17) (.c (.d (.int 1)))⟩,
 ⟨some 19, none, .mnx false (.t 16) (.t 18)⟩,
 ⟨some 5, none, .mv (.t 19)⟩]))) (
 .reg [⟨some 20, none, .bin .add (.t 10) (.c (.d (.int 1)))⟩,
 ⟨some 10, none, .mv (.t 20)⟩])))

def C_spec_l05Product : Fun := ⟨2, 22,
 .seq (
 .reg [⟨some 4, none, .mv (.c (.d (.int 0)))⟩]) (
 .seq (
 .reg [⟨some 5, none, .mv (.c (.d (.int 1)))⟩]) (
 .seq (
 .seq (
 .reg [⟨some 8, none, .mv (.t 0)⟩,
 ⟨some 9, none, .len (.t 8)⟩,
 ⟨some 10, none, .mv (.c (.d (.int 0)))⟩]) (
 .block 0 (
 .loop L0_spec_l05Product))) (
 .seq (
 .reg [⟨some 21, none, .mv (.t 5)⟩,
 ⟨some 4, none, .mv (.t 21)⟩]) (
 .ret)))),
 [.t 4]⟩

theorem k_spec_l05Product : cFun Try.prog Try.f101 = some C_spec_l05Product.erase := by kernel_rfl

def C_spec_l01In : Fun := ⟨3, 15,
 .seq (
 .reg [⟨some 6, none, .mv (.c (.d (.bool false)))⟩]) (
 .seq (
 .reg [⟨some 7, none, .mv (.t 0)⟩,
 ⟨some 8, none, .mv (.t 1)⟩,
 ⟨some 9, none, .bin .geq (.t 7) (.t 8)⟩,
 ⟨some 10, none, .mv (.t 9)⟩,
 ⟨some 11, some (10, true), .mv (.t 0)⟩,
 ⟨some 12, some (10, true), .mv (.t 2)⟩,
 ⟨some 13, some (10, true), .bin .leq (.t 11) (.t 12)⟩,
 ⟨some 14, none, .pick (.t 10) (.t 13) (.c (.d (.bool false)))⟩,
 ⟨some 6, none, .mv (.t 14)⟩]) (
 .ret)),
 [.t 6]⟩

theorem k_spec_l01In : cFun Try.prog Try.f72 = some C_spec_l01In.erase := by kernel_rfl

def L0_impl_productOf : C :=
 .seq (
 .reg [⟨some 9, none, .bin .lss (.t 8) (.t 7)⟩]) (
 .seq (
 .cond (.t 9) (
 .skip) (
 .exit 0)) (
 .seq (
 .block 1 (
 .seq (
 .reg [⟨some 10, none, .idx 1 (.t 6) (.t 8)⟩,
 ⟨some 11, none, .ld (.t 10)⟩,
 ⟨some 5, none, .mv (.t 11)⟩]) (
 .reg [⟨some 12, none, .mv (.t 3)⟩,
 ⟨some 13, none, .mv (.t 5)⟩,
 ⟨some 14, none, .bin .mul (.t 12) (.t 13)⟩,
 ⟨some 3, none, .mv (.t 14)⟩]))) (
 .reg [⟨some 15, none, .bin .add (.t 8) (.c (.d (.int 1)))⟩,
 ⟨some 8, none, .mv (.t 15)⟩])))

def C_impl_productOf : Fun := ⟨1, 17,
 .seq (
 .reg [⟨some 2, none, .mv (.c (.d (.int 0)))⟩]) (
 .seq (
 .reg [⟨some 3, none, .mv (.c (.d (.int 1)))⟩]) (
 .seq (
 .seq (
 .reg [⟨some 6, none, .mv (.t 0)⟩,
 ⟨some 7, none, .len (.t 6)⟩,
 ⟨some 8, none, .mv (.c (.d (.int 0)))⟩]) (
 .block 0 (
 .loop L0_impl_productOf))) (
 .seq (
 .reg [⟨some 16, none, .mv (.t 3)⟩,
 ⟨some 2, none, .mv (.t 16)⟩]) (
 .ret)))),
 [.t 2]⟩

theorem k_impl_productOf : cFun Try.prog Try.f95 = some C_impl_productOf.erase := by kernel_rfl

def C_spec_l05Copy : Fun := ⟨1, 13,
 .seq (
 .reg [⟨some 1, none, .box (.t 0)⟩,
 ⟨some 2, none, .zer [.nil, .nil, .nil]⟩]) (
 .seq (
 .draw [⟨some 3, none, .fld 0 (.t 1)⟩,
 ⟨some 4, none, .ld (.t 3)⟩,
 ⟨some 5, none, .call 78 [(.t 4)]⟩,
 ⟨some 6, none, .fld 1 (.t 1)⟩,
 ⟨some 7, none, .ld (.t 6)⟩,
 ⟨some 8, none, .call 78 [(.t 7)]⟩,
 ⟨some 9, none, .fld 2 (.t 1)⟩,
 ⟨some 10, none, .ld (.t 9)⟩]
 [⟨some 11, none, .call 78 [(.t 10)]⟩,
 ⟨some 12, none, .agg [.nil, .nil, .nil] [(0, 1, (.t 5)), (1, 1, (.t 8)), (2, 1, (.t 11))]⟩,
 ⟨none, none, .st 3 (.t 2) (.t 12)⟩]) (
 .ret)),
 [.cell 2 3]⟩

theorem k_spec_l05Copy : cFun Try.prog Try.f117 = some C_spec_l05Copy.erase := by kernel_rfl

def L0_spec_l05Put : C :=
 .seq (
 .reg [⟨some 15, none, .bin .lss (.t 14) (.t 13)⟩]) (
 .seq (
 .cond (.t 15) (
 .skip) (
 .exit 0)) (
 .seq (
 .block 1 (
 .seq (
 .reg [⟨some 16, none, .mv (.t 14)⟩,
 ⟨some 9, none, .mv (.t 16)⟩]) (
 .draw [⟨some 17, none, .fld 2 (.t 5)⟩,
 ⟨some 18, none, .ld (.t 17)⟩,
 ⟨some 19, none, .mv (.t 2)⟩,
 ⟨some 20, none, .mv (.t 8)⟩,
 ⟨some 21, none, .bin .mul (.t 19) (.t 20)⟩,
 ⟨some 22, none, .mv (.t 9)⟩,
 ⟨some 23, none, .bin .add (.t 21) (.t 22)⟩,
 ⟨some 24, none, .mv (.t 3)⟩,
 ⟨some 25, none, .mv (.t 9)⟩,
 ⟨some 26, none, .idx 1 (.t 24) (.t 25)⟩,
 ⟨some 27, none, .ld (.t 26)⟩]
 [⟨some 28, none, .idx 1 (.t 18) (.t 23)⟩,
 ⟨none, none, .st 1 (.t 28) (.t 27)⟩]))) (
 .reg [⟨some 29, none, .bin .add (.t 14) (.c (.d (.int 1)))⟩,
 ⟨some 14, none, .mv (.t 29)⟩])))

def C_spec_l05Put : Fun := ⟨4, 30,
 .seq (
 .reg [⟨some 4, none, .box (.t 0)⟩,
 ⟨some 5, none, .box (.t 1)⟩]) (
 .seq (
 .reg [⟨some 10, none, .ldn 3 (.t 4)⟩,
 ⟨some 11, none, .call 120 [(.t 10)]⟩,
 ⟨some 8, none, .mv (.t 11)⟩]) (
 .seq (
 .reg [⟨some 12, none, .mv (.t 3)⟩,
 ⟨some 13, none, .len (.t 12)⟩,
 ⟨some 14, none, .mv (.c (.d (.int 0)))⟩]) (
 .block 0 (
 .loop L0_spec_l05Put)))),
 []⟩

theorem k_spec_l05Put : cFun Try.prog Try.f142 = some C_spec_l05Put.erase := by kernel_rfl

def L0_spec_l02Mul : C :=
 .seq (
 .reg [⟨some 27, none, .bin .lss (.t 26) (.t 25)⟩]) (
 .seq (
 .cond (.t 27) (
 .skip) (
 .exit 3)) (
 .seq (
 .block 4 (
 .seq (
 .reg [⟨some 28, none, .mv (.t 26)⟩,
 ⟨some 29, none, .idx 1 (.t 24) (.t 26)⟩,
 ⟨some 30, none, .ld (.t 29)⟩,
 ⟨some 10, none, .mv (.t 28)⟩,
 ⟨some 11, none, .mv (.t 30)⟩]) (
 .block 5 (
 .seq (
 .reg [⟨some 32, none, .mv (.t 8)⟩,
 ⟨some 33, none, .mv (.t 10)⟩,
 ⟨some 34, none, .bin .add (.t 32) (.t 33)⟩,
 ⟨some 35, none, .mv (.t 7)⟩,
 ⟨some 36, none, .len (.t 35)⟩,
 ⟨some 37, none, .bin .lss (.t 34) (.t 36)⟩,
 ⟨some 31, none, .mv (.t 37)⟩]) (
 .cond (.t 31) (
 .draw [⟨some 38, none, .mv (.t 7)⟩,
 ⟨some 39, none, .mv (.t 8)⟩,
 ⟨some 40, none, .mv (.t 10)⟩,
 ⟨some 41, none, .bin .add (.t 39) (.t 40)⟩,
 ⟨some 42, none, .mv (.t 7)⟩,
 ⟨some 43, none, .mv (.t 8)⟩,
 ⟨some 44, none, .mv (.t 10)⟩,
 ⟨some 45, none, .bin .add (.t 43) (.t 44)⟩,
 ⟨some 46, none, .idx 1 (.t 42) (.t 45)⟩,
 ⟨some 47, none, .ld (.t 46)⟩,
 ⟨some 48, none, .mv (.t 9)⟩,
 ⟨some 49, none, .mv (.t 11)⟩,
 ⟨some 50, none, .bin .mul (.t 48) (.t 49)⟩,
 ⟨some 51, none, .bin .add (.t 47) (.t 50)⟩,
 ⟨some 52, none, .fld 1 (.t 3)⟩,
 ⟨some 53, none, .ld (.t 52)⟩,
 ⟨some 54, none, .bin .rem (.t 51) (.t 53)⟩]
 [⟨some 55, none, .idx 1 (.t 38) (.t 41)⟩,
 ⟨none, none, .st 1 (.t 55) (.t 54)⟩]) (
 .seq (
 .reg [⟨some 57, none, .fld 0 (.t 3)⟩,
 ⟨some 58, none, .ld (.t 57)⟩,
 ⟨some 59, none, .bin .eql (.t 58) (.c (.d (.int 8)))⟩,
 ⟨some 56, none, .mv (.t 59)⟩]) (
 .cond (.t 56) (
 .draw [⟨some 60, none, .mv (.t 7)⟩,
 ⟨some 61, none, .mv (.t 8)⟩,
 ⟨some 62, none, .mv (.t 10)⟩,
 ⟨some 63, none, .bin .add (.t 61) (.t 62)⟩,
 ⟨some 64, none, .bin .sub (.t 63) (.c (.d (.int 4)))⟩,
 ⟨some 65, none, .mv (.t 7)⟩,
 ⟨some 66, none, .mv (.t 8)⟩,
 ⟨some 67, none, .mv (.t 10)⟩,
 ⟨some 68, none, .bin .add (.t 66) (.t 67)⟩,
 ⟨some 69, none, .bin .sub (.t 68) (.c (.d (.int 4)))⟩,
 ⟨some 70, none, .idx 1 (.t 65) (.t 69)⟩,
 ⟨some 71, none, .ld (.t 70)⟩,
 ⟨some 72, none, .fld 1 (.t 3)⟩,
 ⟨some 73, none, .ld (.t 72)⟩,
 ⟨some 74, none, .mv (.t 9)⟩,
 ⟨some 75, none, .bin .sub (.t 73) (.t 74)⟩,
 ⟨some 76, none, .mv (.t 11)⟩,
 ⟨some 77, none, .bin .mul (.t 75) (.t 76)⟩,
 ⟨some 78, none, .bin .add (.t 71) (.t 77)⟩,
 ⟨some 79, none, .fld 1 (.t 3)⟩,
 ⟨some 80, none, .ld (.t 79)⟩,
 ⟨some 81, none, .bin .rem (.t 78) (.t 80)⟩]
 [⟨some 82, none, .idx 1 (.t 60) (.t 64)⟩,
 ⟨none, none, .st 1 (.t 82) (.t 81)⟩]) (
 .skip)))))))) (
 .reg [⟨some 83, none, .bin .add (.t 26) (.c (.d (.int 1)))⟩,
 ⟨some 26, none, .mv (.t 83)⟩])))

def L1_spec_l02Mul : C :=
 .seq (
 .reg [⟨some 20, none, .bin .lss (.t 19) (.t 18)⟩]) (
 .seq (
 .cond (.t 20) (
 .skip) (
 .exit 1)) (
 .seq (
 .block 2 (
 .seq (
 .reg [⟨some 21, none, .mv (.t 19)⟩,
 ⟨some 22, none, .idx 1 (.t 17) (.t 19)⟩,
 ⟨some 23, none, .ld (.t 22)⟩,
 ⟨some 8, none, .mv (.t 21)⟩,
 ⟨some 9, none, .mv (.t 23)⟩]) (
 .seq (
 .reg [⟨some 24, none, .mv (.t 2)⟩,
 ⟨some 25, none, .len (.t 24)⟩,
 ⟨some 26, none, .mv (.c (.d (.int 0)))⟩]) (
 .block 3 (
 .loop L0_spec_l02Mul))))) (
 .reg [⟨some 84, none, .bin .add (.t 19) (.c (.d (.int 1)))⟩,
 ⟨some 19, none, .mv (.t 84)⟩])))

def C_spec_l02Mul : Fun := ⟨3, 151,
 .seq (
 .reg [⟨some 3, none, .box (.t 0)⟩,
 ⟨some 6, none, .mv (.c (.nil))⟩]) (
 .seq (
 .reg [⟨some 12, none, .mv (.t 1)⟩,
 ⟨some 13, none, .len (.t 12)⟩,
 ⟨some 14, none, .make 1 8 [.d (.int 0)] (.t 13) (.t 13)⟩,
 ⟨some 7, none, .mv (.t 14)⟩]) (
 .seq (
 .seq (
 .reg [⟨some 15, none, .fld 0 (.t 3)⟩,
 ⟨some 16, none, .ld (.t 15)⟩]) (
 .block 0 (
 .seq (
 .seq (
 .reg [⟨some 86, none, .bin .eql (.t 16) (.c (.d (.int 1)))⟩,
 ⟨some 85, none, .mv (.t 86)⟩]) (
 .cond (.t 85) (
 .skip) (
 .reg [⟨some 87, none, .bin .eql (.t 16) (.c (.d (.int 6)))⟩,
 ⟨some 85, none, .mv (.t 87)⟩]))) (
 .cond (.t 85) (
 .draw [⟨some 88, none, .mv (.t 7)⟩,
 ⟨some 89, none, .mv (.t 1)⟩,
 ⟨some 90, none, .idx 1 (.t 89) (.c (.d (.int 0)))⟩,
 ⟨some 91, none, .ld (.t 90)⟩,
 ⟨some 92, none, .mv (.t 2)⟩,
 ⟨some 93, none, .idx 1 (.t 92) (.c (.d (.int 0)))⟩,
 ⟨some 94, none, .ld (.t 93)⟩,
 ⟨some 95, none, .bin .and (.t 91) (.t 94)⟩]
 [⟨some 96, none, .idx 1 (.t 88) (.c (.d (.int 0)))⟩,
 ⟨none, none, .st 1 (.t 96) (.t 95)⟩]) (
 .seq (
 .reg [⟨some 98, none, .bin .eql (.t 16) (.c (.d (.int 2)))⟩,
 ⟨some 97, none, .mv (.t 98)⟩]) (
 .cond (.t 97) (
 .draw [⟨some 99, none, .mv (.t 7)⟩,
 ⟨some 100, none, .mv (.t 1)⟩,
 ⟨some 101, none, .idx 1 (.t 100) (.c (.d (.int 0)))⟩,
 ⟨some 102, none, .ld (.t 101)⟩,
 ⟨some 103, none, .mv (.t 2)⟩,
 ⟨some 104, none, .idx 1 (.t 103) (.c (.d (.int 0)))⟩,
 ⟨some 105, none, .ld (.t 104)⟩,
 ⟨some 106, none, .bin .mul (.t 102) (.t 105)⟩,
 ⟨some 107, none, .fld 1 (.t 3)⟩,
 ⟨some 108, none, .ld (.t 107)⟩,
 ⟨some 109, none, .bin .rem (.t 106) (.t 108)⟩]
 [⟨some 110, none, .idx 1 (.t 99) (.c (.d (.int 0)))⟩,
 ⟨none, none, .st 1 (.t 110) (.t 109)⟩]) (
 .seq (
 .reg [⟨some 112, none, .bin .eql (.t 16) (.c (.d (.int 3)))⟩,
 ⟨some 111, none, .mv (.t 112)⟩]) (
 .cond (.t 111) (
 .draw [⟨some 113, none, .mv (.t 7)⟩,
 ⟨some 114, none, .mv (.t 1)⟩,
 ⟨some 115, none, .idx 1 (.t 114) (.c (.d (.int 0)))⟩,
 ⟨some 116, none, .ld (.t 115)⟩,
 ⟨some 117, none, .mv (.t 2)⟩,
 ⟨some 118, none, .idx 1 (.t 117) (.c (.d (.int 0)))⟩,
 ⟨some 119, none, .ld (.t 118)⟩,
 ⟨some 120, none, .bin .mul (.t 116) (.t 119)⟩,
 ⟨some 121, none, .fld 1 (.t 3)⟩,
 ⟨some 122, none, .ld (.t 121)⟩,
 ⟨some 123, none, .mnx false (.t 120) (.t 122)⟩]
 [⟨some 124, none, .idx 1 (.t 113) (.c (.d (.int 0)))⟩,
 ⟨none, none, .st 1 (.t 124) (.t 123)⟩]) (
 .seq (
 .reg [⟨some 126, none, .bin .eql (.t 16) (.c (.d (.int 4)))⟩,
 ⟨some 125, none, .mv (.t 126)⟩]) (
 .cond (.t 125) (
 .draw [⟨some 127, none, .mv (.t 7)⟩,
 ⟨some 128, none, .mv (.t 1)⟩,
 ⟨some 129, none, .idx 1 (.t 128) (.c (.d (.int 0)))⟩,
 ⟨some 130, none, .ld (.t 129)⟩,
 ⟨some 131, none, .mv (.t 2)⟩,
 ⟨some 132, none, .idx 1 (.t 131) (.c (.d (.int 0)))⟩,
 ⟨some 133, none, .ld (.t 132)⟩,
 ⟨some 134, none, .bin .add (.t 130) (.t 133)⟩,
 ⟨some 135, none, .fld 1 (.t 3)⟩,
 ⟨some 136, none, .ld (.t 135)⟩,
 ⟨some 137, none, .mnx false (.t 134) (.t 136)⟩]
 [⟨some 138, none, .idx 1 (.t 127) (.c (.d (.int 0)))⟩,
 ⟨none, none, .st 1 (.t 138) (.t 137)⟩]) (
 .seq (
 .reg [⟨some 140, none, .bin .eql (.t 16) (.c (.d (.int 5)))⟩,
 ⟨some 139, none, .mv (.t 140)⟩]) (
 .cond (.t 139) (
 .draw [⟨some 141, none, .mv (.t 7)⟩,
 ⟨some 142, none, .mv (.t 1)⟩,
 ⟨some 143, none, .idx 1 (.t 142) (.c (.d (.int 0)))⟩,
 ⟨some 144, none, .ld (.t 143)⟩,
 ⟨some 145, none, .mv (.t 2)⟩,
 ⟨some 146, none, .idx 1 (.t 145) (.c (.d (.int 0)))⟩,
 ⟨some 147, none, .ld (.t 146)⟩,
 ⟨some 148, none, .mnx false (.t 144) (.t 147)⟩]
 [⟨some 149, none, .idx 1 (.t 141) (.c (.d (.int 0)))⟩,
 ⟨none, none, .st 1 (.t 149) (.t 148)⟩]) (
 .seq (
 .reg [⟨some 17, none, .mv (.t 1)⟩,
 ⟨some 18, none, .len (.t 17)⟩,
 ⟨some 19, none, .mv (.c (.d (.int 0)))⟩]) (
 .block 1 (
 .loop L1_spec_l02Mul))))))))))))))) (
 .seq (
 .reg [⟨some 150, none, .mv (.t 7)⟩,
 ⟨some 6, none, .mv (.t 150)⟩]) (
 .ret)))),
 [.t 6]⟩

theorem k_spec_l02Mul : cFun Try.prog Try.f143 = some C_spec_l02Mul.erase := by kernel_rfl

def C_spec_l05Ints : Fun := ⟨1, 6,
 .seq (
 .reg [⟨some 2, none, .mv (.c (.nil))⟩]) (
 .seq (
 .reg [⟨some 3, none, .mksl 1 0 [.d (.int 0)] []⟩,
 ⟨some 4, none, .mv (.t 0)⟩,
 ⟨some 5, none, .app 1 8 [.d (.int 0)] (.t 3) (.t 4)⟩,
 ⟨some 2, none, .mv (.t 5)⟩]) (
 .ret)),
 [.t 2]⟩

theorem k_spec_l05Ints : cFun Try.prog Try.f78 = some C_spec_l05Ints.erase := by kernel_rfl

end Go.Proofs.Ytjoopfojiiklnaa

/-
  The compiled code of functions of the seat (written by mkcode.py). No condition.
-/
namespace Go.Proofs.Ytjoopfojiiklnaa
open Go.Lift

end Go.Proofs.Ytjoopfojiiklnaa
