/-
  The compiled code of functions of the seat (written by mkcode.py). No condition.
-/
import Derived.Test.YtmggkcifakbfeaaLiftE
import Derived.Test.YtmggkcifakbfeaaProg
import Derived.KernelRfl
import Derived.Test.YtmggkcifakbfeaaLiftK
namespace Go.Proofs.Ytmggkcifakbfeaa
open Go.Lift

def C_laws_FnExactStackTensors : Fun := ⟨3, 109,
 .seq (
 .reg [⟨some 3, none, .box (.t 0)⟩,
 ⟨some 6, none, .mv (.c (.d (.bool false)))⟩]) (
 .seq (
 .reg [⟨some 7, none, .mv (.c (.d (.int 1048576)))⟩]) (
 .seq (
 .reg [⟨some 18, none, .mv (.t 1)⟩,
 ⟨some 19, none, .mv (.t 7)⟩,
 ⟨some 20, none, .call 4 [(.t 18), (.t 19)]⟩,
 ⟨some 7, none, .mv (.t 20)⟩]) (
 .seq (
 .seq (
 .reg [⟨some 21, none, .mv (.t 7)⟩,
 ⟨some 22, none, .bin .lss (.t 21) (.c (.d (.int 0)))⟩]) (
 .cond (.t 22) (
 .seq (
 .reg [⟨some 6, none, .mv (.c (.d (.bool true)))⟩]) (
 .ret)) (
 .skip))) (
 .seq (
 .reg [⟨some 24, none, .ldn 3 (.t 3)⟩,
 ⟨some 25, none, .call 6 [(.t 24)]⟩,
 ⟨some 26, none, .mv (.t 1)⟩,
 ⟨some 27, none, .call 7 [(.t 26)]⟩,
 ⟨some 28, none, .mv (.t 2)⟩,
 ⟨some 29, none, .call 5 [(.t 25), (.t 27), (.t 28)]⟩,
 ⟨some 23, none, .mv (.t 29)⟩,
 ⟨some 30, none, .ext 0 (.t 23)⟩,
 ⟨some 31, none, .ext 1 (.t 23)⟩,
 ⟨some 8, none, .zer [.nil, .nil, .nil]⟩,
 ⟨none, none, .st 3 (.t 8) (.t 30)⟩,
 ⟨some 9, none, .mv (.t 31)⟩]) (
 .seq (
 .reg [⟨some 32, none, .mv (.t 1)⟩,
 ⟨some 33, none, .call 7 [(.t 32)]⟩,
 ⟨some 10, none, .mv (.t 33)⟩]) (
 .seq (
 .reg [⟨some 35, none, .ldn 3 (.t 3)⟩,
 ⟨some 36, none, .call 6 [(.t 35)]⟩,
 ⟨some 37, none, .mv (.t 10)⟩,
 ⟨some 38, none, .mv (.t 2)⟩,
 ⟨some 39, none, .call 8 [(.t 36), (.t 37), (.t 38)]⟩,
 ⟨some 34, none, .mv (.t 39)⟩,
 ⟨some 40, none, .ext 0 (.t 34)⟩,
 ⟨some 41, none, .ext 1 (.t 34)⟩,
 ⟨some 11, none, .zer [.nil, .nil, .nil]⟩,
 ⟨none, none, .st 3 (.t 11) (.t 40)⟩,
 ⟨some 12, none, .mv (.t 41)⟩]) (
 .seq (
 .seq (
 .reg [⟨some 42, none, .ldn 3 (.t 11)⟩,
 ⟨some 43, none, .ldn 3 (.t 8)⟩,
 ⟨some 44, none, .call 9 [(.t 42), (.t 43)]⟩,
 ⟨some 45, none, .not (.t 44)⟩,
 ⟨some 46, none, .mv (.t 45)⟩,
 ⟨some 47, some (46, false), .mv (.t 12)⟩,
 ⟨some 48, some (46, false), .mv (.t 9)⟩,
 ⟨some 49, some (46, false), .binb true (.t 47) (.t 48)⟩,
 ⟨some 50, none, .pick (.t 46) (.c (.d (.bool true))) (.t 49)⟩]) (
 .cond (.t 50) (
 .seq (
 .reg [⟨some 6, none, .mv (.c (.d (.bool false)))⟩]) (
 .ret)) (
 .skip))) (
 .seq (
 .seq (
 .reg [⟨some 51, none, .mv (.t 10)⟩,
 ⟨some 52, none, .mv (.t 1)⟩,
 ⟨some 53, none, .call 7 [(.t 52)]⟩,
 ⟨some 54, none, .call 10 [(.t 51), (.t 53)]⟩,
 ⟨some 55, none, .not (.t 54)⟩]) (
 .cond (.t 55) (
 .seq (
 .reg [⟨some 6, none, .mv (.c (.d (.bool false)))⟩]) (
 .ret)) (
 .skip))) (
 .seq (
 .reg [⟨some 13, none, .mv (.c (.d (.int 1)))⟩]) (
 .seq (
 .reg [⟨some 56, none, .mv (.t 10)⟩,
 ⟨some 57, none, .mv (.t 13)⟩,
 ⟨some 58, none, .call 11 [(.t 56), (.t 57)]⟩,
 ⟨some 13, none, .mv (.t 58)⟩]) (
 .seq (
 .seq (
 .reg [⟨some 59, none, .mv (.t 13)⟩,
 ⟨some 60, none, .bin .lss (.t 59) (.c (.d (.int 0)))⟩,
 ⟨some 61, none, .mv (.t 60)⟩,
 ⟨some 62, some (61, false), .ldn 3 (.t 11)⟩,
 ⟨some 63, some (61, false), .ldn 3 (.t 8)⟩,
 ⟨some 64, some (61, false), .call 9 [(.t 62), (.t 63)]⟩,
 ⟨some 65, some (61, false), .not (.t 64)⟩,
 ⟨some 66, none, .pick (.t 61) (.c (.d (.bool true))) (.t 65)⟩,
 ⟨some 67, none, .mv (.t 66)⟩,
 ⟨some 68, some (67, false), .mv (.t 12)⟩,
 ⟨some 69, some (67, false), .mv (.t 9)⟩,
 ⟨some 70, some (67, false), .binb true (.t 68) (.t 69)⟩,
 ⟨some 71, none, .pick (.t 67) (.c (.d (.bool true))) (.t 70)⟩]) (
 .cond (.t 71) (
 .seq (
 .reg [⟨some 6, none, .mv (.c (.d (.bool false)))⟩]) (
 .ret)) (
 .skip))) (
 .seq (
 .reg [⟨some 14, none, .mv (.c (.d (.int 1)))⟩]) (
 .seq (
 .reg [⟨some 72, none, .ldn 3 (.t 11)⟩,
 ⟨some 73, none, .mv (.t 14)⟩,
 ⟨some 74, none, .call 12 [(.t 72), (.t 73)]⟩,
 ⟨some 14, none, .mv (.t 74)⟩]) (
 .seq (
 .reg [⟨some 15, none, .mv (.c (.d (.int 1)))⟩]) (
 .seq (
 .reg [⟨some 75, none, .ldn 3 (.t 11)⟩,
 ⟨some 76, none, .mv (.t 15)⟩,
 ⟨some 77, none, .call 13 [(.t 75), (.t 76)]⟩,
 ⟨some 15, none, .mv (.t 77)⟩]) (
 .seq (
 .seq (
 .reg [⟨some 78, none, .mv (.t 15)⟩,
 ⟨some 79, none, .bin .lss (.t 78) (.c (.d (.int 0)))⟩]) (
 .cond (.t 79) (
 .seq (
 .reg [⟨some 6, none, .mv (.c (.d (.bool false)))⟩]) (
 .ret)) (
 .skip))) (
 .seq (
 .seq (
 .reg [⟨some 80, none, .mv (.t 15)⟩,
 ⟨some 81, none, .mv (.t 14)⟩,
 ⟨some 82, none, .bin .neq (.t 80) (.t 81)⟩]) (
 .cond (.t 82) (
 .seq (
 .reg [⟨some 6, none, .mv (.c (.d (.bool false)))⟩]) (
 .ret)) (
 .skip))) (
 .seq (
 .reg [⟨some 84, none, .ldn 3 (.t 3)⟩,
 ⟨some 85, none, .call 6 [(.t 84)]⟩,
 ⟨some 86, none, .mv (.t 1)⟩,
 ⟨some 87, none, .call 7 [(.t 86)]⟩,
 ⟨some 88, none, .mv (.t 2)⟩,
 ⟨some 89, none, .call 8 [(.t 85), (.t 87), (.t 88)]⟩,
 ⟨some 83, none, .mv (.t 89)⟩,
 ⟨some 90, none, .ext 0 (.t 83)⟩,
 ⟨some 91, none, .ext 1 (.t 83)⟩,
 ⟨some 16, none, .zer [.nil, .nil, .nil]⟩,
 ⟨none, none, .st 3 (.t 16) (.t 90)⟩,
 ⟨some 17, none, .mv (.t 91)⟩]) (
 .seq (
 .seq (
 .reg [⟨some 92, none, .ldn 3 (.t 16)⟩,
 ⟨some 93, none, .ldn 3 (.t 8)⟩,
 ⟨some 94, none, .call 9 [(.t 92), (.t 93)]⟩,
 ⟨some 95, none, .not (.t 94)⟩,
 ⟨some 96, none, .mv (.t 95)⟩,
 ⟨some 97, some (96, false), .mv (.t 17)⟩,
 ⟨some 98, some (96, false), .mv (.t 9)⟩,
 ⟨some 99, some (96, false), .binb true (.t 97) (.t 98)⟩,
 ⟨some 100, none, .pick (.t 96) (.c (.d (.bool true))) (.t 99)⟩]) (
 .cond (.t 100) (
 .seq (
 .reg [⟨some 6, none, .mv (.c (.d (.bool false)))⟩]) (
 .ret)) (
 .skip))) (
 .seq (
 .reg [⟨some 15, none, .mv (.c (.d (.int 1)))⟩]) (
 .seq (
 .reg [⟨some 101, none, .ldn 3 (.t 11)⟩,
 ⟨some 102, none, .mv (.t 15)⟩,
 ⟨some 103, none, .call 13 [(.t 101), (.t 102)]⟩,
 ⟨some 15, none, .mv (.t 103)⟩]) (
 .seq (
 .seq (
 .reg [⟨some 104, none, .mv (.t 15)⟩,
 ⟨some 105, none, .bin .lss (.t 104) (.c (.d (.int 0)))⟩]) (
 .cond (.t 105) (
 .seq (
 .reg [⟨some 6, none, .mv (.c (.d (.bool false)))⟩]) (
 .ret)) (
 .skip))) (
 .seq (
 .seq (
 .reg [⟨some 106, none, .mv (.t 15)⟩,
 ⟨some 107, none, .mv (.t 14)⟩,
 ⟨some 108, none, .bin .neq (.t 106) (.t 107)⟩]) (
 .cond (.t 108) (
 .seq (
 .reg [⟨some 6, none, .mv (.c (.d (.bool false)))⟩]) (
 .ret)) (
 .skip))) (
 .seq (
 .reg [⟨some 6, none, .mv (.c (.d (.bool true)))⟩]) (
 .ret))))))))))))))))))))))))),
 [.t 6]⟩

theorem k_laws_FnExactStackTensors : cFun Try.prog Try.f3 = some C_laws_FnExactStackTensors.erase := by kernel_rfl

end Go.Proofs.Ytmggkcifakbfeaa

/-
  The compiled code of functions of the seat (written by mkcode.py). No condition.
-/
namespace Go.Proofs.Ytmggkcifakbfeaa
open Go.Lift

def L0_spec_StackTensors : C :=
 .seq (
 .reg [⟨some 93, none, .bin .lss (.t 92) (.t 91)⟩]) (
 .seq (
 .cond (.t 93) (
 .skip) (
 .exit 4)) (
 .seq (
 .block 5 (
 .seq (
 .reg [⟨some 94, none, .idx 3 (.t 90) (.t 92)⟩,
 ⟨some 95, none, .ldn 3 (.t 94)⟩,
 ⟨some 16, none, .zer [.nil, .nil, .nil]⟩,
 ⟨none, none, .st 3 (.t 16) (.t 95)⟩]) (
 .draw [⟨some 96, none, .fld 2 (.t 8)⟩,
 ⟨some 97, none, .ld (.t 96)⟩,
 ⟨some 98, none, .ldn 3 (.t 3)⟩,
 ⟨some 99, none, .ldn 3 (.t 16)⟩,
 ⟨some 100, none, .mv (.t 14)⟩,
 ⟨some 101, none, .call 22 [(.t 98), (.t 99), (.t 100)]⟩]
 [⟨some 102, none, .app 1 8 [.d (.int 0)] (.t 97) (.t 101)⟩,
 ⟨some 103, none, .fld 2 (.t 8)⟩,
 ⟨none, none, .st 1 (.t 103) (.t 102)⟩]))) (
 .reg [⟨some 104, none, .bin .add (.t 92) (.c (.d (.int 1)))⟩,
 ⟨some 92, none, .mv (.t 104)⟩])))

def L1_spec_StackTensors : C :=
 .seq (
 .seq (
 .reg [⟨some 81, none, .mv (.t 14)⟩,
 ⟨some 82, none, .mv (.t 1)⟩,
 ⟨some 83, none, .idx 3 (.t 82) (.c (.d (.int 0)))⟩,
 ⟨some 84, none, .fld 1 (.t 83)⟩,
 ⟨some 85, none, .ld (.t 84)⟩,
 ⟨some 86, none, .call 21 [(.t 85), (.c (.d (.int 4096)))]⟩,
 ⟨some 87, none, .bin .lss (.t 81) (.t 86)⟩]) (
 .cond (.t 87) (
 .skip) (
 .exit 2))) (
 .seq (
 .block 3 (
 .seq (
 .reg [⟨some 90, none, .mv (.t 9)⟩,
 ⟨some 91, none, .len (.t 90)⟩,
 ⟨some 92, none, .mv (.c (.d (.int 0)))⟩]) (
 .block 4 (
 .loop L0_spec_StackTensors)))) (
 .reg [⟨some 88, none, .mv (.t 14)⟩,
 ⟨some 89, none, .bin .add (.t 88) (.c (.d (.int 1)))⟩,
 ⟨some 14, none, .mv (.t 89)⟩]))

def L2_spec_StackTensors : C :=
 .seq (
 .reg [⟨some 57, none, .bin .lss (.t 56) (.t 55)⟩]) (
 .seq (
 .cond (.t 57) (
 .skip) (
 .exit 0)) (
 .seq (
 .block 1 (
 .seq (
 .reg [⟨some 58, none, .idx 3 (.t 54) (.t 56)⟩,
 ⟨some 59, none, .ldn 3 (.t 58)⟩,
 ⟨some 11, none, .zer [.nil, .nil, .nil]⟩,
 ⟨none, none, .st 3 (.t 11) (.t 59)⟩]) (
 .seq (
 .draw [⟨some 61, none, .ldn 3 (.t 3)⟩,
 ⟨some 62, none, .mv (.t 1)⟩,
 ⟨some 63, none, .idx 3 (.t 62) (.c (.d (.int 0)))⟩,
 ⟨some 64, none, .ldn 3 (.t 63)⟩,
 ⟨some 65, none, .ldn 3 (.t 11)⟩,
 ⟨some 66, none, .call 19 [(.t 61), (.t 64), (.t 65)]⟩,
 ⟨some 60, none, .mv (.t 66)⟩,
 ⟨some 67, none, .ext 0 (.t 60)⟩,
 ⟨some 68, none, .ext 1 (.t 60)⟩,
 ⟨some 12, none, .zer [.nil, .nil, .nil]⟩]
 [⟨none, none, .st 3 (.t 12) (.t 67)⟩,
 ⟨some 13, none, .mv (.t 68)⟩]) (
 .seq (
 .seq (
 .reg [⟨some 69, none, .mv (.t 13)⟩,
 ⟨some 70, none, .not (.t 69)⟩]) (
 .cond (.t 70) (
 .seq (
 .reg [⟨some 71, none, .agg [.nil, .nil, .nil] []⟩,
 ⟨none, none, .st 3 (.t 6) (.t 71)⟩,
 ⟨some 7, none, .mv (.c (.d (.bool false)))⟩]) (
 .ret)) (
 .skip))) (
 .reg [⟨some 72, none, .mv (.t 9)⟩,
 ⟨some 73, none, .ldn 3 (.t 12)⟩,
 ⟨some 74, none, .mksl 3 1 [.nil, .nil, .nil] [(0, 3, (.t 73))]⟩,
 ⟨some 75, none, .app 3 72 [.nil, .nil, .nil] (.t 72) (.t 74)⟩,
 ⟨some 9, none, .mv (.t 75)⟩]))))) (
 .reg [⟨some 76, none, .bin .add (.t 56) (.c (.d (.int 1)))⟩,
 ⟨some 56, none, .mv (.t 76)⟩])))

def C_spec_StackTensors : Fun := ⟨3, 106,
 .seq (
 .reg [⟨some 3, none, .box (.t 0)⟩,
 ⟨some 6, none, .zer [.nil, .nil, .nil]⟩,
 ⟨some 7, none, .mv (.c (.d (.bool false)))⟩]) (
 .seq (
 .seq (
 .draw [⟨some 17, none, .ldn 3 (.t 3)⟩,
 ⟨some 18, none, .call 15 [(.t 17)]⟩,
 ⟨some 19, none, .not (.t 18)⟩,
 ⟨some 20, none, .mv (.t 19)⟩,
 ⟨some 21, some (20, false), .mv (.t 1)⟩,
 ⟨some 22, some (20, false), .len (.t 21)⟩,
 ⟨some 23, some (20, false), .call 16 [(.t 22), (.c (.d (.int 1))), (.c (.d (.int 8)))]⟩,
 ⟨some 24, some (20, false), .not (.t 23)⟩,
 ⟨some 25, none, .pick (.t 20) (.c (.d (.bool true))) (.t 24)⟩,
 ⟨some 26, none, .mv (.t 25)⟩,
 ⟨some 27, some (26, false), .ldn 3 (.t 3)⟩,
 ⟨some 28, some (26, false), .mv (.t 1)⟩,
 ⟨some 29, some (26, false), .idx 3 (.t 28) (.c (.d (.int 0)))⟩,
 ⟨some 30, some (26, false), .ldn 3 (.t 29)⟩]
 [⟨some 31, some (26, false), .call 17 [(.t 27), (.t 30)]⟩,
 ⟨some 32, some (26, false), .not (.t 31)⟩,
 ⟨some 33, none, .pick (.t 26) (.c (.d (.bool true))) (.t 32)⟩]) (
 .cond (.t 33) (
 .seq (
 .reg [⟨some 34, none, .agg [.nil, .nil, .nil] []⟩,
 ⟨none, none, .st 3 (.t 6) (.t 34)⟩,
 ⟨some 7, none, .mv (.c (.d (.bool false)))⟩]) (
 .ret)) (
 .skip))) (
 .seq (
 .drawK [(⟨some 35, none, .mv (.t 1)⟩, []),
 (⟨some 36, none, .idx 3 (.t 35) (.c (.d (.int 0)))⟩, []),
 (⟨some 37, none, .fld 0 (.t 36)⟩, []),
 (⟨some 38, none, .ld (.t 37)⟩, []),
 (⟨some 39, none, .call 18 [(.t 38)]⟩, []),
 (⟨some 40, none, .mv (.t 2)⟩, []),
 (⟨some 41, none, .mksl 1 1 [.d (.int 0)] [(0, 1, (.t 40))]⟩, []),
 (⟨some 42, none, .app 1 8 [.d (.int 0)] (.t 39) (.t 41)⟩, []),
 (⟨some 43, none, .mv (.t 1)⟩, []),
 (⟨some 44, none, .idx 3 (.t 43) (.c (.d (.int 0)))⟩, []),
 (⟨some 45, none, .fld 1 (.t 44)⟩, []),
 (⟨some 46, none, .ld (.t 45)⟩, []),
 (⟨some 47, none, .call 18 [(.t 46)]⟩, []),
 (⟨some 48, none, .mv (.t 1)⟩, []),
 (⟨some 49, none, .len (.t 48)⟩, []),
 (⟨some 50, none, .mksl 1 1 [.d (.int 0)] [(0, 1, (.t 49))]⟩, []),
 (⟨some 51, none, .app 1 8 [.d (.int 0)] (.t 47) (.t 50)⟩, []),
 (⟨some 52, none, .agg [.nil, .nil, .nil] [(0, 1, (.t 42)), (1, 1, (.t 51))]⟩, []),
 (⟨some 8, none, .zer [.nil, .nil, .nil]⟩, [])]
 [⟨none, none, .st 3 (.t 8) (.t 52)⟩]) (
 .seq (
 .reg [⟨some 53, none, .mksl 3 0 [.nil, .nil, .nil] []⟩,
 ⟨some 9, none, .mv (.t 53)⟩]) (
 .seq (
 .seq (
 .reg [⟨some 54, none, .mv (.t 1)⟩,
 ⟨some 55, none, .len (.t 54)⟩,
 ⟨some 56, none, .mv (.c (.d (.int 0)))⟩]) (
 .block 0 (
 .loop L2_spec_StackTensors))) (
 .seq (
 .seq (
 .reg [⟨some 77, none, .ldn 3 (.t 8)⟩,
 ⟨some 78, none, .call 20 [(.t 77)]⟩,
 ⟨some 79, none, .bin .lss (.t 78) (.c (.d (.int 0)))⟩]) (
 .cond (.t 79) (
 .seq (
 .reg [⟨some 80, none, .agg [.nil, .nil, .nil] []⟩,
 ⟨none, none, .st 3 (.t 6) (.t 80)⟩,
 ⟨some 7, none, .mv (.c (.d (.bool false)))⟩]) (
 .ret)) (
 .skip))) (
 .seq (
 .seq (
 .reg [⟨some 14, none, .mv (.c (.d (.int 0)))⟩]) (
 .block 2 (
 .loop L1_spec_StackTensors))) (
 .seq (
 .reg [⟨some 105, none, .ldn 3 (.t 8)⟩,
 ⟨none, none, .st 3 (.t 6) (.t 105)⟩,
 ⟨some 7, none, .mv (.c (.d (.bool true)))⟩]) (
 .ret)))))))),
 [.cell 6 3, .t 7]⟩

theorem k_spec_StackTensors : cFunK Try.prog Try.f5 = some C_spec_StackTensors.erase := by kernel_rfl

def L0_impl_StackTensors : C :=
 .seq (
 .reg [⟨some 100, none, .bin .lss (.t 99) (.t 98)⟩]) (
 .seq (
 .cond (.t 100) (
 .skip) (
 .exit 4)) (
 .seq (
 .block 5 (
 .seq (
 .reg [⟨some 101, none, .idx 3 (.t 97) (.t 99)⟩,
 ⟨some 102, none, .ldn 3 (.t 101)⟩,
 ⟨some 16, none, .zer [.nil, .nil, .nil]⟩,
 ⟨none, none, .st 3 (.t 16) (.t 102)⟩]) (
 .draw [⟨some 103, none, .fld 2 (.t 13)⟩,
 ⟨some 104, none, .ld (.t 103)⟩,
 ⟨some 105, none, .ldn 3 (.t 3)⟩,
 ⟨some 106, none, .ldn 3 (.t 16)⟩,
 ⟨some 107, none, .mv (.t 14)⟩,
 ⟨some 108, none, .call 30 [(.t 105), (.t 106), (.t 107)]⟩]
 [⟨some 109, none, .app 1 8 [.d (.int 0)] (.t 104) (.t 108)⟩,
 ⟨some 110, none, .fld 2 (.t 13)⟩,
 ⟨none, none, .st 1 (.t 110) (.t 109)⟩]))) (
 .reg [⟨some 111, none, .bin .add (.t 99) (.c (.d (.int 1)))⟩,
 ⟨some 99, none, .mv (.t 111)⟩])))

def L1_impl_StackTensors : C :=
 .seq (
 .seq (
 .reg [⟨some 88, none, .mv (.t 14)⟩,
 ⟨some 89, none, .mv (.t 1)⟩,
 ⟨some 90, none, .idx 3 (.t 89) (.c (.d (.int 0)))⟩,
 ⟨some 91, none, .fld 1 (.t 90)⟩,
 ⟨some 92, none, .ld (.t 91)⟩,
 ⟨some 93, none, .call 29 [(.t 92)]⟩,
 ⟨some 94, none, .bin .lss (.t 88) (.t 93)⟩]) (
 .cond (.t 94) (
 .skip) (
 .exit 2))) (
 .seq (
 .block 3 (
 .seq (
 .reg [⟨some 97, none, .mv (.t 8)⟩,
 ⟨some 98, none, .len (.t 97)⟩,
 ⟨some 99, none, .mv (.c (.d (.int 0)))⟩]) (
 .block 4 (
 .loop L0_impl_StackTensors)))) (
 .reg [⟨some 95, none, .mv (.t 14)⟩,
 ⟨some 96, none, .bin .add (.t 95) (.c (.d (.int 1)))⟩,
 ⟨some 14, none, .mv (.t 96)⟩]))

def L2_impl_StackTensors : C :=
 .seq (
 .reg [⟨some 45, none, .bin .lss (.t 44) (.t 43)⟩]) (
 .seq (
 .cond (.t 45) (
 .skip) (
 .exit 0)) (
 .seq (
 .block 1 (
 .seq (
 .reg [⟨some 46, none, .mv (.t 44)⟩,
 ⟨some 47, none, .idx 3 (.t 42) (.t 44)⟩,
 ⟨some 48, none, .ldn 3 (.t 47)⟩,
 ⟨some 10, none, .zer [.nil, .nil, .nil]⟩,
 ⟨some 9, none, .mv (.t 46)⟩,
 ⟨none, none, .st 3 (.t 10) (.t 48)⟩]) (
 .seq (
 .draw [⟨some 50, none, .ldn 3 (.t 3)⟩,
 ⟨some 51, none, .mv (.t 1)⟩,
 ⟨some 52, none, .idx 3 (.t 51) (.c (.d (.int 0)))⟩,
 ⟨some 53, none, .ldn 3 (.t 52)⟩,
 ⟨some 54, none, .ldn 3 (.t 10)⟩,
 ⟨some 55, none, .call 26 [(.t 50), (.t 53), (.t 54)]⟩,
 ⟨some 49, none, .mv (.t 55)⟩,
 ⟨some 56, none, .ext 0 (.t 49)⟩,
 ⟨some 57, none, .ext 1 (.t 49)⟩,
 ⟨some 11, none, .zer [.nil, .nil, .nil]⟩]
 [⟨none, none, .st 3 (.t 11) (.t 56)⟩,
 ⟨some 12, none, .mv (.t 57)⟩]) (
 .seq (
 .seq (
 .reg [⟨some 58, none, .mv (.t 12)⟩,
 ⟨some 59, none, .not (.t 58)⟩]) (
 .cond (.t 59) (
 .seq (
 .reg [⟨some 60, none, .agg [.nil, .nil, .nil] []⟩,
 ⟨none, none, .st 3 (.t 6) (.t 60)⟩,
 ⟨some 7, none, .mv (.c (.d (.bool false)))⟩]) (
 .ret)) (
 .skip))) (
 .reg [⟨some 61, none, .mv (.t 8)⟩,
 ⟨some 62, none, .mv (.t 9)⟩,
 ⟨some 63, none, .ldn 3 (.t 11)⟩,
 ⟨some 64, none, .idx 3 (.t 61) (.t 62)⟩,
 ⟨none, none, .st 3 (.t 64) (.t 63)⟩]))))) (
 .reg [⟨some 65, none, .bin .add (.t 44) (.c (.d (.int 1)))⟩,
 ⟨some 44, none, .mv (.t 65)⟩])))

def C_impl_StackTensors : Fun := ⟨3, 113,
 .seq (
 .reg [⟨some 3, none, .box (.t 0)⟩,
 ⟨some 6, none, .zer [.nil, .nil, .nil]⟩,
 ⟨some 7, none, .mv (.c (.d (.bool false)))⟩]) (
 .seq (
 .seq (
 .draw [⟨some 17, none, .ldn 3 (.t 3)⟩,
 ⟨some 18, none, .call 24 [(.t 17)]⟩,
 ⟨some 19, none, .not (.t 18)⟩,
 ⟨some 20, none, .mv (.t 19)⟩,
 ⟨some 21, some (20, false), .mv (.t 1)⟩,
 ⟨some 22, some (20, false), .len (.t 21)⟩,
 ⟨some 23, some (20, false), .bin .lss (.t 22) (.c (.d (.int 1)))⟩,
 ⟨some 24, none, .pick (.t 20) (.c (.d (.bool true))) (.t 23)⟩,
 ⟨some 25, none, .mv (.t 24)⟩,
 ⟨some 26, some (25, false), .mv (.t 1)⟩,
 ⟨some 27, some (25, false), .len (.t 26)⟩,
 ⟨some 28, some (25, false), .bin .gtr (.t 27) (.c (.d (.int 8)))⟩,
 ⟨some 29, none, .pick (.t 25) (.c (.d (.bool true))) (.t 28)⟩,
 ⟨some 30, none, .mv (.t 29)⟩,
 ⟨some 31, some (30, false), .ldn 3 (.t 3)⟩,
 ⟨some 32, some (30, false), .mv (.t 1)⟩,
 ⟨some 33, some (30, false), .idx 3 (.t 32) (.c (.d (.int 0)))⟩,
 ⟨some 34, some (30, false), .ldn 3 (.t 33)⟩]
 [⟨some 35, some (30, false), .call 25 [(.t 31), (.t 34)]⟩,
 ⟨some 36, some (30, false), .not (.t 35)⟩,
 ⟨some 37, none, .pick (.t 30) (.c (.d (.bool true))) (.t 36)⟩]) (
 .cond (.t 37) (
 .seq (
 .reg [⟨some 38, none, .agg [.nil, .nil, .nil] []⟩,
 ⟨none, none, .st 3 (.t 6) (.t 38)⟩,
 ⟨some 7, none, .mv (.c (.d (.bool false)))⟩]) (
 .ret)) (
 .skip))) (
 .seq (
 .reg [⟨some 39, none, .mv (.t 1)⟩,
 ⟨some 40, none, .len (.t 39)⟩,
 ⟨some 41, none, .make 3 72 [.nil, .nil, .nil] (.t 40) (.t 40)⟩,
 ⟨some 8, none, .mv (.t 41)⟩]) (
 .seq (
 .seq (
 .reg [⟨some 42, none, .mv (.t 1)⟩,
 ⟨some 43, none, .len (.t 42)⟩,
 ⟨some 44, none, .mv (.c (.d (.int 0)))⟩]) (
 .block 0 (
 .loop L2_impl_StackTensors))) (
 .seq (
 .drawK [(⟨some 66, none, .mv (.t 1)⟩, []),
 (⟨some 67, none, .idx 3 (.t 66) (.c (.d (.int 0)))⟩, []),
 (⟨some 68, none, .fld 0 (.t 67)⟩, []),
 (⟨some 69, none, .ld (.t 68)⟩, []),
 (⟨some 70, none, .call 27 [(.t 69)]⟩, []),
 (⟨some 71, none, .mv (.t 2)⟩, []),
 (⟨some 72, none, .mksl 1 1 [.d (.int 0)] [(0, 1, (.t 71))]⟩, []),
 (⟨some 73, none, .app 1 8 [.d (.int 0)] (.t 70) (.t 72)⟩, []),
 (⟨some 74, none, .mv (.t 1)⟩, []),
 (⟨some 75, none, .idx 3 (.t 74) (.c (.d (.int 0)))⟩, []),
 (⟨some 76, none, .fld 1 (.t 75)⟩, []),
 (⟨some 77, none, .ld (.t 76)⟩, []),
 (⟨some 78, none, .call 27 [(.t 77)]⟩, []),
 (⟨some 79, none, .mv (.t 1)⟩, []),
 (⟨some 80, none, .len (.t 79)⟩, []),
 (⟨some 81, none, .mksl 1 1 [.d (.int 0)] [(0, 1, (.t 80))]⟩, []),
 (⟨some 82, none, .app 1 8 [.d (.int 0)] (.t 78) (.t 81)⟩, []),
 (⟨some 83, none, .agg [.nil, .nil, .nil] [(0, 1, (.t 73)), (1, 1, (.t 82))]⟩, []),
 (⟨some 13, none, .zer [.nil, .nil, .nil]⟩, [])]
 [⟨none, none, .st 3 (.t 13) (.t 83)⟩]) (
 .seq (
 .seq (
 .reg [⟨some 84, none, .ldn 3 (.t 13)⟩,
 ⟨some 85, none, .call 28 [(.t 84)]⟩,
 ⟨some 86, none, .bin .eql (.t 85) (.c (.d (.int (-1))))⟩]) (
 .cond (.t 86) (
 .seq (
 .reg [⟨some 87, none, .agg [.nil, .nil, .nil] []⟩,
 ⟨none, none, .st 3 (.t 6) (.t 87)⟩,
 ⟨some 7, none, .mv (.c (.d (.bool false)))⟩]) (
 .ret)) (
 .skip))) (
 .seq (
 .seq (
 .reg [⟨some 14, none, .mv (.c (.d (.int 0)))⟩]) (
 .block 2 (
 .loop L1_impl_StackTensors))) (
 .seq (
 .reg [⟨some 112, none, .ldn 3 (.t 13)⟩,
 ⟨none, none, .st 3 (.t 6) (.t 112)⟩,
 ⟨some 7, none, .mv (.c (.d (.bool true)))⟩]) (
 .ret)))))))),
 [.cell 6 3, .t 7]⟩

theorem k_impl_StackTensors : cFunK Try.prog Try.f8 = some C_impl_StackTensors.erase := by kernel_rfl
end Go.Proofs.Ytmggkcifakbfeaa

/-
  The compiled code of functions of the seat (written by mkcode.py). No condition.
-/
namespace Go.Proofs.Ytmggkcifakbfeaa
open Go.Lift

def C_spec_l07Fits : Fun := ⟨3, 39,
 .seq (
 .reg [⟨some 3, none, .box (.t 0)⟩,
 ⟨some 4, none, .box (.t 1)⟩,
 ⟨some 5, none, .box (.t 2)⟩,
 ⟨some 6, none, .zer [.nil, .nil, .nil]⟩,
 ⟨some 7, none, .mv (.c (.d (.bool false)))⟩]) (
 .seq (
 .seq (
 .reg [⟨some 9, none, .ldn 3 (.t 3)⟩,
 ⟨some 10, none, .ldn 3 (.t 4)⟩,
 ⟨some 11, none, .call 17 [(.t 9), (.t 10)]⟩,
 ⟨some 12, none, .not (.t 11)⟩,
 ⟨some 13, none, .mv (.t 12)⟩,
 ⟨some 14, some (13, false), .ldn 3 (.t 3)⟩,
 ⟨some 15, some (13, false), .ldn 3 (.t 5)⟩,
 ⟨some 16, some (13, false), .call 17 [(.t 14), (.t 15)]⟩,
 ⟨some 17, some (13, false), .not (.t 16)⟩,
 ⟨some 18, none, .pick (.t 13) (.c (.d (.bool true))) (.t 17)⟩,
 ⟨some 19, none, .mv (.t 18)⟩,
 ⟨some 20, some (19, false), .fld 0 (.t 4)⟩,
 ⟨some 21, some (19, false), .ld (.t 20)⟩,
 ⟨some 22, some (19, false), .fld 0 (.t 5)⟩,
 ⟨some 23, some (19, false), .ld (.t 22)⟩,
 ⟨some 24, some (19, false), .call 38 [(.t 21), (.t 23)]⟩,
 ⟨some 25, some (19, false), .not (.t 24)⟩,
 ⟨some 26, none, .pick (.t 19) (.c (.d (.bool true))) (.t 25)⟩]) (
 .cond (.t 26) (
 .seq (
 .reg [⟨some 27, none, .agg [.nil, .nil, .nil] []⟩,
 ⟨none, none, .st 3 (.t 6) (.t 27)⟩,
 ⟨some 7, none, .mv (.c (.d (.bool false)))⟩]) (
 .ret)) (
 .skip))) (
 .seq (
 .reg [⟨some 28, none, .ldn 3 (.t 3)⟩,
 ⟨some 29, none, .ldn 3 (.t 5)⟩,
 ⟨some 30, none, .fld 0 (.t 4)⟩,
 ⟨some 31, none, .ld (.t 30)⟩,
 ⟨some 32, none, .call 39 [(.t 28), (.t 29), (.t 31)]⟩,
 ⟨some 8, none, .zer [.nil, .nil, .nil]⟩,
 ⟨none, none, .st 3 (.t 8) (.t 32)⟩]) (
 .seq (
 .draw [⟨some 33, none, .ldn 3 (.t 8)⟩,
 ⟨some 34, none, .fld 1 (.t 8)⟩,
 ⟨some 35, none, .ld (.t 34)⟩,
 ⟨some 36, none, .fld 1 (.t 4)⟩,
 ⟨some 37, none, .ld (.t 36)⟩,
 ⟨some 38, none, .call 40 [(.t 35), (.t 37)]⟩]
 [⟨none, none, .st 3 (.t 6) (.t 33)⟩,
 ⟨some 7, none, .mv (.t 38)⟩]) (
 .ret)))),
 [.cell 6 3, .t 7]⟩

theorem k_spec_l07Fits : cFun Try.prog Try.f19 = some C_spec_l07Fits.erase := by kernel_rfl

def C_impl_alignTensor : Fun := ⟨3, 41,
 .seq (
 .reg [⟨some 3, none, .box (.t 0)⟩,
 ⟨some 4, none, .box (.t 1)⟩,
 ⟨some 5, none, .box (.t 2)⟩,
 ⟨some 6, none, .zer [.nil, .nil, .nil]⟩,
 ⟨some 7, none, .mv (.c (.d (.bool false)))⟩]) (
 .seq (
 .seq (
 .reg [⟨some 9, none, .ldn 3 (.t 3)⟩,
 ⟨some 10, none, .ldn 3 (.t 4)⟩,
 ⟨some 11, none, .call 25 [(.t 9), (.t 10)]⟩,
 ⟨some 12, none, .not (.t 11)⟩,
 ⟨some 13, none, .mv (.t 12)⟩,
 ⟨some 14, some (13, false), .ldn 3 (.t 3)⟩,
 ⟨some 15, some (13, false), .ldn 3 (.t 5)⟩,
 ⟨some 16, some (13, false), .call 25 [(.t 14), (.t 15)]⟩,
 ⟨some 17, some (13, false), .not (.t 16)⟩,
 ⟨some 18, none, .pick (.t 13) (.c (.d (.bool true))) (.t 17)⟩,
 ⟨some 19, none, .mv (.t 18)⟩,
 ⟨some 20, some (19, false), .fld 0 (.t 4)⟩,
 ⟨some 21, some (19, false), .ld (.t 20)⟩,
 ⟨some 22, some (19, false), .fld 0 (.t 5)⟩,
 ⟨some 23, some (19, false), .ld (.t 22)⟩,
 ⟨some 24, some (19, false), .call 46 [(.t 21), (.t 23)]⟩,
 ⟨some 25, some (19, false), .not (.t 24)⟩,
 ⟨some 26, none, .pick (.t 19) (.c (.d (.bool true))) (.t 25)⟩]) (
 .cond (.t 26) (
 .seq (
 .reg [⟨some 27, none, .agg [.nil, .nil, .nil] []⟩,
 ⟨none, none, .st 3 (.t 6) (.t 27)⟩,
 ⟨some 7, none, .mv (.c (.d (.bool false)))⟩]) (
 .ret)) (
 .skip))) (
 .seq (
 .reg [⟨some 28, none, .ldn 3 (.t 3)⟩,
 ⟨some 29, none, .ldn 3 (.t 5)⟩,
 ⟨some 30, none, .fld 0 (.t 4)⟩,
 ⟨some 31, none, .ld (.t 30)⟩,
 ⟨some 32, none, .call 47 [(.t 28), (.t 29), (.t 31)]⟩,
 ⟨some 8, none, .zer [.nil, .nil, .nil]⟩,
 ⟨none, none, .st 3 (.t 8) (.t 32)⟩]) (
 .seq (
 .seq (
 .reg [⟨some 33, none, .fld 1 (.t 4)⟩,
 ⟨some 34, none, .ld (.t 33)⟩,
 ⟨some 35, none, .fld 1 (.t 8)⟩,
 ⟨some 36, none, .ld (.t 35)⟩,
 ⟨some 37, none, .call 48 [(.t 34), (.t 36)]⟩,
 ⟨some 38, none, .not (.t 37)⟩]) (
 .cond (.t 38) (
 .seq (
 .reg [⟨some 39, none, .agg [.nil, .nil, .nil] []⟩,
 ⟨none, none, .st 3 (.t 6) (.t 39)⟩,
 ⟨some 7, none, .mv (.c (.d (.bool false)))⟩]) (
 .ret)) (
 .skip))) (
 .seq (
 .reg [⟨some 40, none, .ldn 3 (.t 8)⟩,
 ⟨none, none, .st 3 (.t 6) (.t 40)⟩,
 ⟨some 7, none, .mv (.c (.d (.bool true)))⟩]) (
 .ret))))),
 [.cell 6 3, .t 7]⟩

theorem k_impl_alignTensor : cFun Try.prog Try.f26 = some C_impl_alignTensor.erase := by kernel_rfl

def L0_spec_l06Equal : C :=
 .seq (
 .reg [⟨some 10, none, .bin .lss (.t 9) (.t 8)⟩]) (
 .seq (
 .cond (.t 10) (
 .skip) (
 .exit 0)) (
 .seq (
 .block 1 (
 .seq (
 .reg [⟨some 11, none, .mv (.t 9)⟩,
 ⟨some 12, none, .idx 1 (.t 7) (.t 9)⟩,
 ⟨some 13, none, .ld (.t 12)⟩,
 ⟨some 5, none, .mv (.t 11)⟩,
 ⟨some 6, none, .mv (.t 13)⟩]) (
 .seq (
 .reg [⟨some 14, none, .mv (.t 5)⟩,
 ⟨some 15, none, .mv (.t 1)⟩,
 ⟨some 16, none, .len (.t 15)⟩,
 ⟨some 17, none, .bin .geq (.t 14) (.t 16)⟩,
 ⟨some 18, none, .mv (.t 17)⟩,
 ⟨some 19, some (18, false), .mv (.t 1)⟩,
 ⟨some 20, some (18, false), .mv (.t 5)⟩,
 ⟨some 21, some (18, false), .idx 1 (.t 19) (.t 20)⟩,
 ⟨some 22, some (18, false), .ld (.t 21)⟩,
 ⟨some 23, some (18, false), .mv (.t 6)⟩,
 ⟨some 24, some (18, false), .bin .neq (.t 22) (.t 23)⟩,
 ⟨some 25, none, .pick (.t 18) (.c (.d (.bool true))) (.t 24)⟩]) (
 .cond (.t 25) (
 .seq (
 .reg [⟨some 4, none, .mv (.c (.d (.bool false)))⟩]) (
 .ret)) (
 .skip))))) (
 .reg [⟨some 26, none, .bin .add (.t 9) (.c (.d (.int 1)))⟩,
 ⟨some 9, none, .mv (.t 26)⟩])))

def C_spec_l06Equal : Fun := ⟨2, 32,
 .seq (
 .reg [⟨some 4, none, .mv (.c (.d (.bool false)))⟩]) (
 .seq (
 .seq (
 .reg [⟨some 7, none, .mv (.t 0)⟩,
 ⟨some 8, none, .len (.t 7)⟩,
 ⟨some 9, none, .mv (.c (.d (.int 0)))⟩]) (
 .block 0 (
 .loop L0_spec_l06Equal))) (
 .seq (
 .reg [⟨some 27, none, .mv (.t 0)⟩,
 ⟨some 28, none, .len (.t 27)⟩,
 ⟨some 29, none, .mv (.t 1)⟩,
 ⟨some 30, none, .len (.t 29)⟩,
 ⟨some 31, none, .bin .eql (.t 28) (.t 30)⟩,
 ⟨some 4, none, .mv (.t 31)⟩]) (
 .ret))),
 [.t 4]⟩

theorem k_spec_l06Equal : cFun Try.prog Try.f40 = some C_spec_l06Equal.erase := by kernel_rfl

def L0_impl_equalInts : C :=
 .seq (
 .reg [⟨some 14, none, .bin .lss (.t 13) (.t 12)⟩]) (
 .seq (
 .cond (.t 14) (
 .skip) (
 .exit 0)) (
 .seq (
 .block 1 (
 .seq (
 .reg [⟨some 15, none, .mv (.t 13)⟩,
 ⟨some 5, none, .mv (.t 15)⟩]) (
 .seq (
 .draw [⟨some 16, none, .mv (.t 0)⟩,
 ⟨some 17, none, .mv (.t 5)⟩,
 ⟨some 18, none, .idx 1 (.t 16) (.t 17)⟩,
 ⟨some 19, none, .ld (.t 18)⟩,
 ⟨some 20, none, .mv (.t 1)⟩,
 ⟨some 21, none, .mv (.t 5)⟩,
 ⟨some 22, none, .idx 1 (.t 20) (.t 21)⟩,
 ⟨some 23, none, .ld (.t 22)⟩]
 [⟨some 24, none, .bin .neq (.t 19) (.t 23)⟩]) (
 .cond (.t 24) (
 .seq (
 .reg [⟨some 4, none, .mv (.c (.d (.bool false)))⟩]) (
 .ret)) (
 .skip))))) (
 .reg [⟨some 25, none, .bin .add (.t 13) (.c (.d (.int 1)))⟩,
 ⟨some 13, none, .mv (.t 25)⟩])))

def C_impl_equalInts : Fun := ⟨2, 26,
 .seq (
 .reg [⟨some 4, none, .mv (.c (.d (.bool false)))⟩]) (
 .seq (
 .seq (
 .reg [⟨some 6, none, .mv (.t 0)⟩,
 ⟨some 7, none, .len (.t 6)⟩,
 ⟨some 8, none, .mv (.t 1)⟩,
 ⟨some 9, none, .len (.t 8)⟩,
 ⟨some 10, none, .bin .neq (.t 7) (.t 9)⟩]) (
 .cond (.t 10) (
 .seq (
 .reg [⟨some 4, none, .mv (.c (.d (.bool false)))⟩]) (
 .ret)) (
 .skip))) (
 .seq (
 .seq (
 .reg [⟨some 11, none, .mv (.t 0)⟩,
 ⟨some 12, none, .len (.t 11)⟩,
 ⟨some 13, none, .mv (.c (.d (.int 0)))⟩]) (
 .block 0 (
 .loop L0_impl_equalInts))) (
 .seq (
 .reg [⟨some 4, none, .mv (.c (.d (.bool true)))⟩]) (
 .ret)))),
 [.t 4]⟩

theorem k_impl_equalInts : cFun Try.prog Try.f48 = some C_impl_equalInts.erase := by kernel_rfl

end Go.Proofs.Ytmggkcifakbfeaa

/-
  The compiled code of functions of the seat (written by mkcode.py). No condition.
-/
namespace Go.Proofs.Ytmggkcifakbfeaa
open Go.Lift

def L0_laws_toIntS : C :=
      .seq (
      .seq (
      .reg [⟨some 8, none, .mv (.t 4)⟩,
            ⟨some 9, none, .mv (.t 0)⟩,
            ⟨some 10, none, .len (.t 9)⟩,
            ⟨some 11, none, .bin .lss (.t 8) (.t 10)⟩]) (
      .cond (.t 11) (
        .skip) (
        .exit 0))) (
      .seq (
      .block 1 (
        .reg [⟨some 14, none, .mv (.t 3)⟩,
              ⟨some 15, none, .mv (.t 4)⟩,
              ⟨some 16, none, .mv (.t 0)⟩,
              ⟨some 17, none, .mv (.t 4)⟩,
              ⟨some 18, none, .idx 1 (.t 16) (.t 17)⟩,
              ⟨some 19, none, .ld (.t 18)⟩,
              ⟨some 20, none, .idx 1 (.t 14) (.t 15)⟩,
              ⟨none, none, .st 1 (.t 20) (.t 19)⟩])) (
      .reg [⟨some 12, none, .mv (.t 4)⟩,
            ⟨some 13, none, .bin .add (.t 12) (.c (.d (.int 1)))⟩,
            ⟨some 4, none, .mv (.t 13)⟩]))

def C_laws_toIntS : Fun := ⟨1, 22,
  .seq (
  .reg [⟨some 2, none, .mv (.c (.nil))⟩]) (
  .seq (
  .reg [⟨some 5, none, .mv (.t 0)⟩,
        ⟨some 6, none, .len (.t 5)⟩,
        ⟨some 7, none, .make 1 8 [.d (.int 0)] (.t 6) (.t 6)⟩,
        ⟨some 3, none, .mv (.t 7)⟩]) (
  .seq (
  .seq (
  .reg [⟨some 4, none, .mv (.c (.d (.int 0)))⟩]) (
  .block 0 (
    .loop L0_laws_toIntS))) (
  .seq (
  .reg [⟨some 21, none, .mv (.t 3)⟩,
        ⟨some 2, none, .mv (.t 21)⟩]) (
  .ret)))),
  [.t 2]⟩

theorem k_laws_toIntS : cFun Try.prog Try.f42 = some C_laws_toIntS.erase := by kernel_rfl

def C_laws_toRing : Fun := ⟨1, 14,
  .seq (
  .reg [⟨some 1, none, .box (.t 0)⟩,
        ⟨some 2, none, .zer [.d (.int 0), .d (.int 0), .d (.int 0)]⟩]) (
  .seq (
  .reg [⟨some 3, none, .zer [.d (.int 0), .d (.int 0), .d (.int 0)]⟩]) (
  .seq (
  .reg [⟨some 4, none, .fld 0 (.t 1)⟩,
        ⟨some 5, none, .ld (.t 4)⟩,
        ⟨some 6, none, .fld 0 (.t 3)⟩,
        ⟨none, none, .st 1 (.t 6) (.t 5)⟩]) (
  .seq (
  .reg [⟨some 7, none, .fld 1 (.t 1)⟩,
        ⟨some 8, none, .ld (.t 7)⟩,
        ⟨some 9, none, .fld 1 (.t 3)⟩,
        ⟨none, none, .st 1 (.t 9) (.t 8)⟩]) (
  .seq (
  .reg [⟨some 10, none, .fld 2 (.t 1)⟩,
        ⟨some 11, none, .ld (.t 10)⟩,
        ⟨some 12, none, .fld 2 (.t 3)⟩,
        ⟨none, none, .st 1 (.t 12) (.t 11)⟩]) (
  .seq (
  .reg [⟨some 13, none, .ldn 3 (.t 3)⟩,
        ⟨none, none, .st 3 (.t 2) (.t 13)⟩]) (
  .ret)))))),
  [.cell 2 3]⟩

theorem k_laws_toRing : cFun Try.prog Try.f6 = some C_laws_toRing.erase := by kernel_rfl

def C_laws_toTensor : Fun := ⟨1, 17,
  .seq (
  .reg [⟨some 1, none, .box (.t 0)⟩,
        ⟨some 2, none, .zer [.nil, .nil, .nil]⟩]) (
  .seq (
  .reg [⟨some 3, none, .zer [.nil, .nil, .nil]⟩]) (
  .seq (
  .reg [⟨some 4, none, .fld 0 (.t 1)⟩,
        ⟨some 5, none, .ld (.t 4)⟩,
        ⟨some 6, none, .call 42 [(.t 5)]⟩,
        ⟨some 7, none, .fld 0 (.t 3)⟩,
        ⟨none, none, .st 1 (.t 7) (.t 6)⟩]) (
  .seq (
  .reg [⟨some 8, none, .fld 1 (.t 1)⟩,
        ⟨some 9, none, .ld (.t 8)⟩,
        ⟨some 10, none, .call 42 [(.t 9)]⟩,
        ⟨some 11, none, .fld 1 (.t 3)⟩,
        ⟨none, none, .st 1 (.t 11) (.t 10)⟩]) (
  .seq (
  .reg [⟨some 12, none, .fld 2 (.t 1)⟩,
        ⟨some 13, none, .ld (.t 12)⟩,
        ⟨some 14, none, .call 42 [(.t 13)]⟩,
        ⟨some 15, none, .fld 2 (.t 3)⟩,
        ⟨none, none, .st 1 (.t 15) (.t 14)⟩]) (
  .seq (
  .reg [⟨some 16, none, .ldn 3 (.t 3)⟩,
        ⟨none, none, .st 3 (.t 2) (.t 16)⟩]) (
  .ret)))))),
  [.cell 2 3]⟩

theorem k_laws_toTensor : cFun Try.prog Try.f23 = some C_laws_toTensor.erase := by kernel_rfl

def C_laws_szIntS : Fun := ⟨2, 12,
  .seq (
  .reg [⟨some 4, none, .mv (.c (.d (.int 0)))⟩]) (
  .seq (
  .reg [⟨some 5, none, .mv (.t 1)⟩,
        ⟨some 6, none, .mv (.t 0)⟩,
        ⟨some 7, none, .len (.t 6)⟩,
        ⟨some 8, none, .bin .sub (.t 5) (.t 7)⟩,
        ⟨some 1, none, .mv (.t 8)⟩]) (
  .seq (
  .seq (
  .reg [⟨some 9, none, .mv (.t 1)⟩,
        ⟨some 10, none, .bin .lss (.t 9) (.c (.d (.int 0)))⟩]) (
  .cond (.t 10) (
    .seq (
    .reg [⟨some 4, none, .mv (.c (.d (.int (-1))))⟩]) (
    .ret)) (
    .skip))) (
  .seq (
  .reg [⟨some 11, none, .mv (.t 1)⟩,
        ⟨some 4, none, .mv (.t 11)⟩]) (
  .ret)))),
  [.t 4]⟩

theorem k_laws_szIntS : cFun Try.prog Try.f34 = some C_laws_szIntS.erase := by kernel_rfl

def C_laws_szTensor : Fun := ⟨2, 24,
  .seq (
  .reg [⟨some 2, none, .box (.t 0)⟩,
        ⟨some 4, none, .mv (.c (.d (.int 0)))⟩]) (
  .seq (
  .reg [⟨some 5, none, .fld 0 (.t 2)⟩,
        ⟨some 6, none, .ld (.t 5)⟩,
        ⟨some 7, none, .mv (.t 1)⟩,
        ⟨some 8, none, .call 34 [(.t 6), (.t 7)]⟩,
        ⟨some 1, none, .mv (.t 8)⟩]) (
  .seq (
  .seq (
  .reg [⟨some 9, none, .mv (.t 1)⟩,
        ⟨some 10, none, .bin .lss (.t 9) (.c (.d (.int 0)))⟩]) (
  .cond (.t 10) (
    .seq (
    .reg [⟨some 4, none, .mv (.c (.d (.int (-1))))⟩]) (
    .ret)) (
    .skip))) (
  .seq (
  .reg [⟨some 11, none, .fld 1 (.t 2)⟩,
        ⟨some 12, none, .ld (.t 11)⟩,
        ⟨some 13, none, .mv (.t 1)⟩,
        ⟨some 14, none, .call 34 [(.t 12), (.t 13)]⟩,
        ⟨some 1, none, .mv (.t 14)⟩]) (
  .seq (
  .seq (
  .reg [⟨some 15, none, .mv (.t 1)⟩,
        ⟨some 16, none, .bin .lss (.t 15) (.c (.d (.int 0)))⟩]) (
  .cond (.t 16) (
    .seq (
    .reg [⟨some 4, none, .mv (.c (.d (.int (-1))))⟩]) (
    .ret)) (
    .skip))) (
  .seq (
  .reg [⟨some 17, none, .fld 2 (.t 2)⟩,
        ⟨some 18, none, .ld (.t 17)⟩,
        ⟨some 19, none, .mv (.t 1)⟩,
        ⟨some 20, none, .call 34 [(.t 18), (.t 19)]⟩,
        ⟨some 1, none, .mv (.t 20)⟩]) (
  .seq (
  .seq (
  .reg [⟨some 21, none, .mv (.t 1)⟩,
        ⟨some 22, none, .bin .lss (.t 21) (.c (.d (.int 0)))⟩]) (
  .cond (.t 22) (
    .seq (
    .reg [⟨some 4, none, .mv (.c (.d (.int (-1))))⟩]) (
    .ret)) (
    .skip))) (
  .seq (
  .reg [⟨some 23, none, .mv (.t 1)⟩,
        ⟨some 4, none, .mv (.t 23)⟩]) (
  .ret)))))))),
  [.t 4]⟩

theorem k_laws_szTensor : cFun Try.prog Try.f14 = some C_laws_szTensor.erase := by kernel_rfl

def L0_laws_eqIntS : C :=
      .seq (
      .seq (
      .reg [⟨some 11, none, .mv (.t 5)⟩,
            ⟨some 12, none, .mv (.t 0)⟩,
            ⟨some 13, none, .len (.t 12)⟩,
            ⟨some 14, none, .bin .lss (.t 11) (.t 13)⟩]) (
      .cond (.t 14) (
        .skip) (
        .exit 0))) (
      .seq (
      .block 1 (
        .seq (
        .draw [⟨some 17, none, .mv (.t 0)⟩,
               ⟨some 18, none, .mv (.t 5)⟩,
               ⟨some 19, none, .idx 1 (.t 17) (.t 18)⟩,
               ⟨some 20, none, .ld (.t 19)⟩,
               ⟨some 21, none, .mv (.t 1)⟩,
               ⟨some 22, none, .mv (.t 5)⟩,
               ⟨some 23, none, .idx 1 (.t 21) (.t 22)⟩,
               ⟨some 24, none, .ld (.t 23)⟩]
          [⟨some 25, none, .bin .neq (.t 20) (.t 24)⟩]) (
        .cond (.t 25) (
          .seq (
          .reg [⟨some 4, none, .mv (.c (.d (.bool false)))⟩]) (
          .ret)) (
          .skip)))) (
      .reg [⟨some 15, none, .mv (.t 5)⟩,
            ⟨some 16, none, .bin .add (.t 15) (.c (.d (.int 1)))⟩,
            ⟨some 5, none, .mv (.t 16)⟩]))

def C_laws_eqIntS : Fun := ⟨2, 26,
  .seq (
  .reg [⟨some 4, none, .mv (.c (.d (.bool false)))⟩]) (
  .seq (
  .seq (
  .reg [⟨some 6, none, .mv (.t 0)⟩,
        ⟨some 7, none, .len (.t 6)⟩,
        ⟨some 8, none, .mv (.t 1)⟩,
        ⟨some 9, none, .len (.t 8)⟩,
        ⟨some 10, none, .bin .neq (.t 7) (.t 9)⟩]) (
  .cond (.t 10) (
    .seq (
    .reg [⟨some 4, none, .mv (.c (.d (.bool false)))⟩]) (
    .ret)) (
    .skip))) (
  .seq (
  .seq (
  .reg [⟨some 5, none, .mv (.c (.d (.int 0)))⟩]) (
  .block 0 (
    .loop L0_laws_eqIntS))) (
  .seq (
  .reg [⟨some 4, none, .mv (.c (.d (.bool true)))⟩]) (
  .ret)))),
  [.t 4]⟩

theorem k_laws_eqIntS : cFun Try.prog Try.f31 = some C_laws_eqIntS.erase := by kernel_rfl

def C_laws_eqTensor : Fun := ⟨2, 23,
  .seq (
  .reg [⟨some 2, none, .box (.t 0)⟩,
        ⟨some 3, none, .box (.t 1)⟩,
        ⟨some 4, none, .mv (.c (.d (.bool false)))⟩]) (
  .seq (
  .seq (
  .reg [⟨some 5, none, .fld 0 (.t 2)⟩,
        ⟨some 6, none, .ld (.t 5)⟩,
        ⟨some 7, none, .fld 0 (.t 3)⟩,
        ⟨some 8, none, .ld (.t 7)⟩,
        ⟨some 9, none, .call 31 [(.t 6), (.t 8)]⟩,
        ⟨some 10, none, .not (.t 9)⟩]) (
  .cond (.t 10) (
    .seq (
    .reg [⟨some 4, none, .mv (.c (.d (.bool false)))⟩]) (
    .ret)) (
    .skip))) (
  .seq (
  .seq (
  .reg [⟨some 11, none, .fld 1 (.t 2)⟩,
        ⟨some 12, none, .ld (.t 11)⟩,
        ⟨some 13, none, .fld 1 (.t 3)⟩,
        ⟨some 14, none, .ld (.t 13)⟩,
        ⟨some 15, none, .call 31 [(.t 12), (.t 14)]⟩,
        ⟨some 16, none, .not (.t 15)⟩]) (
  .cond (.t 16) (
    .seq (
    .reg [⟨some 4, none, .mv (.c (.d (.bool false)))⟩]) (
    .ret)) (
    .skip))) (
  .seq (
  .seq (
  .reg [⟨some 17, none, .fld 2 (.t 2)⟩,
        ⟨some 18, none, .ld (.t 17)⟩,
        ⟨some 19, none, .fld 2 (.t 3)⟩,
        ⟨some 20, none, .ld (.t 19)⟩,
        ⟨some 21, none, .call 31 [(.t 18), (.t 20)]⟩,
        ⟨some 22, none, .not (.t 21)⟩]) (
  .cond (.t 22) (
    .seq (
    .reg [⟨some 4, none, .mv (.c (.d (.bool false)))⟩]) (
    .ret)) (
    .skip))) (
  .seq (
  .reg [⟨some 4, none, .mv (.c (.d (.bool true)))⟩]) (
  .ret))))),
  [.t 4]⟩

theorem k_laws_eqTensor : cFun Try.prog Try.f9 = some C_laws_eqTensor.erase := by kernel_rfl

def L0_laws_markIntS : C :=
      .seq (
      .seq (
      .reg [⟨some 6, none, .mv (.t 5)⟩,
            ⟨some 7, none, .mv (.t 0)⟩,
            ⟨some 8, none, .len (.t 7)⟩,
            ⟨some 9, none, .bin .lss (.t 6) (.t 8)⟩]) (
      .cond (.t 9) (
        .skip) (
        .exit 0))) (
      .seq (
      .block 1 (
        .seq (
        .reg [⟨some 12, none, .mv (.t 0)⟩,
              ⟨some 13, none, .mv (.t 5)⟩,
              ⟨some 14, none, .mv (.t 1)⟩,
              ⟨some 15, none, .idx 1 (.t 12) (.t 13)⟩,
              ⟨none, none, .st 1 (.t 15) (.t 14)⟩]) (
        .reg [⟨some 16, none, .mv (.t 1)⟩,
              ⟨some 17, none, .bin .add (.t 16) (.c (.d (.int 1)))⟩,
              ⟨some 1, none, .mv (.t 17)⟩]))) (
      .reg [⟨some 10, none, .mv (.t 5)⟩,
            ⟨some 11, none, .bin .add (.t 10) (.c (.d (.int 1)))⟩,
            ⟨some 5, none, .mv (.t 11)⟩]))

def C_laws_markIntS : Fun := ⟨2, 19,
  .seq (
  .reg [⟨some 4, none, .mv (.c (.d (.int 0)))⟩]) (
  .seq (
  .seq (
  .reg [⟨some 5, none, .mv (.c (.d (.int 0)))⟩]) (
  .block 0 (
    .loop L0_laws_markIntS))) (
  .seq (
  .reg [⟨some 18, none, .mv (.t 1)⟩,
        ⟨some 4, none, .mv (.t 18)⟩]) (
  .ret))),
  [.t 4]⟩

theorem k_laws_markIntS : cFun Try.prog Try.f32 = some C_laws_markIntS.erase := by kernel_rfl

def C_laws_markTensor : Fun := ⟨2, 18,
  .seq (
  .reg [⟨some 2, none, .box (.t 0)⟩,
        ⟨some 4, none, .mv (.c (.d (.int 0)))⟩]) (
  .seq (
  .reg [⟨some 5, none, .fld 0 (.t 2)⟩,
        ⟨some 6, none, .ld (.t 5)⟩,
        ⟨some 7, none, .mv (.t 1)⟩,
        ⟨some 8, none, .call 32 [(.t 6), (.t 7)]⟩,
        ⟨some 1, none, .mv (.t 8)⟩]) (
  .seq (
  .reg [⟨some 9, none, .fld 1 (.t 2)⟩,
        ⟨some 10, none, .ld (.t 9)⟩,
        ⟨some 11, none, .mv (.t 1)⟩,
        ⟨some 12, none, .call 32 [(.t 10), (.t 11)]⟩,
        ⟨some 1, none, .mv (.t 12)⟩]) (
  .seq (
  .reg [⟨some 13, none, .fld 2 (.t 2)⟩,
        ⟨some 14, none, .ld (.t 13)⟩,
        ⟨some 15, none, .mv (.t 1)⟩,
        ⟨some 16, none, .call 32 [(.t 14), (.t 15)]⟩,
        ⟨some 1, none, .mv (.t 16)⟩]) (
  .seq (
  .reg [⟨some 17, none, .mv (.t 1)⟩,
        ⟨some 4, none, .mv (.t 17)⟩]) (
  .ret))))),
  [.t 4]⟩

theorem k_laws_markTensor : cFun Try.prog Try.f12 = some C_laws_markTensor.erase := by kernel_rfl

def L0_laws_heldIntS : C :=
      .seq (
      .seq (
      .reg [⟨some 6, none, .mv (.t 5)⟩,
            ⟨some 7, none, .mv (.t 0)⟩,
            ⟨some 8, none, .len (.t 7)⟩,
            ⟨some 9, none, .bin .lss (.t 6) (.t 8)⟩]) (
      .cond (.t 9) (
        .skip) (
        .exit 0))) (
      .seq (
      .block 1 (
        .seq (
        .seq (
        .reg [⟨some 12, none, .mv (.t 0)⟩,
              ⟨some 13, none, .mv (.t 5)⟩,
              ⟨some 14, none, .idx 1 (.t 12) (.t 13)⟩,
              ⟨some 15, none, .ld (.t 14)⟩,
              ⟨some 16, none, .mv (.t 1)⟩,
              ⟨some 17, none, .bin .neq (.t 15) (.t 16)⟩]) (
        .cond (.t 17) (
          .seq (
          .reg [⟨some 4, none, .mv (.c (.d (.int (-1))))⟩]) (
          .ret)) (
          .skip))) (
        .reg [⟨some 18, none, .mv (.t 1)⟩,
              ⟨some 19, none, .bin .add (.t 18) (.c (.d (.int 1)))⟩,
              ⟨some 1, none, .mv (.t 19)⟩]))) (
      .reg [⟨some 10, none, .mv (.t 5)⟩,
            ⟨some 11, none, .bin .add (.t 10) (.c (.d (.int 1)))⟩,
            ⟨some 5, none, .mv (.t 11)⟩]))

def C_laws_heldIntS : Fun := ⟨2, 21,
  .seq (
  .reg [⟨some 4, none, .mv (.c (.d (.int 0)))⟩]) (
  .seq (
  .seq (
  .reg [⟨some 5, none, .mv (.c (.d (.int 0)))⟩]) (
  .block 0 (
    .loop L0_laws_heldIntS))) (
  .seq (
  .reg [⟨some 20, none, .mv (.t 1)⟩,
        ⟨some 4, none, .mv (.t 20)⟩]) (
  .ret))),
  [.t 4]⟩

theorem k_laws_heldIntS : cFun Try.prog Try.f33 = some C_laws_heldIntS.erase := by kernel_rfl

def C_impl_copyInts : Fun := ⟨1, 5,
  .seq (
  .reg [⟨some 2, none, .mv (.c (.nil))⟩]) (
  .seq (
  .reg [⟨some 3, none, .mv (.t 0)⟩,
        ⟨some 4, none, .app 1 8 [.d (.int 0)] (.c (.nil)) (.t 3)⟩,
        ⟨some 2, none, .mv (.t 4)⟩]) (
  .ret)),
  [.t 2]⟩

theorem k_impl_copyInts : cFun Try.prog Try.f27 = some C_impl_copyInts.erase := by kernel_rfl

def C_impl_rawElem : Fun := ⟨3, 20,
  .seq (
  .reg [⟨some 3, none, .box (.t 0)⟩,
        ⟨some 4, none, .box (.t 1)⟩,
        ⟨some 6, none, .mv (.c (.nil))⟩]) (
  .seq (
  .reg [⟨some 8, none, .ldn 3 (.t 3)⟩,
        ⟨some 9, none, .call 44 [(.t 8)]⟩,
        ⟨some 7, none, .mv (.t 9)⟩]) (
  .seq (
  .reg [⟨some 10, none, .fld 2 (.t 4)⟩,
        ⟨some 11, none, .ld (.t 10)⟩,
        ⟨some 12, none, .mv (.t 2)⟩,
        ⟨some 13, none, .mv (.t 7)⟩,
        ⟨some 14, none, .bin .mul (.t 12) (.t 13)⟩,
        ⟨some 15, none, .mv (.t 2)⟩,
        ⟨some 16, none, .bin .add (.t 15) (.c (.d (.int 1)))⟩,
        ⟨some 17, none, .mv (.t 7)⟩,
        ⟨some 18, none, .bin .mul (.t 16) (.t 17)⟩,
        ⟨some 19, none, .slc 1 (.t 11) (some (.t 14)) (some (.t 18))⟩,
        ⟨some 6, none, .mv (.t 19)⟩]) (
  .ret))),
  [.t 6]⟩

theorem k_impl_rawElem : cFun Try.prog Try.f30 = some C_impl_rawElem.erase := by kernel_rfl

def C_spec_l05Get : Fun := ⟨3, 23,
  .seq (
  .reg [⟨some 3, none, .box (.t 0)⟩,
        ⟨some 4, none, .box (.t 1)⟩,
        ⟨some 6, none, .mv (.c (.nil))⟩]) (
  .seq (
  .reg [⟨some 8, none, .ldn 3 (.t 3)⟩,
        ⟨some 9, none, .call 36 [(.t 8)]⟩,
        ⟨some 7, none, .mv (.t 9)⟩]) (
  .seq (
  .reg [⟨some 10, none, .mksl 1 0 [.d (.int 0)] []⟩,
        ⟨some 11, none, .fld 2 (.t 4)⟩,
        ⟨some 12, none, .ld (.t 11)⟩,
        ⟨some 13, none, .mv (.t 2)⟩,
        ⟨some 14, none, .mv (.t 7)⟩,
        ⟨some 15, none, .bin .mul (.t 13) (.t 14)⟩,
        ⟨some 16, none, .mv (.t 2)⟩,
        ⟨some 17, none, .mv (.t 7)⟩,
        ⟨some 18, none, .bin .mul (.t 16) (.t 17)⟩,
        ⟨some 19, none, .mv (.t 7)⟩,
        ⟨some 20, none, .bin .add (.t 18) (.t 19)⟩,
        ⟨some 21, none, .slc 1 (.t 12) (some (.t 15)) (some (.t 20))⟩,
        ⟨some 22, none, .app 1 8 [.d (.int 0)] (.t 10) (.t 21)⟩,
        ⟨some 6, none, .mv (.t 22)⟩]) (
  .ret))),
  [.t 6]⟩

theorem k_spec_l05Get : cFun Try.prog Try.f22 = some C_spec_l05Get.erase := by kernel_rfl

end Go.Proofs.Ytmggkcifakbfeaa

/-
  The compiled code of functions of the seat (written by mkcode.py). No condition.
-/
namespace Go.Proofs.Ytmggkcifakbfeaa
open Go.Lift

def C_laws_heldTensor : Fun := ⟨2, 24,
 .seq (
 .reg [⟨some 2, none, .box (.t 0)⟩,
 ⟨some 4, none, .mv (.c (.d (.int 0)))⟩]) (
 .seq (
 .reg [⟨some 5, none, .fld 0 (.t 2)⟩,
 ⟨some 6, none, .ld (.t 5)⟩,
 ⟨some 7, none, .mv (.t 1)⟩,
 ⟨some 8, none, .call 33 [(.t 6), (.t 7)]⟩,
 ⟨some 1, none, .mv (.t 8)⟩]) (
 .seq (
 .seq (
 .reg [⟨some 9, none, .mv (.t 1)⟩,
 ⟨some 10, none, .bin .lss (.t 9) (.c (.d (.int 0)))⟩]) (
 .cond (.t 10) (
 .seq (
 .reg [⟨some 4, none, .mv (.c (.d (.int (-1))))⟩]) (
 .ret)) (
 .skip))) (
 .seq (
 .reg [⟨some 11, none, .fld 1 (.t 2)⟩,
 ⟨some 12, none, .ld (.t 11)⟩,
 ⟨some 13, none, .mv (.t 1)⟩,
 ⟨some 14, none, .call 33 [(.t 12), (.t 13)]⟩,
 ⟨some 1, none, .mv (.t 14)⟩]) (
 .seq (
 .seq (
 .reg [⟨some 15, none, .mv (.t 1)⟩,
 ⟨some 16, none, .bin .lss (.t 15) (.c (.d (.int 0)))⟩]) (
 .cond (.t 16) (
 .seq (
 .reg [⟨some 4, none, .mv (.c (.d (.int (-1))))⟩]) (
 .ret)) (
 .skip))) (
 .seq (
 .reg [⟨some 17, none, .fld 2 (.t 2)⟩,
 ⟨some 18, none, .ld (.t 17)⟩,
 ⟨some 19, none, .mv (.t 1)⟩,
 ⟨some 20, none, .call 33 [(.t 18), (.t 19)]⟩,
 ⟨some 1, none, .mv (.t 20)⟩]) (
 .seq (
 .seq (
 .reg [⟨some 21, none, .mv (.t 1)⟩,
 ⟨some 22, none, .bin .lss (.t 21) (.c (.d (.int 0)))⟩]) (
 .cond (.t 22) (
 .seq (
 .reg [⟨some 4, none, .mv (.c (.d (.int (-1))))⟩]) (
 .ret)) (
 .skip))) (
 .seq (
 .reg [⟨some 23, none, .mv (.t 1)⟩,
 ⟨some 4, none, .mv (.t 23)⟩]) (
 .ret)))))))),
 [.t 4]⟩

theorem k_laws_heldTensor : cFun Try.prog Try.f13 = some C_laws_heldTensor.erase := by kernel_rfl

def L0_spec_l05Product : C :=
 .seq (
 .reg [⟨some 11, none, .bin .lss (.t 10) (.t 9)⟩]) (
 .seq (
 .cond (.t 11) (
 .skip) (
 .exit 0)) (
 .seq (
 .block 1 (
 .seq (
 .reg [⟨some 12, none, .idx 1 (.t 8) (.t 10)⟩,
 ⟨some 13, none, .ld (.t 12)⟩,
 ⟨some 7, none, .mv (.t 13)⟩]) (
 .reg [⟨some 14, none, .mv (.t 5)⟩,
 ⟨some 15, none, .mv (.t 7)⟩,
 ⟨some 16, none, .bin .mul (.t 14) (.t 15)⟩,
 ⟨some 17, none, .mv (.t 1)⟩,
 ⟨some 18, none, .bin .add (.t 17) (.c (.d (.int 1)))⟩,
 ⟨some 19, none, .mnx false (.t 16) (.t 18)⟩,
 ⟨some 5, none, .mv (.t 19)⟩]))) (
 .reg [⟨some 20, none, .bin .add (.t 10) (.c (.d (.int 1)))⟩,
 ⟨some 10, none, .mv (.t 20)⟩])))

def C_spec_l05Product : Fun := ⟨2, 22,
 .seq (
 .reg [⟨some 4, none, .mv (.c (.d (.int 0)))⟩]) (
 .seq (
 .reg [⟨some 5, none, .mv (.c (.d (.int 1)))⟩]) (
 .seq (
 .seq (
 .reg [⟨some 8, none, .mv (.t 0)⟩,
 ⟨some 9, none, .len (.t 8)⟩,
 ⟨some 10, none, .mv (.c (.d (.int 0)))⟩]) (
 .block 0 (
 .loop L0_spec_l05Product))) (
 .seq (
 .reg [⟨some 21, none, .mv (.t 5)⟩,
 ⟨some 4, none, .mv (.t 21)⟩]) (
 .ret)))),
 [.t 4]⟩

theorem k_spec_l05Product : cFun Try.prog Try.f21 = some C_spec_l05Product.erase := by kernel_rfl

def L0_impl_hasInt : C :=
 .seq (
 .reg [⟨some 10, none, .bin .lss (.t 9) (.t 8)⟩]) (
 .seq (
 .cond (.t 10) (
 .skip) (
 .exit 0)) (
 .seq (
 .block 1 (
 .seq (
 .reg [⟨some 11, none, .idx 1 (.t 7) (.t 9)⟩,
 ⟨some 12, none, .ld (.t 11)⟩,
 ⟨some 6, none, .mv (.t 12)⟩]) (
 .seq (
 .reg [⟨some 13, none, .mv (.t 1)⟩,
 ⟨some 14, none, .mv (.t 6)⟩,
 ⟨some 15, none, .bin .eql (.t 13) (.t 14)⟩]) (
 .cond (.t 15) (
 .seq (
 .reg [⟨some 4, none, .mv (.c (.d (.bool true)))⟩]) (
 .ret)) (
 .skip))))) (
 .reg [⟨some 16, none, .bin .add (.t 9) (.c (.d (.int 1)))⟩,
 ⟨some 9, none, .mv (.t 16)⟩])))

def C_impl_hasInt : Fun := ⟨2, 17,
 .seq (
 .reg [⟨some 4, none, .mv (.c (.d (.bool false)))⟩]) (
 .seq (
 .seq (
 .reg [⟨some 7, none, .mv (.t 0)⟩,
 ⟨some 8, none, .len (.t 7)⟩,
 ⟨some 9, none, .mv (.c (.d (.int 0)))⟩]) (
 .block 0 (
 .loop L0_impl_hasInt))) (
 .seq (
 .reg [⟨some 4, none, .mv (.c (.d (.bool false)))⟩]) (
 .ret))),
 [.t 4]⟩

theorem k_impl_hasInt : cFun Try.prog Try.f49 = some C_impl_hasInt.erase := by kernel_rfl

def C_spec_l01In : Fun := ⟨3, 15,
 .seq (
 .reg [⟨some 6, none, .mv (.c (.d (.bool false)))⟩]) (
 .seq (
 .reg [⟨some 7, none, .mv (.t 0)⟩,
 ⟨some 8, none, .mv (.t 1)⟩,
 ⟨some 9, none, .bin .geq (.t 7) (.t 8)⟩,
 ⟨some 10, none, .mv (.t 9)⟩,
 ⟨some 11, some (10, true), .mv (.t 0)⟩,
 ⟨some 12, some (10, true), .mv (.t 2)⟩,
 ⟨some 13, some (10, true), .bin .leq (.t 11) (.t 12)⟩,
 ⟨some 14, none, .pick (.t 10) (.t 13) (.c (.d (.bool false)))⟩,
 ⟨some 6, none, .mv (.t 14)⟩]) (
 .ret)),
 [.t 6]⟩

theorem k_spec_l01In : cFun Try.prog Try.f16 = some C_spec_l01In.erase := by kernel_rfl

def L0_spec_l05Index : C :=
 .seq (
 .seq (
 .reg [⟨some 13, none, .mv (.t 6)⟩,
 ⟨some 14, none, .bin .geq (.t 13) (.c (.d (.int 0)))⟩]) (
 .cond (.t 14) (
 .skip) (
 .exit 0))) (
 .seq (
 .block 1 (
 .seq (
 .reg [⟨some 17, none, .mv (.t 5)⟩,
 ⟨some 18, none, .mv (.t 6)⟩,
 ⟨some 19, none, .mv (.t 1)⟩,
 ⟨some 20, none, .mv (.t 0)⟩,
 ⟨some 21, none, .mv (.t 6)⟩,
 ⟨some 22, none, .idx 1 (.t 20) (.t 21)⟩,
 ⟨some 23, none, .ld (.t 22)⟩,
 ⟨some 24, none, .bin .rem (.t 19) (.t 23)⟩,
 ⟨some 25, none, .idx 1 (.t 17) (.t 18)⟩,
 ⟨none, none, .st 1 (.t 25) (.t 24)⟩]) (
 .reg [⟨some 26, none, .mv (.t 1)⟩,
 ⟨some 27, none, .mv (.t 0)⟩,
 ⟨some 28, none, .mv (.t 6)⟩,
 ⟨some 29, none, .idx 1 (.t 27) (.t 28)⟩,
 ⟨some 30, none, .ld (.t 29)⟩,
 ⟨some 31, none, .bin .quo (.t 26) (.t 30)⟩,
 ⟨some 1, none, .mv (.t 31)⟩]))) (
 .reg [⟨some 15, none, .mv (.t 6)⟩,
 ⟨some 16, none, .bin .sub (.t 15) (.c (.d (.int 1)))⟩,
 ⟨some 6, none, .mv (.t 16)⟩]))

def C_spec_l05Index : Fun := ⟨2, 33,
 .seq (
 .reg [⟨some 4, none, .mv (.c (.nil))⟩]) (
 .seq (
 .reg [⟨some 7, none, .mv (.t 0)⟩,
 ⟨some 8, none, .len (.t 7)⟩,
 ⟨some 9, none, .make 1 8 [.d (.int 0)] (.t 8) (.t 8)⟩,
 ⟨some 5, none, .mv (.t 9)⟩]) (
 .seq (
 .seq (
 .reg [⟨some 10, none, .mv (.t 0)⟩,
 ⟨some 11, none, .len (.t 10)⟩,
 ⟨some 12, none, .bin .sub (.t 11) (.c (.d (.int 1)))⟩,
 ⟨some 6, none, .mv (.t 12)⟩]) (
 .block 0 (
 .loop L0_spec_l05Index))) (
 .seq (
 .reg [⟨some 32, none, .mv (.t 5)⟩,
 ⟨some 4, none, .mv (.t 32)⟩]) (
 .ret)))),
 [.t 4]⟩

theorem k_spec_l05Index : cFun Try.prog Try.f51 = some C_spec_l05Index.erase := by kernel_rfl

def L0_impl_productOf : C :=
 .seq (
 .reg [⟨some 9, none, .bin .lss (.t 8) (.t 7)⟩]) (
 .seq (
 .cond (.t 9) (
 .skip) (
 .exit 0)) (
 .seq (
 .block 1 (
 .seq (
 .reg [⟨some 10, none, .idx 1 (.t 6) (.t 8)⟩,
 ⟨some 11, none, .ld (.t 10)⟩,
 ⟨some 5, none, .mv (.t 11)⟩]) (
 .reg [⟨some 12, none, .mv (.t 3)⟩,
 ⟨some 13, none, .mv (.t 5)⟩,
 ⟨some 14, none, .bin .mul (.t 12) (.t 13)⟩,
 ⟨some 3, none, .mv (.t 14)⟩]))) (
 .reg [⟨some 15, none, .bin .add (.t 8) (.c (.d (.int 1)))⟩,
 ⟨some 8, none, .mv (.t 15)⟩])))

def C_impl_productOf : Fun := ⟨1, 17,
 .seq (
 .reg [⟨some 2, none, .mv (.c (.d (.int 0)))⟩]) (
 .seq (
 .reg [⟨some 3, none, .mv (.c (.d (.int 1)))⟩]) (
 .seq (
 .seq (
 .reg [⟨some 6, none, .mv (.t 0)⟩,
 ⟨some 7, none, .len (.t 6)⟩,
 ⟨some 8, none, .mv (.c (.d (.int 0)))⟩]) (
 .block 0 (
 .loop L0_impl_productOf))) (
 .seq (
 .reg [⟨some 16, none, .mv (.t 3)⟩,
 ⟨some 2, none, .mv (.t 16)⟩]) (
 .ret)))),
 [.t 2]⟩

theorem k_impl_productOf : cFun Try.prog Try.f29 = some C_impl_productOf.erase := by kernel_rfl

def L0_spec_l05Find : C :=
 .seq (
 .reg [⟨some 10, none, .bin .lss (.t 9) (.t 8)⟩]) (
 .seq (
 .cond (.t 10) (
 .skip) (
 .exit 0)) (
 .seq (
 .block 1 (
 .seq (
 .reg [⟨some 11, none, .mv (.t 9)⟩,
 ⟨some 12, none, .idx 1 (.t 7) (.t 9)⟩,
 ⟨some 13, none, .ld (.t 12)⟩,
 ⟨some 5, none, .mv (.t 11)⟩,
 ⟨some 6, none, .mv (.t 13)⟩]) (
 .seq (
 .reg [⟨some 14, none, .mv (.t 6)⟩,
 ⟨some 15, none, .mv (.t 1)⟩,
 ⟨some 16, none, .bin .eql (.t 14) (.t 15)⟩]) (
 .cond (.t 16) (
 .seq (
 .reg [⟨some 17, none, .mv (.t 5)⟩,
 ⟨some 4, none, .mv (.t 17)⟩]) (
 .ret)) (
 .skip))))) (
 .reg [⟨some 18, none, .bin .add (.t 9) (.c (.d (.int 1)))⟩,
 ⟨some 9, none, .mv (.t 18)⟩])))

def C_spec_l05Find : Fun := ⟨2, 19,
 .seq (
 .reg [⟨some 4, none, .mv (.c (.d (.int 0)))⟩]) (
 .seq (
 .seq (
 .reg [⟨some 7, none, .mv (.t 0)⟩,
 ⟨some 8, none, .len (.t 7)⟩,
 ⟨some 9, none, .mv (.c (.d (.int 0)))⟩]) (
 .block 0 (
 .loop L0_spec_l05Find))) (
 .seq (
 .reg [⟨some 4, none, .mv (.c (.d (.int (-1))))⟩]) (
 .ret))),
 [.t 4]⟩

theorem k_spec_l05Find : cFun Try.prog Try.f50 = some C_spec_l05Find.erase := by kernel_rfl

def L0_impl_axisOf : C :=
 .seq (
 .reg [⟨some 11, none, .bin .lss (.t 10) (.t 9)⟩]) (
 .seq (
 .cond (.t 11) (
 .skip) (
 .exit 0)) (
 .seq (
 .block 1 (
 .seq (
 .reg [⟨some 12, none, .mv (.t 10)⟩,
 ⟨some 13, none, .idx 1 (.t 8) (.t 10)⟩,
 ⟨some 14, none, .ld (.t 13)⟩,
 ⟨some 5, none, .mv (.t 12)⟩,
 ⟨some 6, none, .mv (.t 14)⟩]) (
 .seq (
 .reg [⟨some 15, none, .mv (.t 6)⟩,
 ⟨some 16, none, .mv (.t 1)⟩,
 ⟨some 17, none, .bin .eql (.t 15) (.t 16)⟩]) (
 .cond (.t 17) (
 .seq (
 .reg [⟨some 18, none, .mv (.t 5)⟩,
 ⟨some 4, none, .mv (.t 18)⟩]) (
 .ret)) (
 .skip))))) (
 .reg [⟨some 19, none, .bin .add (.t 10) (.c (.d (.int 1)))⟩,
 ⟨some 10, none, .mv (.t 19)⟩])))

def C_impl_axisOf : Fun := ⟨2, 20,
 .seq (
 .reg [⟨some 2, none, .box (.t 0)⟩,
 ⟨some 4, none, .mv (.c (.d (.int 0)))⟩]) (
 .seq (
 .seq (
 .reg [⟨some 7, none, .fld 0 (.t 2)⟩,
 ⟨some 8, none, .ld (.t 7)⟩,
 ⟨some 9, none, .len (.t 8)⟩,
 ⟨some 10, none, .mv (.c (.d (.int 0)))⟩]) (
 .block 0 (
 .loop L0_impl_axisOf))) (
 .seq (
 .reg [⟨some 4, none, .mv (.c (.d (.int (-1))))⟩]) (
 .ret))),
 [.t 4]⟩

theorem k_impl_axisOf : cFun Try.prog Try.f54 = some C_impl_axisOf.erase := by kernel_rfl

def L0_impl_stridesOf : C :=
 .seq (
 .reg [⟨some 24, none, .bin .lss (.t 23) (.t 22)⟩]) (
 .seq (
 .cond (.t 24) (
 .skip) (
 .exit 2)) (
 .seq (
 .block 3 (
 .seq (
 .reg [⟨some 25, none, .mv (.t 23)⟩,
 ⟨some 26, none, .idx 1 (.t 21) (.t 23)⟩,
 ⟨some 27, none, .ld (.t 26)⟩,
 ⟨some 8, none, .mv (.t 25)⟩,
 ⟨some 9, none, .mv (.t 27)⟩]) (
 .seq (
 .reg [⟨some 28, none, .mv (.t 9)⟩,
 ⟨some 29, none, .fld 0 (.t 2)⟩,
 ⟨some 30, none, .ld (.t 29)⟩,
 ⟨some 31, none, .mv (.t 7)⟩,
 ⟨some 32, none, .idx 1 (.t 30) (.t 31)⟩,
 ⟨some 33, none, .ld (.t 32)⟩,
 ⟨some 34, none, .bin .eql (.t 28) (.t 33)⟩]) (
 .cond (.t 34) (
 .reg [⟨some 35, none, .mv (.t 5)⟩,
 ⟨some 36, none, .mv (.t 8)⟩,
 ⟨some 37, none, .mv (.t 6)⟩,
 ⟨some 38, none, .idx 1 (.t 35) (.t 36)⟩,
 ⟨none, none, .st 1 (.t 38) (.t 37)⟩]) (
 .skip))))) (
 .reg [⟨some 39, none, .bin .add (.t 23) (.c (.d (.int 1)))⟩,
 ⟨some 23, none, .mv (.t 39)⟩])))

def L1_impl_stridesOf : C :=
 .seq (
 .seq (
 .reg [⟨some 17, none, .mv (.t 7)⟩,
 ⟨some 18, none, .bin .geq (.t 17) (.c (.d (.int 0)))⟩]) (
 .cond (.t 18) (
 .skip) (
 .exit 0))) (
 .seq (
 .block 1 (
 .seq (
 .seq (
 .reg [⟨some 21, none, .mv (.t 1)⟩,
 ⟨some 22, none, .len (.t 21)⟩,
 ⟨some 23, none, .mv (.c (.d (.int 0)))⟩]) (
 .block 2 (
 .loop L0_impl_stridesOf))) (
 .reg [⟨some 40, none, .mv (.t 6)⟩,
 ⟨some 41, none, .fld 1 (.t 2)⟩,
 ⟨some 42, none, .ld (.t 41)⟩,
 ⟨some 43, none, .mv (.t 7)⟩,
 ⟨some 44, none, .idx 1 (.t 42) (.t 43)⟩,
 ⟨some 45, none, .ld (.t 44)⟩,
 ⟨some 46, none, .bin .mul (.t 40) (.t 45)⟩,
 ⟨some 6, none, .mv (.t 46)⟩]))) (
 .reg [⟨some 19, none, .mv (.t 7)⟩,
 ⟨some 20, none, .bin .sub (.t 19) (.c (.d (.int 1)))⟩,
 ⟨some 7, none, .mv (.t 20)⟩]))

def C_impl_stridesOf : Fun := ⟨2, 48,
 .seq (
 .reg [⟨some 2, none, .box (.t 0)⟩,
 ⟨some 4, none, .mv (.c (.nil))⟩]) (
 .seq (
 .reg [⟨some 10, none, .mv (.t 1)⟩,
 ⟨some 11, none, .len (.t 10)⟩,
 ⟨some 12, none, .make 1 8 [.d (.int 0)] (.t 11) (.t 11)⟩,
 ⟨some 5, none, .mv (.t 12)⟩]) (
 .seq (
 .reg [⟨some 6, none, .mv (.c (.d (.int 1)))⟩]) (
 .seq (
 .seq (
 .reg [⟨some 13, none, .fld 1 (.t 2)⟩,
 ⟨some 14, none, .ld (.t 13)⟩,
 ⟨some 15, none, .len (.t 14)⟩,
 ⟨some 16, none, .bin .sub (.t 15) (.c (.d (.int 1)))⟩,
 ⟨some 7, none, .mv (.t 16)⟩]) (
 .block 0 (
 .loop L1_impl_stridesOf))) (
 .seq (
 .reg [⟨some 47, none, .mv (.t 5)⟩,
 ⟨some 4, none, .mv (.t 47)⟩]) (
 .ret))))),
 [.t 4]⟩

theorem k_impl_stridesOf : cFun Try.prog Try.f55 = some C_impl_stridesOf.erase := by kernel_rfl

def L0_impl_dotOf : C :=
 .seq (
 .reg [⟨some 10, none, .bin .lss (.t 9) (.t 8)⟩]) (
 .seq (
 .cond (.t 10) (
 .skip) (
 .exit 0)) (
 .seq (
 .block 1 (
 .seq (
 .reg [⟨some 11, none, .mv (.t 9)⟩,
 ⟨some 6, none, .mv (.t 11)⟩]) (
 .draw [⟨some 12, none, .mv (.t 5)⟩,
 ⟨some 13, none, .mv (.t 0)⟩,
 ⟨some 14, none, .mv (.t 6)⟩,
 ⟨some 15, none, .idx 1 (.t 13) (.t 14)⟩,
 ⟨some 16, none, .ld (.t 15)⟩,
 ⟨some 17, none, .mv (.t 1)⟩,
 ⟨some 18, none, .mv (.t 6)⟩,
 ⟨some 19, none, .idx 1 (.t 17) (.t 18)⟩,
 ⟨some 20, none, .ld (.t 19)⟩,
 ⟨some 21, none, .bin .mul (.t 16) (.t 20)⟩]
 [⟨some 22, none, .bin .add (.t 12) (.t 21)⟩,
 ⟨some 5, none, .mv (.t 22)⟩]))) (
 .reg [⟨some 23, none, .bin .add (.t 9) (.c (.d (.int 1)))⟩,
 ⟨some 9, none, .mv (.t 23)⟩])))

def C_impl_dotOf : Fun := ⟨2, 25,
 .seq (
 .reg [⟨some 4, none, .mv (.c (.d (.int 0)))⟩]) (
 .seq (
 .reg [⟨some 5, none, .mv (.c (.d (.int 0)))⟩]) (
 .seq (
 .seq (
 .reg [⟨some 7, none, .mv (.t 0)⟩,
 ⟨some 8, none, .len (.t 7)⟩,
 ⟨some 9, none, .mv (.c (.d (.int 0)))⟩]) (
 .block 0 (
 .loop L0_impl_dotOf))) (
 .seq (
 .reg [⟨some 24, none, .mv (.t 5)⟩,
 ⟨some 4, none, .mv (.t 24)⟩]) (
 .ret)))),
 [.t 4]⟩

theorem k_impl_dotOf : cFun Try.prog Try.f56 = some C_impl_dotOf.erase := by kernel_rfl

def L0_impl_nextIndex : C :=
 .seq (
 .seq (
 .reg [⟨some 9, none, .mv (.t 5)⟩,
 ⟨some 10, none, .bin .geq (.t 9) (.c (.d (.int 0)))⟩]) (
 .cond (.t 10) (
 .skip) (
 .exit 0))) (
 .seq (
 .block 1 (
 .seq (
 .reg [⟨some 13, none, .mv (.t 1)⟩,
 ⟨some 14, none, .mv (.t 5)⟩,
 ⟨some 15, none, .idx 1 (.t 13) (.t 14)⟩,
 ⟨some 16, none, .ld (.t 15)⟩,
 ⟨some 17, none, .bin .add (.t 16) (.c (.d (.int 1)))⟩,
 ⟨some 18, none, .idx 1 (.t 13) (.t 14)⟩,
 ⟨none, none, .st 1 (.t 18) (.t 17)⟩]) (
 .seq (
 .seq (
 .draw [⟨some 19, none, .mv (.t 1)⟩,
 ⟨some 20, none, .mv (.t 5)⟩,
 ⟨some 21, none, .idx 1 (.t 19) (.t 20)⟩,
 ⟨some 22, none, .ld (.t 21)⟩,
 ⟨some 23, none, .mv (.t 0)⟩,
 ⟨some 24, none, .mv (.t 5)⟩,
 ⟨some 25, none, .idx 1 (.t 23) (.t 24)⟩,
 ⟨some 26, none, .ld (.t 25)⟩]
 [⟨some 27, none, .bin .lss (.t 22) (.t 26)⟩]) (
 .cond (.t 27) (
 .seq (
 .reg [⟨some 4, none, .mv (.c (.d (.bool true)))⟩]) (
 .ret)) (
 .skip))) (
 .reg [⟨some 28, none, .mv (.t 1)⟩,
 ⟨some 29, none, .mv (.t 5)⟩,
 ⟨some 30, none, .idx 1 (.t 28) (.t 29)⟩,
 ⟨none, none, .st 1 (.t 30) (.c (.d (.int 0)))⟩])))) (
 .reg [⟨some 11, none, .mv (.t 5)⟩,
 ⟨some 12, none, .bin .sub (.t 11) (.c (.d (.int 1)))⟩,
 ⟨some 5, none, .mv (.t 12)⟩]))

def C_impl_nextIndex : Fun := ⟨2, 31,
 .seq (
 .reg [⟨some 4, none, .mv (.c (.d (.bool false)))⟩]) (
 .seq (
 .seq (
 .reg [⟨some 6, none, .mv (.t 0)⟩,
 ⟨some 7, none, .len (.t 6)⟩,
 ⟨some 8, none, .bin .sub (.t 7) (.c (.d (.int 1)))⟩,
 ⟨some 5, none, .mv (.t 8)⟩]) (
 .block 0 (
 .loop L0_impl_nextIndex))) (
 .seq (
 .reg [⟨some 4, none, .mv (.c (.d (.bool false)))⟩]) (
 .ret))),
 [.t 4]⟩

theorem k_impl_nextIndex : cFun Try.prog Try.f57 = some C_impl_nextIndex.erase := by kernel_rfl

def L0_spec_l06Set : C :=
 .seq (
 .reg [⟨some 10, none, .bin .lss (.t 9) (.t 8)⟩]) (
 .seq (
 .cond (.t 10) (
 .skip) (
 .exit 0)) (
 .seq (
 .block 1 (
 .seq (
 .reg [⟨some 11, none, .mv (.t 9)⟩,
 ⟨some 12, none, .idx 1 (.t 7) (.t 9)⟩,
 ⟨some 13, none, .ld (.t 12)⟩,
 ⟨some 5, none, .mv (.t 11)⟩,
 ⟨some 6, none, .mv (.t 13)⟩]) (
 .seq (
 .reg [⟨some 14, none, .mv (.t 0)⟩,
 ⟨some 15, none, .mv (.t 6)⟩,
 ⟨some 16, none, .call 50 [(.t 14), (.t 15)]⟩,
 ⟨some 17, none, .bin .lss (.t 16) (.c (.d (.int 0)))⟩,
 ⟨some 18, none, .mv (.t 17)⟩,
 ⟨some 19, some (18, false), .mv (.t 1)⟩,
 ⟨some 20, some (18, false), .mv (.t 5)⟩,
 ⟨some 21, some (18, false), .slc 1 (.t 19) none (some (.t 20))⟩,
 ⟨some 22, some (18, false), .mv (.t 6)⟩,
 ⟨some 23, some (18, false), .call 50 [(.t 21), (.t 22)]⟩,
 ⟨some 24, some (18, false), .bin .geq (.t 23) (.c (.d (.int 0)))⟩,
 ⟨some 25, none, .pick (.t 18) (.c (.d (.bool true))) (.t 24)⟩]) (
 .cond (.t 25) (
 .seq (
 .reg [⟨some 4, none, .mv (.c (.d (.bool false)))⟩]) (
 .ret)) (
 .skip))))) (
 .reg [⟨some 26, none, .bin .add (.t 9) (.c (.d (.int 1)))⟩,
 ⟨some 9, none, .mv (.t 26)⟩])))

def C_spec_l06Set : Fun := ⟨2, 32,
 .seq (
 .reg [⟨some 4, none, .mv (.c (.d (.bool false)))⟩]) (
 .seq (
 .seq (
 .reg [⟨some 7, none, .mv (.t 1)⟩,
 ⟨some 8, none, .len (.t 7)⟩,
 ⟨some 9, none, .mv (.c (.d (.int 0)))⟩]) (
 .block 0 (
 .loop L0_spec_l06Set))) (
 .seq (
 .reg [⟨some 27, none, .mv (.t 0)⟩,
 ⟨some 28, none, .len (.t 27)⟩,
 ⟨some 29, none, .mv (.t 1)⟩,
 ⟨some 30, none, .len (.t 29)⟩,
 ⟨some 31, none, .bin .eql (.t 28) (.t 30)⟩,
 ⟨some 4, none, .mv (.t 31)⟩]) (
 .ret))),
 [.t 4]⟩

theorem k_spec_l06Set : cFun Try.prog Try.f38 = some C_spec_l06Set.erase := by kernel_rfl

def L0_spec_l06Permute : C :=
 .seq (
 .reg [⟨some 60, none, .bin .lss (.t 59) (.t 58)⟩]) (
 .seq (
 .cond (.t 60) (
 .skip) (
 .exit 4)) (
 .seq (
 .block 5 (
 .seq (
 .reg [⟨some 61, none, .mv (.t 59)⟩,
 ⟨some 62, none, .idx 1 (.t 57) (.t 59)⟩,
 ⟨some 63, none, .ld (.t 62)⟩,
 ⟨some 15, none, .mv (.t 61)⟩,
 ⟨some 16, none, .mv (.t 63)⟩]) (
 .reg [⟨some 64, none, .mv (.t 13)⟩,
 ⟨some 65, none, .mv (.t 8)⟩,
 ⟨some 66, none, .mv (.t 15)⟩,
 ⟨some 67, none, .idx 1 (.t 65) (.t 66)⟩,
 ⟨some 68, none, .ld (.t 67)⟩,
 ⟨some 69, none, .mv (.t 16)⟩,
 ⟨some 70, none, .idx 1 (.t 64) (.t 68)⟩,
 ⟨none, none, .st 1 (.t 70) (.t 69)⟩]))) (
 .reg [⟨some 71, none, .bin .add (.t 59) (.c (.d (.int 1)))⟩,
 ⟨some 59, none, .mv (.t 71)⟩])))

def L1_spec_l06Permute : C :=
 .seq (
 .seq (
 .reg [⟨some 49, none, .mv (.t 14)⟩,
 ⟨some 50, none, .mv (.t 7)⟩,
 ⟨some 51, none, .call 21 [(.t 50), (.c (.d (.int 4096)))]⟩,
 ⟨some 52, none, .bin .lss (.t 49) (.t 51)⟩]) (
 .cond (.t 52) (
 .skip) (
 .exit 2))) (
 .seq (
 .block 3 (
 .seq (
 .seq (
 .reg [⟨some 55, none, .mv (.t 7)⟩,
 ⟨some 56, none, .mv (.t 14)⟩,
 ⟨some 57, none, .call 51 [(.t 55), (.t 56)]⟩,
 ⟨some 58, none, .len (.t 57)⟩,
 ⟨some 59, none, .mv (.c (.d (.int 0)))⟩]) (
 .block 4 (
 .loop L0_spec_l06Permute))) (
 .draw [⟨some 72, none, .fld 2 (.t 12)⟩,
 ⟨some 73, none, .ld (.t 72)⟩,
 ⟨some 74, none, .ldn 3 (.t 3)⟩,
 ⟨some 75, none, .ldn 3 (.t 4)⟩,
 ⟨some 76, none, .fld 1 (.t 4)⟩,
 ⟨some 77, none, .ld (.t 76)⟩,
 ⟨some 78, none, .mv (.t 13)⟩,
 ⟨some 79, none, .call 52 [(.t 77), (.t 78)]⟩,
 ⟨some 80, none, .call 22 [(.t 74), (.t 75), (.t 79)]⟩]
 [⟨some 81, none, .app 1 8 [.d (.int 0)] (.t 73) (.t 80)⟩,
 ⟨some 82, none, .fld 2 (.t 12)⟩,
 ⟨none, none, .st 1 (.t 82) (.t 81)⟩]))) (
 .reg [⟨some 53, none, .mv (.t 14)⟩,
 ⟨some 54, none, .bin .add (.t 53) (.c (.d (.int 1)))⟩,
 ⟨some 14, none, .mv (.t 54)⟩]))

def L2_spec_l06Permute : C :=
 .seq (
 .reg [⟨some 22, none, .bin .lss (.t 21) (.t 20)⟩]) (
 .seq (
 .cond (.t 22) (
 .skip) (
 .exit 0)) (
 .seq (
 .block 1 (
 .seq (
 .reg [⟨some 23, none, .idx 1 (.t 19) (.t 21)⟩,
 ⟨some 24, none, .ld (.t 23)⟩,
 ⟨some 10, none, .mv (.t 24)⟩]) (
 .seq (
 .reg [⟨some 25, none, .fld 0 (.t 4)⟩,
 ⟨some 26, none, .ld (.t 25)⟩,
 ⟨some 27, none, .mv (.t 10)⟩,
 ⟨some 28, none, .call 50 [(.t 26), (.t 27)]⟩,
 ⟨some 11, none, .mv (.t 28)⟩]) (
 .seq (
 .reg [⟨some 29, none, .mv (.t 8)⟩,
 ⟨some 30, none, .mv (.t 11)⟩,
 ⟨some 31, none, .mksl 1 1 [.d (.int 0)] [(0, 1, (.t 30))]⟩,
 ⟨some 32, none, .app 1 8 [.d (.int 0)] (.t 29) (.t 31)⟩,
 ⟨some 8, none, .mv (.t 32)⟩]) (
 .reg [⟨some 33, none, .mv (.t 7)⟩,
 ⟨some 34, none, .fld 1 (.t 4)⟩,
 ⟨some 35, none, .ld (.t 34)⟩,
 ⟨some 36, none, .mv (.t 11)⟩,
 ⟨some 37, none, .idx 1 (.t 35) (.t 36)⟩,
 ⟨some 38, none, .ld (.t 37)⟩,
 ⟨some 39, none, .mksl 1 1 [.d (.int 0)] [(0, 1, (.t 38))]⟩,
 ⟨some 40, none, .app 1 8 [.d (.int 0)] (.t 33) (.t 39)⟩,
 ⟨some 7, none, .mv (.t 40)⟩]))))) (
 .reg [⟨some 41, none, .bin .add (.t 21) (.c (.d (.int 1)))⟩,
 ⟨some 21, none, .mv (.t 41)⟩])))

def C_spec_l06Permute : Fun := ⟨3, 84,
 .seq (
 .reg [⟨some 3, none, .box (.t 0)⟩,
 ⟨some 4, none, .box (.t 1)⟩,
 ⟨some 6, none, .zer [.nil, .nil, .nil]⟩]) (
 .seq (
 .reg [⟨some 17, none, .mksl 1 0 [.d (.int 0)] []⟩,
 ⟨some 7, none, .mv (.t 17)⟩]) (
 .seq (
 .reg [⟨some 18, none, .mksl 1 0 [.d (.int 0)] []⟩,
 ⟨some 8, none, .mv (.t 18)⟩]) (
 .seq (
 .seq (
 .reg [⟨some 19, none, .mv (.t 2)⟩,
 ⟨some 20, none, .len (.t 19)⟩,
 ⟨some 21, none, .mv (.c (.d (.int 0)))⟩]) (
 .block 0 (
 .loop L2_spec_l06Permute))) (
 .seq (
 .reg [⟨some 42, none, .mv (.t 2)⟩,
 ⟨some 43, none, .call 18 [(.t 42)]⟩,
 ⟨some 44, none, .mv (.t 7)⟩,
 ⟨some 45, none, .agg [.nil, .nil, .nil] [(0, 1, (.t 43)), (1, 1, (.t 44))]⟩,
 ⟨some 12, none, .zer [.nil, .nil, .nil]⟩,
 ⟨none, none, .st 3 (.t 12) (.t 45)⟩]) (
 .seq (
 .reg [⟨some 46, none, .mv (.t 8)⟩,
 ⟨some 47, none, .len (.t 46)⟩,
 ⟨some 48, none, .make 1 8 [.d (.int 0)] (.t 47) (.t 47)⟩,
 ⟨some 13, none, .mv (.t 48)⟩]) (
 .seq (
 .seq (
 .reg [⟨some 14, none, .mv (.c (.d (.int 0)))⟩]) (
 .block 2 (
 .loop L1_spec_l06Permute))) (
 .seq (
 .reg [⟨some 83, none, .ldn 3 (.t 12)⟩,
 ⟨none, none, .st 3 (.t 6) (.t 83)⟩]) (
 .ret)))))))),
 [.cell 6 3]⟩

theorem k_spec_l06Permute : cFun Try.prog Try.f39 = some C_spec_l06Permute.erase := by kernel_rfl

def L0_impl_sameLabels : C :=
 .seq (
 .reg [⟨some 15, none, .bin .lss (.t 14) (.t 13)⟩]) (
 .seq (
 .cond (.t 15) (
 .skip) (
 .exit 0)) (
 .seq (
 .block 1 (
 .seq (
 .reg [⟨some 16, none, .mv (.t 14)⟩,
 ⟨some 17, none, .idx 1 (.t 12) (.t 14)⟩,
 ⟨some 18, none, .ld (.t 17)⟩,
 ⟨some 5, none, .mv (.t 16)⟩,
 ⟨some 6, none, .mv (.t 18)⟩]) (
 .seq (
 .reg [⟨some 19, none, .mv (.t 1)⟩,
 ⟨some 20, none, .mv (.t 5)⟩,
 ⟨some 21, none, .slc 1 (.t 19) none (some (.t 20))⟩,
 ⟨some 22, none, .mv (.t 6)⟩,
 ⟨some 23, none, .call 49 [(.t 21), (.t 22)]⟩,
 ⟨some 24, none, .mv (.t 23)⟩,
 ⟨some 25, some (24, false), .mv (.t 0)⟩,
 ⟨some 26, some (24, false), .mv (.t 6)⟩,
 ⟨some 27, some (24, false), .call 49 [(.t 25), (.t 26)]⟩,
 ⟨some 28, some (24, false), .not (.t 27)⟩,
 ⟨some 29, none, .pick (.t 24) (.c (.d (.bool true))) (.t 28)⟩]) (
 .cond (.t 29) (
 .seq (
 .reg [⟨some 4, none, .mv (.c (.d (.bool false)))⟩]) (
 .ret)) (
 .skip))))) (
 .reg [⟨some 30, none, .bin .add (.t 14) (.c (.d (.int 1)))⟩,
 ⟨some 14, none, .mv (.t 30)⟩])))

def C_impl_sameLabels : Fun := ⟨2, 31,
 .seq (
 .reg [⟨some 4, none, .mv (.c (.d (.bool false)))⟩]) (
 .seq (
 .seq (
 .reg [⟨some 7, none, .mv (.t 1)⟩,
 ⟨some 8, none, .len (.t 7)⟩,
 ⟨some 9, none, .mv (.t 0)⟩,
 ⟨some 10, none, .len (.t 9)⟩,
 ⟨some 11, none, .bin .neq (.t 8) (.t 10)⟩]) (
 .cond (.t 11) (
 .seq (
 .reg [⟨some 4, none, .mv (.c (.d (.bool false)))⟩]) (
 .ret)) (
 .skip))) (
 .seq (
 .seq (
 .reg [⟨some 12, none, .mv (.t 1)⟩,
 ⟨some 13, none, .len (.t 12)⟩,
 ⟨some 14, none, .mv (.c (.d (.int 0)))⟩]) (
 .block 0 (
 .loop L0_impl_sameLabels))) (
 .seq (
 .reg [⟨some 4, none, .mv (.c (.d (.bool true)))⟩]) (
 .ret)))),
 [.t 4]⟩

theorem k_impl_sameLabels : cFun Try.prog Try.f46 = some C_impl_sameLabels.erase := by kernel_rfl

def L0_impl_rawPermute : C :=
 .block 3 (
 .seq (
 .draw [⟨some 43, none, .fld 2 (.t 7)⟩,
 ⟨some 44, none, .ld (.t 43)⟩,
 ⟨some 45, none, .ldn 3 (.t 3)⟩,
 ⟨some 46, none, .ldn 3 (.t 4)⟩,
 ⟨some 47, none, .mv (.t 10)⟩,
 ⟨some 48, none, .mv (.t 11)⟩,
 ⟨some 49, none, .call 56 [(.t 47), (.t 48)]⟩,
 ⟨some 50, none, .call 30 [(.t 45), (.t 46), (.t 49)]⟩]
 [⟨some 51, none, .app 1 8 [.d (.int 0)] (.t 44) (.t 50)⟩,
 ⟨some 52, none, .fld 2 (.t 7)⟩,
 ⟨none, none, .st 1 (.t 52) (.t 51)⟩]) (
 .seq (
 .reg [⟨some 53, none, .fld 1 (.t 7)⟩,
 ⟨some 54, none, .ld (.t 53)⟩,
 ⟨some 55, none, .mv (.t 11)⟩,
 ⟨some 56, none, .call 57 [(.t 54), (.t 55)]⟩,
 ⟨some 57, none, .not (.t 56)⟩]) (
 .cond (.t 57) (
 .seq (
 .reg [⟨some 58, none, .ldn 3 (.t 7)⟩,
 ⟨none, none, .st 3 (.t 6) (.t 58)⟩]) (
 .ret)) (
 .skip))))

def L1_impl_rawPermute : C :=
 .seq (
 .reg [⟨some 21, none, .bin .lss (.t 20) (.t 19)⟩]) (
 .seq (
 .cond (.t 21) (
 .skip) (
 .exit 0)) (
 .seq (
 .block 1 (
 .seq (
 .reg [⟨some 22, none, .mv (.t 20)⟩,
 ⟨some 23, none, .idx 1 (.t 18) (.t 20)⟩,
 ⟨some 24, none, .ld (.t 23)⟩,
 ⟨some 8, none, .mv (.t 22)⟩,
 ⟨some 9, none, .mv (.t 24)⟩]) (
 .draw [⟨some 25, none, .fld 1 (.t 7)⟩,
 ⟨some 26, none, .ld (.t 25)⟩,
 ⟨some 27, none, .mv (.t 8)⟩,
 ⟨some 28, none, .fld 1 (.t 4)⟩,
 ⟨some 29, none, .ld (.t 28)⟩,
 ⟨some 30, none, .ldn 3 (.t 4)⟩,
 ⟨some 31, none, .mv (.t 9)⟩,
 ⟨some 32, none, .call 54 [(.t 30), (.t 31)]⟩,
 ⟨some 33, none, .idx 1 (.t 29) (.t 32)⟩,
 ⟨some 34, none, .ld (.t 33)⟩]
 [⟨some 35, none, .idx 1 (.t 26) (.t 27)⟩,
 ⟨none, none, .st 1 (.t 35) (.t 34)⟩]))) (
 .reg [⟨some 36, none, .bin .add (.t 20) (.c (.d (.int 1)))⟩,
 ⟨some 20, none, .mv (.t 36)⟩])))

def C_impl_rawPermute : Fun := ⟨3, 59,
 .seq (
 .reg [⟨some 3, none, .box (.t 0)⟩,
 ⟨some 4, none, .box (.t 1)⟩,
 ⟨some 6, none, .zer [.nil, .nil, .nil]⟩]) (
 .seq (
 .draw [⟨some 12, none, .mv (.t 2)⟩,
 ⟨some 13, none, .call 27 [(.t 12)]⟩,
 ⟨some 14, none, .mv (.t 2)⟩,
 ⟨some 15, none, .len (.t 14)⟩,
 ⟨some 16, none, .make 1 8 [.d (.int 0)] (.t 15) (.t 15)⟩,
 ⟨some 17, none, .agg [.nil, .nil, .nil] [(0, 1, (.t 13)), (1, 1, (.t 16))]⟩,
 ⟨some 7, none, .zer [.nil, .nil, .nil]⟩]
 [⟨none, none, .st 3 (.t 7) (.t 17)⟩]) (
 .seq (
 .seq (
 .reg [⟨some 18, none, .mv (.t 2)⟩,
 ⟨some 19, none, .len (.t 18)⟩,
 ⟨some 20, none, .mv (.c (.d (.int 0)))⟩]) (
 .block 0 (
 .loop L1_impl_rawPermute))) (
 .seq (
 .reg [⟨some 37, none, .ldn 3 (.t 4)⟩,
 ⟨some 38, none, .mv (.t 2)⟩,
 ⟨some 39, none, .call 55 [(.t 37), (.t 38)]⟩,
 ⟨some 10, none, .mv (.t 39)⟩]) (
 .seq (
 .reg [⟨some 40, none, .mv (.t 2)⟩,
 ⟨some 41, none, .len (.t 40)⟩,
 ⟨some 42, none, .make 1 8 [.d (.int 0)] (.t 41) (.t 41)⟩,
 ⟨some 11, none, .mv (.t 42)⟩]) (
 .block 2 (
 .loop L0_impl_rawPermute)))))),
 [.cell 6 3]⟩

theorem k_impl_rawPermute : cFun Try.prog Try.f47 = some C_impl_rawPermute.erase := by kernel_rfl

def C_spec_l05Ints : Fun := ⟨1, 6,
 .seq (
 .reg [⟨some 2, none, .mv (.c (.nil))⟩]) (
 .seq (
 .reg [⟨some 3, none, .mksl 1 0 [.d (.int 0)] []⟩,
 ⟨some 4, none, .mv (.t 0)⟩,
 ⟨some 5, none, .app 1 8 [.d (.int 0)] (.t 3) (.t 4)⟩,
 ⟨some 2, none, .mv (.t 5)⟩]) (
 .ret)),
 [.t 2]⟩

theorem k_spec_l05Ints : cFun Try.prog Try.f18 = some C_spec_l05Ints.erase := by kernel_rfl

end Go.Proofs.Ytmggkcifakbfeaa

/-
  The compiled code of functions of the seat (written by mkcode.py). No condition.
-/
namespace Go.Proofs.Ytmggkcifakbfeaa
open Go.Lift

end Go.Proofs.Ytmggkcifakbfeaa

/-
  The compiled code of functions of the seat (written by mkcode.py). No condition.
-/
namespace Go.Proofs.Ytmggkcifakbfeaa
open Go.Lift

def L0_laws_szTensorS : C :=
 .seq (
 .seq (
 .reg [⟨some 12, none, .mv (.t 5)⟩,
 ⟨some 13, none, .mv (.t 0)⟩,
 ⟨some 14, none, .len (.t 13)⟩,
 ⟨some 15, none, .bin .lss (.t 12) (.t 14)⟩]) (
 .cond (.t 15) (
 .skip) (
 .exit 0))) (
 .seq (
 .block 1 (
 .seq (
 .reg [⟨some 18, none, .mv (.t 0)⟩,
 ⟨some 19, none, .mv (.t 5)⟩,
 ⟨some 20, none, .idx 3 (.t 18) (.t 19)⟩,
 ⟨some 21, none, .ldn 3 (.t 20)⟩,
 ⟨some 22, none, .mv (.t 1)⟩,
 ⟨some 23, none, .call 14 [(.t 21), (.t 22)]⟩,
 ⟨some 1, none, .mv (.t 23)⟩]) (
 .seq (
 .reg [⟨some 24, none, .mv (.t 1)⟩,
 ⟨some 25, none, .bin .lss (.t 24) (.c (.d (.int 0)))⟩]) (
 .cond (.t 25) (
 .seq (
 .reg [⟨some 4, none, .mv (.c (.d (.int (-1))))⟩]) (
 .ret)) (
 .skip))))) (
 .reg [⟨some 16, none, .mv (.t 5)⟩,
 ⟨some 17, none, .bin .add (.t 16) (.c (.d (.int 1)))⟩,
 ⟨some 5, none, .mv (.t 17)⟩]))

def C_laws_szTensorS : Fun := ⟨2, 27,
 .seq (
 .reg [⟨some 4, none, .mv (.c (.d (.int 0)))⟩]) (
 .seq (
 .reg [⟨some 6, none, .mv (.t 1)⟩,
 ⟨some 7, none, .mv (.t 0)⟩,
 ⟨some 8, none, .len (.t 7)⟩,
 ⟨some 9, none, .bin .sub (.t 6) (.t 8)⟩,
 ⟨some 1, none, .mv (.t 9)⟩]) (
 .seq (
 .seq (
 .reg [⟨some 10, none, .mv (.t 1)⟩,
 ⟨some 11, none, .bin .lss (.t 10) (.c (.d (.int 0)))⟩]) (
 .cond (.t 11) (
 .seq (
 .reg [⟨some 4, none, .mv (.c (.d (.int (-1))))⟩]) (
 .ret)) (
 .skip))) (
 .seq (
 .seq (
 .reg [⟨some 5, none, .mv (.c (.d (.int 0)))⟩]) (
 .block 0 (
 .loop L0_laws_szTensorS))) (
 .seq (
 .reg [⟨some 26, none, .mv (.t 1)⟩,
 ⟨some 4, none, .mv (.t 26)⟩]) (
 .ret))))),
 [.t 4]⟩

theorem k_laws_szTensorS : cFun Try.prog Try.f4 = some C_laws_szTensorS.erase := by kernel_rfl

def L0_laws_toTensorS : C :=
 .seq (
 .seq (
 .reg [⟨some 8, none, .mv (.t 4)⟩,
 ⟨some 9, none, .mv (.t 0)⟩,
 ⟨some 10, none, .len (.t 9)⟩,
 ⟨some 11, none, .bin .lss (.t 8) (.t 10)⟩]) (
 .cond (.t 11) (
 .skip) (
 .exit 0))) (
 .seq (
 .block 1 (
 .reg [⟨some 14, none, .mv (.t 3)⟩,
 ⟨some 15, none, .mv (.t 4)⟩,
 ⟨some 16, none, .mv (.t 0)⟩,
 ⟨some 17, none, .mv (.t 4)⟩,
 ⟨some 18, none, .idx 3 (.t 16) (.t 17)⟩,
 ⟨some 19, none, .ldn 3 (.t 18)⟩,
 ⟨some 20, none, .call 23 [(.t 19)]⟩,
 ⟨some 21, none, .idx 3 (.t 14) (.t 15)⟩,
 ⟨none, none, .st 3 (.t 21) (.t 20)⟩])) (
 .reg [⟨some 12, none, .mv (.t 4)⟩,
 ⟨some 13, none, .bin .add (.t 12) (.c (.d (.int 1)))⟩,
 ⟨some 4, none, .mv (.t 13)⟩]))

def C_laws_toTensorS : Fun := ⟨1, 23,
 .seq (
 .reg [⟨some 2, none, .mv (.c (.nil))⟩]) (
 .seq (
 .reg [⟨some 5, none, .mv (.t 0)⟩,
 ⟨some 6, none, .len (.t 5)⟩,
 ⟨some 7, none, .make 3 72 [.nil, .nil, .nil] (.t 6) (.t 6)⟩,
 ⟨some 3, none, .mv (.t 7)⟩]) (
 .seq (
 .seq (
 .reg [⟨some 4, none, .mv (.c (.d (.int 0)))⟩]) (
 .block 0 (
 .loop L0_laws_toTensorS))) (
 .seq (
 .reg [⟨some 22, none, .mv (.t 3)⟩,
 ⟨some 2, none, .mv (.t 22)⟩]) (
 .ret)))),
 [.t 2]⟩

theorem k_laws_toTensorS : cFun Try.prog Try.f7 = some C_laws_toTensorS.erase := by kernel_rfl

def L0_laws_eqTensorS : C :=
 .seq (
 .seq (
 .reg [⟨some 11, none, .mv (.t 5)⟩,
 ⟨some 12, none, .mv (.t 0)⟩,
 ⟨some 13, none, .len (.t 12)⟩,
 ⟨some 14, none, .bin .lss (.t 11) (.t 13)⟩]) (
 .cond (.t 14) (
 .skip) (
 .exit 0))) (
 .seq (
 .block 1 (
 .seq (
 .draw [⟨some 17, none, .mv (.t 0)⟩,
 ⟨some 18, none, .mv (.t 5)⟩,
 ⟨some 19, none, .idx 3 (.t 17) (.t 18)⟩,
 ⟨some 20, none, .ldn 3 (.t 19)⟩,
 ⟨some 21, none, .mv (.t 1)⟩,
 ⟨some 22, none, .mv (.t 5)⟩,
 ⟨some 23, none, .idx 3 (.t 21) (.t 22)⟩,
 ⟨some 24, none, .ldn 3 (.t 23)⟩]
 [⟨some 25, none, .call 9 [(.t 20), (.t 24)]⟩,
 ⟨some 26, none, .not (.t 25)⟩]) (
 .cond (.t 26) (
 .seq (
 .reg [⟨some 4, none, .mv (.c (.d (.bool false)))⟩]) (
 .ret)) (
 .skip)))) (
 .reg [⟨some 15, none, .mv (.t 5)⟩,
 ⟨some 16, none, .bin .add (.t 15) (.c (.d (.int 1)))⟩,
 ⟨some 5, none, .mv (.t 16)⟩]))

def C_laws_eqTensorS : Fun := ⟨2, 27,
 .seq (
 .reg [⟨some 4, none, .mv (.c (.d (.bool false)))⟩]) (
 .seq (
 .seq (
 .reg [⟨some 6, none, .mv (.t 0)⟩,
 ⟨some 7, none, .len (.t 6)⟩,
 ⟨some 8, none, .mv (.t 1)⟩,
 ⟨some 9, none, .len (.t 8)⟩,
 ⟨some 10, none, .bin .neq (.t 7) (.t 9)⟩]) (
 .cond (.t 10) (
 .seq (
 .reg [⟨some 4, none, .mv (.c (.d (.bool false)))⟩]) (
 .ret)) (
 .skip))) (
 .seq (
 .seq (
 .reg [⟨some 5, none, .mv (.c (.d (.int 0)))⟩]) (
 .block 0 (
 .loop L0_laws_eqTensorS))) (
 .seq (
 .reg [⟨some 4, none, .mv (.c (.d (.bool true)))⟩]) (
 .ret)))),
 [.t 4]⟩

theorem k_laws_eqTensorS : cFun Try.prog Try.f10 = some C_laws_eqTensorS.erase := by kernel_rfl

end Go.Proofs.Ytmggkcifakbfeaa

/-
  The compiled code of functions of the seat (written by mkcode.py). No condition.
-/
namespace Go.Proofs.Ytmggkcifakbfeaa
open Go.Lift

def L0_laws_markTensorS : C :=
 .seq (
 .seq (
 .reg [⟨some 6, none, .mv (.t 5)⟩,
 ⟨some 7, none, .mv (.t 0)⟩,
 ⟨some 8, none, .len (.t 7)⟩,
 ⟨some 9, none, .bin .lss (.t 6) (.t 8)⟩]) (
 .gh (.cond (.t 9) (
 .skip) (
 .exit 0)))) (
 .seq (
 .block 1 (
 .seq (
 .reg [⟨some 12, none, .mv (.t 0)⟩,
 ⟨some 13, none, .mv (.t 5)⟩,
 ⟨some 14, none, .idx 3 (.t 12) (.t 13)⟩,
 ⟨some 15, none, .fld 0 (.t 14)⟩,
 ⟨some 16, none, .ld (.t 15)⟩,
 ⟨some 17, none, .mv (.t 1)⟩,
 ⟨some 18, none, .call 32 [(.t 16), (.t 17)]⟩,
 ⟨some 1, none, .mv (.t 18)⟩]) (
 .seq (
 .reg [⟨some 19, none, .mv (.t 0)⟩,
 ⟨some 20, none, .mv (.t 5)⟩,
 ⟨some 21, none, .idx 3 (.t 19) (.t 20)⟩,
 ⟨some 22, none, .fld 1 (.t 21)⟩,
 ⟨some 23, none, .ld (.t 22)⟩,
 ⟨some 24, none, .mv (.t 1)⟩,
 ⟨some 25, none, .call 32 [(.t 23), (.t 24)]⟩,
 ⟨some 1, none, .mv (.t 25)⟩]) (
 .reg [⟨some 26, none, .mv (.t 0)⟩,
 ⟨some 27, none, .mv (.t 5)⟩,
 ⟨some 28, none, .idx 3 (.t 26) (.t 27)⟩,
 ⟨some 29, none, .fld 2 (.t 28)⟩,
 ⟨some 30, none, .ld (.t 29)⟩,
 ⟨some 31, none, .mv (.t 1)⟩,
 ⟨some 32, none, .call 32 [(.t 30), (.t 31)]⟩,
 ⟨some 1, none, .mv (.t 32)⟩])))) (
 .reg [⟨some 10, none, .mv (.t 5)⟩,
 ⟨some 11, none, .bin .add (.t 10) (.c (.d (.int 1)))⟩,
 ⟨some 5, none, .mv (.t 11)⟩]))

def C_laws_markTensorS : Fun := ⟨2, 34,
 .seq (
 .reg [⟨some 4, none, .mv (.c (.d (.int 0)))⟩]) (
 .seq (
 .seq (
 .reg [⟨some 5, none, .mv (.c (.d (.int 0)))⟩]) (
 .block 0 (
 .loop L0_laws_markTensorS))) (
 .seq (
 .reg [⟨some 33, none, .mv (.t 1)⟩,
 ⟨some 4, none, .mv (.t 33)⟩]) (
 .ret))),
 [.t 4]⟩

theorem k_laws_markTensorS : cFun Try.prog Try.f11 = some C_laws_markTensorS.erase := by kernel_rfl

end Go.Proofs.Ytmggkcifakbfeaa
