/-
  The compiled code of functions of the seat (written by mkcode.py). No condition.
-/
import Derived.Test.YtcgnehacihjnkaaLiftE
import Derived.Test.YtcgnehacihjnkaaProg
import Derived.KernelRfl
namespace Go.Proofs.Ytcgnehacihjnkaa
open Go.Lift

def C_laws_FnExactContractPair : Fun := ⟨4, 148,
 .seq (
 .reg [⟨some 4, none, .box (.t 0)⟩,
 ⟨some 5, none, .box (.t 1)⟩,
 ⟨some 6, none, .box (.t 2)⟩,
 ⟨some 8, none, .mv (.c (.d (.bool false)))⟩]) (
 .seq (
 .seq (
 .reg [⟨some 22, none, .mv (.t 3)⟩,
 ⟨some 23, none, .len (.t 22)⟩,
 ⟨some 24, none, .bin .gtr (.t 23) (.c (.d (.int 1048576)))⟩]) (
 .cond (.t 24) (
 .seq (
 .reg [⟨some 8, none, .mv (.c (.d (.bool true)))⟩]) (
 .ret)) (
 .skip))) (
 .seq (
 .reg [⟨some 9, none, .mv (.c (.d (.int 1048576)))⟩]) (
 .seq (
 .reg [⟨some 25, none, .ldn 3 (.t 5)⟩,
 ⟨some 26, none, .mv (.t 9)⟩,
 ⟨some 27, none, .call 28 [(.t 25), (.t 26)]⟩,
 ⟨some 9, none, .mv (.t 27)⟩]) (
 .seq (
 .seq (
 .reg [⟨some 28, none, .mv (.t 9)⟩,
 ⟨some 29, none, .bin .lss (.t 28) (.c (.d (.int 0)))⟩]) (
 .cond (.t 29) (
 .seq (
 .reg [⟨some 8, none, .mv (.c (.d (.bool true)))⟩]) (
 .ret)) (
 .skip))) (
 .seq (
 .reg [⟨some 30, none, .ldn 3 (.t 6)⟩,
 ⟨some 31, none, .mv (.t 9)⟩,
 ⟨some 32, none, .call 28 [(.t 30), (.t 31)]⟩,
 ⟨some 9, none, .mv (.t 32)⟩]) (
 .seq (
 .seq (
 .reg [⟨some 33, none, .mv (.t 9)⟩,
 ⟨some 34, none, .bin .lss (.t 33) (.c (.d (.int 0)))⟩]) (
 .cond (.t 34) (
 .seq (
 .reg [⟨some 8, none, .mv (.c (.d (.bool true)))⟩]) (
 .ret)) (
 .skip))) (
 .seq (
 .draw [⟨some 36, none, .ldn 3 (.t 4)⟩,
 ⟨some 37, none, .call 30 [(.t 36)]⟩,
 ⟨some 38, none, .ldn 3 (.t 5)⟩,
 ⟨some 39, none, .call 31 [(.t 38)]⟩,
 ⟨some 40, none, .ldn 3 (.t 6)⟩,
 ⟨some 41, none, .call 31 [(.t 40)]⟩,
 ⟨some 42, none, .mv (.t 3)⟩,
 ⟨some 43, none, .call 17 [(.t 42)]⟩,
 ⟨some 44, none, .call 57 [(.t 37), (.t 39), (.t 41), (.t 43)]⟩,
 ⟨some 35, none, .mv (.t 44)⟩,
 ⟨some 45, none, .ext 0 (.t 35)⟩,
 ⟨some 46, none, .ext 1 (.t 35)⟩,
 ⟨some 10, none, .zer [.nil, .nil, .nil]⟩]
 [⟨none, none, .st 3 (.t 10) (.t 45)⟩,
 ⟨some 11, none, .mv (.t 46)⟩]) (
 .seq (
 .reg [⟨some 47, none, .ldn 3 (.t 5)⟩,
 ⟨some 48, none, .call 31 [(.t 47)]⟩,
 ⟨some 12, none, .zer [.nil, .nil, .nil]⟩,
 ⟨none, none, .st 3 (.t 12) (.t 48)⟩]) (
 .seq (
 .reg [⟨some 49, none, .ldn 3 (.t 6)⟩,
 ⟨some 50, none, .call 31 [(.t 49)]⟩,
 ⟨some 13, none, .zer [.nil, .nil, .nil]⟩,
 ⟨none, none, .st 3 (.t 13) (.t 50)⟩]) (
 .seq (
 .reg [⟨some 51, none, .mv (.t 3)⟩,
 ⟨some 52, none, .call 17 [(.t 51)]⟩,
 ⟨some 14, none, .mv (.t 52)⟩]) (
 .seq (
 .draw [⟨some 54, none, .ldn 3 (.t 4)⟩,
 ⟨some 55, none, .call 30 [(.t 54)]⟩,
 ⟨some 56, none, .ldn 3 (.t 12)⟩,
 ⟨some 57, none, .ldn 3 (.t 13)⟩,
 ⟨some 58, none, .mv (.t 14)⟩,
 ⟨some 59, none, .call 58 [(.t 55), (.t 56), (.t 57), (.t 58)]⟩,
 ⟨some 53, none, .mv (.t 59)⟩,
 ⟨some 60, none, .ext 0 (.t 53)⟩,
 ⟨some 61, none, .ext 1 (.t 53)⟩,
 ⟨some 15, none, .zer [.nil, .nil, .nil]⟩]
 [⟨none, none, .st 3 (.t 15) (.t 60)⟩,
 ⟨some 16, none, .mv (.t 61)⟩]) (
 .seq (
 .seq (
 .reg [⟨some 62, none, .ldn 3 (.t 15)⟩,
 ⟨some 63, none, .ldn 3 (.t 10)⟩,
 ⟨some 64, none, .call 33 [(.t 62), (.t 63)]⟩,
 ⟨some 65, none, .not (.t 64)⟩,
 ⟨some 66, none, .mv (.t 65)⟩,
 ⟨some 67, some (66, false), .mv (.t 16)⟩,
 ⟨some 68, some (66, false), .mv (.t 11)⟩,
 ⟨some 69, some (66, false), .binb true (.t 67) (.t 68)⟩,
 ⟨some 70, none, .pick (.t 66) (.c (.d (.bool true))) (.t 69)⟩]) (
 .cond (.t 70) (
 .seq (
 .reg [⟨some 8, none, .mv (.c (.d (.bool false)))⟩]) (
 .ret)) (
 .skip))) (
 .seq (
 .seq (
 .draw [⟨some 71, none, .ldn 3 (.t 12)⟩,
 ⟨some 72, none, .ldn 3 (.t 5)⟩,
 ⟨some 73, none, .call 31 [(.t 72)]⟩]
 [⟨some 74, none, .call 33 [(.t 71), (.t 73)]⟩,
 ⟨some 75, none, .not (.t 74)⟩]) (
 .cond (.t 75) (
 .seq (
 .reg [⟨some 8, none, .mv (.c (.d (.bool false)))⟩]) (
 .ret)) (
 .skip))) (
 .seq (
 .seq (
 .draw [⟨some 76, none, .ldn 3 (.t 13)⟩,
 ⟨some 77, none, .ldn 3 (.t 6)⟩,
 ⟨some 78, none, .call 31 [(.t 77)]⟩]
 [⟨some 79, none, .call 33 [(.t 76), (.t 78)]⟩,
 ⟨some 80, none, .not (.t 79)⟩]) (
 .cond (.t 80) (
 .seq (
 .reg [⟨some 8, none, .mv (.c (.d (.bool false)))⟩]) (
 .ret)) (
 .skip))) (
 .seq (
 .seq (
 .reg [⟨some 81, none, .mv (.t 14)⟩,
 ⟨some 82, none, .mv (.t 3)⟩,
 ⟨some 83, none, .call 17 [(.t 82)]⟩,
 ⟨some 84, none, .call 20 [(.t 81), (.t 83)]⟩,
 ⟨some 85, none, .not (.t 84)⟩]) (
 .cond (.t 85) (
 .seq (
 .reg [⟨some 8, none, .mv (.c (.d (.bool false)))⟩]) (
 .ret)) (
 .skip))) (
 .seq (
 .reg [⟨some 17, none, .mv (.c (.d (.int 1)))⟩]) (
 .seq (
 .reg [⟨some 86, none, .ldn 3 (.t 12)⟩,
 ⟨some 87, none, .mv (.t 17)⟩,
 ⟨some 88, none, .call 34 [(.t 86), (.t 87)]⟩,
 ⟨some 17, none, .mv (.t 88)⟩]) (
 .seq (
 .reg [⟨some 89, none, .ldn 3 (.t 13)⟩,
 ⟨some 90, none, .mv (.t 17)⟩,
 ⟨some 91, none, .call 34 [(.t 89), (.t 90)]⟩,
 ⟨some 17, none, .mv (.t 91)⟩]) (
 .seq (
 .reg [⟨some 92, none, .mv (.t 14)⟩,
 ⟨some 93, none, .mv (.t 17)⟩,
 ⟨some 94, none, .call 22 [(.t 92), (.t 93)]⟩,
 ⟨some 17, none, .mv (.t 94)⟩]) (
 .seq (
 .seq (
 .reg [⟨some 95, none, .mv (.t 17)⟩,
 ⟨some 96, none, .bin .lss (.t 95) (.c (.d (.int 0)))⟩,
 ⟨some 97, none, .mv (.t 96)⟩,
 ⟨some 98, some (97, false), .ldn 3 (.t 15)⟩,
 ⟨some 99, some (97, false), .ldn 3 (.t 10)⟩,
 ⟨some 100, some (97, false), .call 33 [(.t 98), (.t 99)]⟩,
 ⟨some 101, some (97, false), .not (.t 100)⟩,
 ⟨some 102, none, .pick (.t 97) (.c (.d (.bool true))) (.t 101)⟩,
 ⟨some 103, none, .mv (.t 102)⟩,
 ⟨some 104, some (103, false), .mv (.t 16)⟩,
 ⟨some 105, some (103, false), .mv (.t 11)⟩,
 ⟨some 106, some (103, false), .binb true (.t 104) (.t 105)⟩,
 ⟨some 107, none, .pick (.t 103) (.c (.d (.bool true))) (.t 106)⟩]) (
 .cond (.t 107) (
 .seq (
 .reg [⟨some 8, none, .mv (.c (.d (.bool false)))⟩]) (
 .ret)) (
 .skip))) (
 .seq (
 .reg [⟨some 18, none, .mv (.c (.d (.int 1)))⟩]) (
 .seq (
 .reg [⟨some 108, none, .ldn 3 (.t 15)⟩,
 ⟨some 109, none, .mv (.t 18)⟩,
 ⟨some 110, none, .call 34 [(.t 108), (.t 109)]⟩,
 ⟨some 18, none, .mv (.t 110)⟩]) (
 .seq (
 .reg [⟨some 19, none, .mv (.c (.d (.int 1)))⟩]) (
 .seq (
 .reg [⟨some 111, none, .ldn 3 (.t 15)⟩,
 ⟨some 112, none, .mv (.t 19)⟩,
 ⟨some 113, none, .call 35 [(.t 111), (.t 112)]⟩,
 ⟨some 19, none, .mv (.t 113)⟩]) (
 .seq (
 .seq (
 .reg [⟨some 114, none, .mv (.t 19)⟩,
 ⟨some 115, none, .bin .lss (.t 114) (.c (.d (.int 0)))⟩]) (
 .cond (.t 115) (
 .seq (
 .reg [⟨some 8, none, .mv (.c (.d (.bool false)))⟩]) (
 .ret)) (
 .skip))) (
 .seq (
 .seq (
 .reg [⟨some 116, none, .mv (.t 19)⟩,
 ⟨some 117, none, .mv (.t 18)⟩,
 ⟨some 118, none, .bin .neq (.t 116) (.t 117)⟩]) (
 .cond (.t 118) (
 .seq (
 .reg [⟨some 8, none, .mv (.c (.d (.bool false)))⟩]) (
 .ret)) (
 .skip))) (
 .seq (
 .draw [⟨some 120, none, .ldn 3 (.t 4)⟩,
 ⟨some 121, none, .call 30 [(.t 120)]⟩,
 ⟨some 122, none, .ldn 3 (.t 5)⟩,
 ⟨some 123, none, .call 31 [(.t 122)]⟩,
 ⟨some 124, none, .ldn 3 (.t 6)⟩,
 ⟨some 125, none, .call 31 [(.t 124)]⟩,
 ⟨some 126, none, .mv (.t 3)⟩,
 ⟨some 127, none, .call 17 [(.t 126)]⟩,
 ⟨some 128, none, .call 58 [(.t 121), (.t 123), (.t 125), (.t 127)]⟩,
 ⟨some 119, none, .mv (.t 128)⟩,
 ⟨some 129, none, .ext 0 (.t 119)⟩,
 ⟨some 130, none, .ext 1 (.t 119)⟩,
 ⟨some 20, none, .zer [.nil, .nil, .nil]⟩]
 [⟨none, none, .st 3 (.t 20) (.t 129)⟩,
 ⟨some 21, none, .mv (.t 130)⟩]) (
 .seq (
 .seq (
 .reg [⟨some 131, none, .ldn 3 (.t 20)⟩,
 ⟨some 132, none, .ldn 3 (.t 10)⟩,
 ⟨some 133, none, .call 33 [(.t 131), (.t 132)]⟩,
 ⟨some 134, none, .not (.t 133)⟩,
 ⟨some 135, none, .mv (.t 134)⟩,
 ⟨some 136, some (135, false), .mv (.t 21)⟩,
 ⟨some 137, some (135, false), .mv (.t 11)⟩,
 ⟨some 138, some (135, false), .binb true (.t 136) (.t 137)⟩,
 ⟨some 139, none, .pick (.t 135) (.c (.d (.bool true))) (.t 138)⟩]) (
 .cond (.t 139) (
 .seq (
 .reg [⟨some 8, none, .mv (.c (.d (.bool false)))⟩]) (
 .ret)) (
 .skip))) (
 .seq (
 .reg [⟨some 19, none, .mv (.c (.d (.int 1)))⟩]) (
 .seq (
 .reg [⟨some 140, none, .ldn 3 (.t 15)⟩,
 ⟨some 141, none, .mv (.t 19)⟩,
 ⟨some 142, none, .call 35 [(.t 140), (.t 141)]⟩,
 ⟨some 19, none, .mv (.t 142)⟩]) (
 .seq (
 .seq (
 .reg [⟨some 143, none, .mv (.t 19)⟩,
 ⟨some 144, none, .bin .lss (.t 143) (.c (.d (.int 0)))⟩]) (
 .cond (.t 144) (
 .seq (
 .reg [⟨some 8, none, .mv (.c (.d (.bool false)))⟩]) (
 .ret)) (
 .skip))) (
 .seq (
 .seq (
 .reg [⟨some 145, none, .mv (.t 19)⟩,
 ⟨some 146, none, .mv (.t 18)⟩,
 ⟨some 147, none, .bin .neq (.t 145) (.t 146)⟩]) (
 .cond (.t 147) (
 .seq (
 .reg [⟨some 8, none, .mv (.c (.d (.bool false)))⟩]) (
 .ret)) (
 .skip))) (
 .seq (
 .reg [⟨some 8, none, .mv (.c (.d (.bool true)))⟩]) (
 .ret)))))))))))))))))))))))))))))))))),
 [.t 8]⟩

theorem k_laws_FnExactContractPair : cFun Try.prog Try.f13 = some C_laws_FnExactContractPair.erase := by kernel_rfl
end Go.Proofs.Ytcgnehacihjnkaa
