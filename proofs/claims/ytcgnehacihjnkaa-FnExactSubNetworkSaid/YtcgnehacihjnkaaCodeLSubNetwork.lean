/-
  The compiled code of functions of the seat (written by mkcode.py). No condition.
-/
import Derived.Test.YtcgnehacihjnkaaLiftE
import Derived.Test.YtcgnehacihjnkaaProg
import Derived.KernelRfl
namespace Go.Proofs.Ytcgnehacihjnkaa
open Go.Lift

def C_laws_FnExactSubNetwork : Fun := ⟨2, 117,
 .seq (
 .reg [⟨some 2, none, .box (.t 0)⟩,
 ⟨some 4, none, .mv (.c (.d (.bool false)))⟩]) (
 .seq (
 .seq (
 .reg [⟨some 17, none, .mv (.t 1)⟩,
 ⟨some 18, none, .len (.t 17)⟩,
 ⟨some 19, none, .bin .gtr (.t 18) (.c (.d (.int 1048576)))⟩]) (
 .cond (.t 19) (
 .seq (
 .reg [⟨some 4, none, .mv (.c (.d (.bool true)))⟩]) (
 .ret)) (
 .skip))) (
 .seq (
 .reg [⟨some 5, none, .mv (.c (.d (.int 1048576)))⟩]) (
 .seq (
 .reg [⟨some 20, none, .ldn 5 (.t 2)⟩,
 ⟨some 21, none, .mv (.t 5)⟩,
 ⟨some 22, none, .call 14 [(.t 20), (.t 21)]⟩,
 ⟨some 5, none, .mv (.t 22)⟩]) (
 .seq (
 .seq (
 .reg [⟨some 23, none, .mv (.t 5)⟩,
 ⟨some 24, none, .bin .lss (.t 23) (.c (.d (.int 0)))⟩]) (
 .cond (.t 24) (
 .seq (
 .reg [⟨some 4, none, .mv (.c (.d (.bool true)))⟩]) (
 .ret)) (
 .skip))) (
 .seq (
 .reg [⟨some 26, none, .ldn 5 (.t 2)⟩,
 ⟨some 27, none, .call 16 [(.t 26)]⟩,
 ⟨some 28, none, .mv (.t 1)⟩,
 ⟨some 29, none, .call 17 [(.t 28)]⟩,
 ⟨some 30, none, .call 15 [(.t 27), (.t 29)]⟩,
 ⟨some 25, none, .mv (.t 30)⟩,
 ⟨some 31, none, .ext 0 (.t 25)⟩,
 ⟨some 32, none, .ext 1 (.t 25)⟩,
 ⟨some 6, none, .zer [.d (.int 0), .d (.int 0), .d (.int 0), .nil, .nil]⟩,
 ⟨none, none, .st 5 (.t 6) (.t 31)⟩,
 ⟨some 7, none, .mv (.t 32)⟩]) (
 .seq (
 .reg [⟨some 33, none, .ldn 5 (.t 2)⟩,
 ⟨some 34, none, .call 16 [(.t 33)]⟩,
 ⟨some 8, none, .zer [.d (.int 0), .d (.int 0), .d (.int 0), .nil, .nil]⟩,
 ⟨none, none, .st 5 (.t 8) (.t 34)⟩]) (
 .seq (
 .reg [⟨some 35, none, .mv (.t 1)⟩,
 ⟨some 36, none, .call 17 [(.t 35)]⟩,
 ⟨some 9, none, .mv (.t 36)⟩]) (
 .seq (
 .reg [⟨some 38, none, .ldn 5 (.t 8)⟩,
 ⟨some 39, none, .mv (.t 9)⟩,
 ⟨some 40, none, .call 18 [(.t 38), (.t 39)]⟩,
 ⟨some 37, none, .mv (.t 40)⟩,
 ⟨some 41, none, .ext 0 (.t 37)⟩,
 ⟨some 42, none, .ext 1 (.t 37)⟩,
 ⟨some 10, none, .zer [.d (.int 0), .d (.int 0), .d (.int 0), .nil, .nil]⟩,
 ⟨none, none, .st 5 (.t 10) (.t 41)⟩,
 ⟨some 11, none, .mv (.t 42)⟩]) (
 .seq (
 .seq (
 .reg [⟨some 43, none, .ldn 5 (.t 10)⟩,
 ⟨some 44, none, .ldn 5 (.t 6)⟩,
 ⟨some 45, none, .call 19 [(.t 43), (.t 44)]⟩,
 ⟨some 46, none, .not (.t 45)⟩,
 ⟨some 47, none, .mv (.t 46)⟩,
 ⟨some 48, some (47, false), .mv (.t 11)⟩,
 ⟨some 49, some (47, false), .mv (.t 7)⟩,
 ⟨some 50, some (47, false), .binb true (.t 48) (.t 49)⟩,
 ⟨some 51, none, .pick (.t 47) (.c (.d (.bool true))) (.t 50)⟩]) (
 .cond (.t 51) (
 .seq (
 .reg [⟨some 4, none, .mv (.c (.d (.bool false)))⟩]) (
 .ret)) (
 .skip))) (
 .seq (
 .seq (
 .draw [⟨some 52, none, .ldn 5 (.t 8)⟩,
 ⟨some 53, none, .ldn 5 (.t 2)⟩,
 ⟨some 54, none, .call 16 [(.t 53)]⟩]
 [⟨some 55, none, .call 19 [(.t 52), (.t 54)]⟩,
 ⟨some 56, none, .not (.t 55)⟩]) (
 .cond (.t 56) (
 .seq (
 .reg [⟨some 4, none, .mv (.c (.d (.bool false)))⟩]) (
 .ret)) (
 .skip))) (
 .seq (
 .seq (
 .reg [⟨some 57, none, .mv (.t 9)⟩,
 ⟨some 58, none, .mv (.t 1)⟩,
 ⟨some 59, none, .call 17 [(.t 58)]⟩,
 ⟨some 60, none, .call 20 [(.t 57), (.t 59)]⟩,
 ⟨some 61, none, .not (.t 60)⟩]) (
 .cond (.t 61) (
 .seq (
 .reg [⟨some 4, none, .mv (.c (.d (.bool false)))⟩]) (
 .ret)) (
 .skip))) (
 .seq (
 .reg [⟨some 12, none, .mv (.c (.d (.int 1)))⟩]) (
 .seq (
 .reg [⟨some 62, none, .ldn 5 (.t 8)⟩,
 ⟨some 63, none, .mv (.t 12)⟩,
 ⟨some 64, none, .call 21 [(.t 62), (.t 63)]⟩,
 ⟨some 12, none, .mv (.t 64)⟩]) (
 .seq (
 .reg [⟨some 65, none, .mv (.t 9)⟩,
 ⟨some 66, none, .mv (.t 12)⟩,
 ⟨some 67, none, .call 22 [(.t 65), (.t 66)]⟩,
 ⟨some 12, none, .mv (.t 67)⟩]) (
 .seq (
 .seq (
 .reg [⟨some 68, none, .mv (.t 12)⟩,
 ⟨some 69, none, .bin .lss (.t 68) (.c (.d (.int 0)))⟩,
 ⟨some 70, none, .mv (.t 69)⟩,
 ⟨some 71, some (70, false), .ldn 5 (.t 10)⟩,
 ⟨some 72, some (70, false), .ldn 5 (.t 6)⟩,
 ⟨some 73, some (70, false), .call 19 [(.t 71), (.t 72)]⟩,
 ⟨some 74, some (70, false), .not (.t 73)⟩,
 ⟨some 75, none, .pick (.t 70) (.c (.d (.bool true))) (.t 74)⟩,
 ⟨some 76, none, .mv (.t 75)⟩,
 ⟨some 77, some (76, false), .mv (.t 11)⟩,
 ⟨some 78, some (76, false), .mv (.t 7)⟩,
 ⟨some 79, some (76, false), .binb true (.t 77) (.t 78)⟩,
 ⟨some 80, none, .pick (.t 76) (.c (.d (.bool true))) (.t 79)⟩]) (
 .cond (.t 80) (
 .seq (
 .reg [⟨some 4, none, .mv (.c (.d (.bool false)))⟩]) (
 .ret)) (
 .skip))) (
 .seq (
 .reg [⟨some 13, none, .mv (.c (.d (.int 1)))⟩]) (
 .seq (
 .reg [⟨some 81, none, .ldn 5 (.t 10)⟩,
 ⟨some 82, none, .mv (.t 13)⟩,
 ⟨some 83, none, .call 21 [(.t 81), (.t 82)]⟩,
 ⟨some 13, none, .mv (.t 83)⟩]) (
 .seq (
 .reg [⟨some 14, none, .mv (.c (.d (.int 1)))⟩]) (
 .seq (
 .reg [⟨some 84, none, .ldn 5 (.t 10)⟩,
 ⟨some 85, none, .mv (.t 14)⟩,
 ⟨some 86, none, .call 23 [(.t 84), (.t 85)]⟩,
 ⟨some 14, none, .mv (.t 86)⟩]) (
 .seq (
 .seq (
 .reg [⟨some 87, none, .mv (.t 14)⟩,
 ⟨some 88, none, .bin .lss (.t 87) (.c (.d (.int 0)))⟩]) (
 .cond (.t 88) (
 .seq (
 .reg [⟨some 4, none, .mv (.c (.d (.bool false)))⟩]) (
 .ret)) (
 .skip))) (
 .seq (
 .seq (
 .reg [⟨some 89, none, .mv (.t 14)⟩,
 ⟨some 90, none, .mv (.t 13)⟩,
 ⟨some 91, none, .bin .neq (.t 89) (.t 90)⟩]) (
 .cond (.t 91) (
 .seq (
 .reg [⟨some 4, none, .mv (.c (.d (.bool false)))⟩]) (
 .ret)) (
 .skip))) (
 .seq (
 .reg [⟨some 93, none, .ldn 5 (.t 2)⟩,
 ⟨some 94, none, .call 16 [(.t 93)]⟩,
 ⟨some 95, none, .mv (.t 1)⟩,
 ⟨some 96, none, .call 17 [(.t 95)]⟩,
 ⟨some 97, none, .call 18 [(.t 94), (.t 96)]⟩,
 ⟨some 92, none, .mv (.t 97)⟩,
 ⟨some 98, none, .ext 0 (.t 92)⟩,
 ⟨some 99, none, .ext 1 (.t 92)⟩,
 ⟨some 15, none, .zer [.d (.int 0), .d (.int 0), .d (.int 0), .nil, .nil]⟩,
 ⟨none, none, .st 5 (.t 15) (.t 98)⟩,
 ⟨some 16, none, .mv (.t 99)⟩]) (
 .seq (
 .seq (
 .reg [⟨some 100, none, .ldn 5 (.t 15)⟩,
 ⟨some 101, none, .ldn 5 (.t 6)⟩,
 ⟨some 102, none, .call 19 [(.t 100), (.t 101)]⟩,
 ⟨some 103, none, .not (.t 102)⟩,
 ⟨some 104, none, .mv (.t 103)⟩,
 ⟨some 105, some (104, false), .mv (.t 16)⟩,
 ⟨some 106, some (104, false), .mv (.t 7)⟩,
 ⟨some 107, some (104, false), .binb true (.t 105) (.t 106)⟩,
 ⟨some 108, none, .pick (.t 104) (.c (.d (.bool true))) (.t 107)⟩]) (
 .cond (.t 108) (
 .seq (
 .reg [⟨some 4, none, .mv (.c (.d (.bool false)))⟩]) (
 .ret)) (
 .skip))) (
 .seq (
 .reg [⟨some 14, none, .mv (.c (.d (.int 1)))⟩]) (
 .seq (
 .reg [⟨some 109, none, .ldn 5 (.t 10)⟩,
 ⟨some 110, none, .mv (.t 14)⟩,
 ⟨some 111, none, .call 23 [(.t 109), (.t 110)]⟩,
 ⟨some 14, none, .mv (.t 111)⟩]) (
 .seq (
 .seq (
 .reg [⟨some 112, none, .mv (.t 14)⟩,
 ⟨some 113, none, .bin .lss (.t 112) (.c (.d (.int 0)))⟩]) (
 .cond (.t 113) (
 .seq (
 .reg [⟨some 4, none, .mv (.c (.d (.bool false)))⟩]) (
 .ret)) (
 .skip))) (
 .seq (
 .seq (
 .reg [⟨some 114, none, .mv (.t 14)⟩,
 ⟨some 115, none, .mv (.t 13)⟩,
 ⟨some 116, none, .bin .neq (.t 114) (.t 115)⟩]) (
 .cond (.t 116) (
 .seq (
 .reg [⟨some 4, none, .mv (.c (.d (.bool false)))⟩]) (
 .ret)) (
 .skip))) (
 .seq (
 .reg [⟨some 4, none, .mv (.c (.d (.bool true)))⟩]) (
 .ret))))))))))))))))))))))))))))),
 [.t 4]⟩

theorem k_laws_FnExactSubNetwork : cFun Try.prog Try.f3 = some C_laws_FnExactSubNetwork.erase := by kernel_rfl

end Go.Proofs.Ytcgnehacihjnkaa
