/-
  The compiled code of functions of the seat (written by mkcode.py). No condition.
-/
import Derived.Test.YtcgnehacihjnkaaLiftE
import Derived.Test.YtcgnehacihjnkaaProg
import Derived.KernelRfl
namespace Go.Proofs.Ytcgnehacihjnkaa
open Go.Lift

def C_laws_FnExactRelabelNetwork : Fun := ⟨3, 138,
 .seq (
 .reg [⟨some 3, none, .box (.t 0)⟩,
 ⟨some 6, none, .mv (.c (.d (.bool false)))⟩]) (
 .seq (
 .seq (
 .reg [⟨some 20, none, .mv (.t 1)⟩,
 ⟨some 21, none, .len (.t 20)⟩,
 ⟨some 22, none, .bin .gtr (.t 21) (.c (.d (.int 1048576)))⟩]) (
 .cond (.t 22) (
 .seq (
 .reg [⟨some 6, none, .mv (.c (.d (.bool true)))⟩]) (
 .ret)) (
 .skip))) (
 .seq (
 .seq (
 .reg [⟨some 23, none, .mv (.t 2)⟩,
 ⟨some 24, none, .len (.t 23)⟩,
 ⟨some 25, none, .bin .gtr (.t 24) (.c (.d (.int 1048576)))⟩]) (
 .cond (.t 25) (
 .seq (
 .reg [⟨some 6, none, .mv (.c (.d (.bool true)))⟩]) (
 .ret)) (
 .skip))) (
 .seq (
 .reg [⟨some 7, none, .mv (.c (.d (.int 1048576)))⟩]) (
 .seq (
 .reg [⟨some 26, none, .ldn 5 (.t 3)⟩,
 ⟨some 27, none, .mv (.t 7)⟩,
 ⟨some 28, none, .call 14 [(.t 26), (.t 27)]⟩,
 ⟨some 7, none, .mv (.t 28)⟩]) (
 .seq (
 .seq (
 .reg [⟨some 29, none, .mv (.t 7)⟩,
 ⟨some 30, none, .bin .lss (.t 29) (.c (.d (.int 0)))⟩]) (
 .cond (.t 30) (
 .seq (
 .reg [⟨some 6, none, .mv (.c (.d (.bool true)))⟩]) (
 .ret)) (
 .skip))) (
 .seq (
 .reg [⟨some 32, none, .ldn 5 (.t 3)⟩,
 ⟨some 33, none, .call 16 [(.t 32)]⟩,
 ⟨some 34, none, .mv (.t 1)⟩,
 ⟨some 35, none, .call 17 [(.t 34)]⟩,
 ⟨some 36, none, .mv (.t 2)⟩,
 ⟨some 37, none, .call 17 [(.t 36)]⟩,
 ⟨some 38, none, .call 26 [(.t 33), (.t 35), (.t 37)]⟩,
 ⟨some 31, none, .mv (.t 38)⟩,
 ⟨some 39, none, .ext 0 (.t 31)⟩,
 ⟨some 40, none, .ext 1 (.t 31)⟩,
 ⟨some 8, none, .zer [.d (.int 0), .d (.int 0), .d (.int 0), .nil, .nil]⟩,
 ⟨none, none, .st 5 (.t 8) (.t 39)⟩,
 ⟨some 9, none, .mv (.t 40)⟩]) (
 .seq (
 .reg [⟨some 41, none, .ldn 5 (.t 3)⟩,
 ⟨some 42, none, .call 16 [(.t 41)]⟩,
 ⟨some 10, none, .zer [.d (.int 0), .d (.int 0), .d (.int 0), .nil, .nil]⟩,
 ⟨none, none, .st 5 (.t 10) (.t 42)⟩]) (
 .seq (
 .reg [⟨some 43, none, .mv (.t 1)⟩,
 ⟨some 44, none, .call 17 [(.t 43)]⟩,
 ⟨some 11, none, .mv (.t 44)⟩]) (
 .seq (
 .reg [⟨some 45, none, .mv (.t 2)⟩,
 ⟨some 46, none, .call 17 [(.t 45)]⟩,
 ⟨some 12, none, .mv (.t 46)⟩]) (
 .seq (
 .reg [⟨some 48, none, .ldn 5 (.t 10)⟩,
 ⟨some 49, none, .mv (.t 11)⟩,
 ⟨some 50, none, .mv (.t 12)⟩,
 ⟨some 51, none, .call 27 [(.t 48), (.t 49), (.t 50)]⟩,
 ⟨some 47, none, .mv (.t 51)⟩,
 ⟨some 52, none, .ext 0 (.t 47)⟩,
 ⟨some 53, none, .ext 1 (.t 47)⟩,
 ⟨some 13, none, .zer [.d (.int 0), .d (.int 0), .d (.int 0), .nil, .nil]⟩,
 ⟨none, none, .st 5 (.t 13) (.t 52)⟩,
 ⟨some 14, none, .mv (.t 53)⟩]) (
 .seq (
 .seq (
 .reg [⟨some 54, none, .ldn 5 (.t 13)⟩,
 ⟨some 55, none, .ldn 5 (.t 8)⟩,
 ⟨some 56, none, .call 19 [(.t 54), (.t 55)]⟩,
 ⟨some 57, none, .not (.t 56)⟩,
 ⟨some 58, none, .mv (.t 57)⟩,
 ⟨some 59, some (58, false), .mv (.t 14)⟩,
 ⟨some 60, some (58, false), .mv (.t 9)⟩,
 ⟨some 61, some (58, false), .binb true (.t 59) (.t 60)⟩,
 ⟨some 62, none, .pick (.t 58) (.c (.d (.bool true))) (.t 61)⟩]) (
 .cond (.t 62) (
 .seq (
 .reg [⟨some 6, none, .mv (.c (.d (.bool false)))⟩]) (
 .ret)) (
 .skip))) (
 .seq (
 .seq (
 .draw [⟨some 63, none, .ldn 5 (.t 10)⟩,
 ⟨some 64, none, .ldn 5 (.t 3)⟩,
 ⟨some 65, none, .call 16 [(.t 64)]⟩]
 [⟨some 66, none, .call 19 [(.t 63), (.t 65)]⟩,
 ⟨some 67, none, .not (.t 66)⟩]) (
 .cond (.t 67) (
 .seq (
 .reg [⟨some 6, none, .mv (.c (.d (.bool false)))⟩]) (
 .ret)) (
 .skip))) (
 .seq (
 .seq (
 .reg [⟨some 68, none, .mv (.t 11)⟩,
 ⟨some 69, none, .mv (.t 1)⟩,
 ⟨some 70, none, .call 17 [(.t 69)]⟩,
 ⟨some 71, none, .call 20 [(.t 68), (.t 70)]⟩,
 ⟨some 72, none, .not (.t 71)⟩]) (
 .cond (.t 72) (
 .seq (
 .reg [⟨some 6, none, .mv (.c (.d (.bool false)))⟩]) (
 .ret)) (
 .skip))) (
 .seq (
 .seq (
 .reg [⟨some 73, none, .mv (.t 12)⟩,
 ⟨some 74, none, .mv (.t 2)⟩,
 ⟨some 75, none, .call 17 [(.t 74)]⟩,
 ⟨some 76, none, .call 20 [(.t 73), (.t 75)]⟩,
 ⟨some 77, none, .not (.t 76)⟩]) (
 .cond (.t 77) (
 .seq (
 .reg [⟨some 6, none, .mv (.c (.d (.bool false)))⟩]) (
 .ret)) (
 .skip))) (
 .seq (
 .reg [⟨some 15, none, .mv (.c (.d (.int 1)))⟩]) (
 .seq (
 .reg [⟨some 78, none, .ldn 5 (.t 10)⟩,
 ⟨some 79, none, .mv (.t 15)⟩,
 ⟨some 80, none, .call 21 [(.t 78), (.t 79)]⟩,
 ⟨some 15, none, .mv (.t 80)⟩]) (
 .seq (
 .reg [⟨some 81, none, .mv (.t 11)⟩,
 ⟨some 82, none, .mv (.t 15)⟩,
 ⟨some 83, none, .call 22 [(.t 81), (.t 82)]⟩,
 ⟨some 15, none, .mv (.t 83)⟩]) (
 .seq (
 .reg [⟨some 84, none, .mv (.t 12)⟩,
 ⟨some 85, none, .mv (.t 15)⟩,
 ⟨some 86, none, .call 22 [(.t 84), (.t 85)]⟩,
 ⟨some 15, none, .mv (.t 86)⟩]) (
 .seq (
 .seq (
 .reg [⟨some 87, none, .mv (.t 15)⟩,
 ⟨some 88, none, .bin .lss (.t 87) (.c (.d (.int 0)))⟩,
 ⟨some 89, none, .mv (.t 88)⟩,
 ⟨some 90, some (89, false), .ldn 5 (.t 13)⟩,
 ⟨some 91, some (89, false), .ldn 5 (.t 8)⟩,
 ⟨some 92, some (89, false), .call 19 [(.t 90), (.t 91)]⟩,
 ⟨some 93, some (89, false), .not (.t 92)⟩,
 ⟨some 94, none, .pick (.t 89) (.c (.d (.bool true))) (.t 93)⟩,
 ⟨some 95, none, .mv (.t 94)⟩,
 ⟨some 96, some (95, false), .mv (.t 14)⟩,
 ⟨some 97, some (95, false), .mv (.t 9)⟩,
 ⟨some 98, some (95, false), .binb true (.t 96) (.t 97)⟩,
 ⟨some 99, none, .pick (.t 95) (.c (.d (.bool true))) (.t 98)⟩]) (
 .cond (.t 99) (
 .seq (
 .reg [⟨some 6, none, .mv (.c (.d (.bool false)))⟩]) (
 .ret)) (
 .skip))) (
 .seq (
 .reg [⟨some 16, none, .mv (.c (.d (.int 1)))⟩]) (
 .seq (
 .reg [⟨some 100, none, .ldn 5 (.t 13)⟩,
 ⟨some 101, none, .mv (.t 16)⟩,
 ⟨some 102, none, .call 21 [(.t 100), (.t 101)]⟩,
 ⟨some 16, none, .mv (.t 102)⟩]) (
 .seq (
 .reg [⟨some 17, none, .mv (.c (.d (.int 1)))⟩]) (
 .seq (
 .reg [⟨some 103, none, .ldn 5 (.t 13)⟩,
 ⟨some 104, none, .mv (.t 17)⟩,
 ⟨some 105, none, .call 23 [(.t 103), (.t 104)]⟩,
 ⟨some 17, none, .mv (.t 105)⟩]) (
 .seq (
 .seq (
 .reg [⟨some 106, none, .mv (.t 17)⟩,
 ⟨some 107, none, .bin .lss (.t 106) (.c (.d (.int 0)))⟩]) (
 .cond (.t 107) (
 .seq (
 .reg [⟨some 6, none, .mv (.c (.d (.bool false)))⟩]) (
 .ret)) (
 .skip))) (
 .seq (
 .seq (
 .reg [⟨some 108, none, .mv (.t 17)⟩,
 ⟨some 109, none, .mv (.t 16)⟩,
 ⟨some 110, none, .bin .neq (.t 108) (.t 109)⟩]) (
 .cond (.t 110) (
 .seq (
 .reg [⟨some 6, none, .mv (.c (.d (.bool false)))⟩]) (
 .ret)) (
 .skip))) (
 .seq (
 .reg [⟨some 112, none, .ldn 5 (.t 3)⟩,
 ⟨some 113, none, .call 16 [(.t 112)]⟩,
 ⟨some 114, none, .mv (.t 1)⟩,
 ⟨some 115, none, .call 17 [(.t 114)]⟩,
 ⟨some 116, none, .mv (.t 2)⟩,
 ⟨some 117, none, .call 17 [(.t 116)]⟩,
 ⟨some 118, none, .call 27 [(.t 113), (.t 115), (.t 117)]⟩,
 ⟨some 111, none, .mv (.t 118)⟩,
 ⟨some 119, none, .ext 0 (.t 111)⟩,
 ⟨some 120, none, .ext 1 (.t 111)⟩,
 ⟨some 18, none, .zer [.d (.int 0), .d (.int 0), .d (.int 0), .nil, .nil]⟩,
 ⟨none, none, .st 5 (.t 18) (.t 119)⟩,
 ⟨some 19, none, .mv (.t 120)⟩]) (
 .seq (
 .seq (
 .reg [⟨some 121, none, .ldn 5 (.t 18)⟩,
 ⟨some 122, none, .ldn 5 (.t 8)⟩,
 ⟨some 123, none, .call 19 [(.t 121), (.t 122)]⟩,
 ⟨some 124, none, .not (.t 123)⟩,
 ⟨some 125, none, .mv (.t 124)⟩,
 ⟨some 126, some (125, false), .mv (.t 19)⟩,
 ⟨some 127, some (125, false), .mv (.t 9)⟩,
 ⟨some 128, some (125, false), .binb true (.t 126) (.t 127)⟩,
 ⟨some 129, none, .pick (.t 125) (.c (.d (.bool true))) (.t 128)⟩]) (
 .cond (.t 129) (
 .seq (
 .reg [⟨some 6, none, .mv (.c (.d (.bool false)))⟩]) (
 .ret)) (
 .skip))) (
 .seq (
 .reg [⟨some 17, none, .mv (.c (.d (.int 1)))⟩]) (
 .seq (
 .reg [⟨some 130, none, .ldn 5 (.t 13)⟩,
 ⟨some 131, none, .mv (.t 17)⟩,
 ⟨some 132, none, .call 23 [(.t 130), (.t 131)]⟩,
 ⟨some 17, none, .mv (.t 132)⟩]) (
 .seq (
 .seq (
 .reg [⟨some 133, none, .mv (.t 17)⟩,
 ⟨some 134, none, .bin .lss (.t 133) (.c (.d (.int 0)))⟩]) (
 .cond (.t 134) (
 .seq (
 .reg [⟨some 6, none, .mv (.c (.d (.bool false)))⟩]) (
 .ret)) (
 .skip))) (
 .seq (
 .seq (
 .reg [⟨some 135, none, .mv (.t 17)⟩,
 ⟨some 136, none, .mv (.t 16)⟩,
 ⟨some 137, none, .bin .neq (.t 135) (.t 136)⟩]) (
 .cond (.t 137) (
 .seq (
 .reg [⟨some 6, none, .mv (.c (.d (.bool false)))⟩]) (
 .ret)) (
 .skip))) (
 .seq (
 .reg [⟨some 6, none, .mv (.c (.d (.bool true)))⟩]) (
 .ret))))))))))))))))))))))))))))))))),
 [.t 6]⟩

theorem k_laws_FnExactRelabelNetwork : cFun Try.prog Try.f5 = some C_laws_FnExactRelabelNetwork.erase := by kernel_rfl

end Go.Proofs.Ytcgnehacihjnkaa
