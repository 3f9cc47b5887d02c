/-
  The compiled code of functions of the seat (written by mkcode.py). No condition.
-/
import Derived.Test.YtcgnehacihjnkaaLiftE
import Derived.Test.YtcgnehacihjnkaaProg
import Derived.KernelRfl
namespace Go.Proofs.Ytcgnehacihjnkaa
open Go.Lift

def C_spec_MultiplyTensors : Fun := ⟨3, 24,
 .seq (
 .reg [⟨some 3, none, .box (.t 0)⟩,
 ⟨some 4, none, .box (.t 1)⟩,
 ⟨some 5, none, .box (.t 2)⟩,
 ⟨some 6, none, .zer [.nil, .nil, .nil]⟩,
 ⟨some 7, none, .mv (.c (.d (.bool false)))⟩]) (
 .seq (
 .reg [⟨some 11, none, .ldn 3 (.t 3)⟩,
 ⟨some 12, none, .ldn 3 (.t 4)⟩,
 ⟨some 13, none, .ldn 3 (.t 5)⟩,
 ⟨some 14, none, .call 82 [(.t 11), (.t 12), (.t 13)]⟩,
 ⟨some 10, none, .mv (.t 14)⟩,
 ⟨some 15, none, .ext 0 (.t 10)⟩,
 ⟨some 16, none, .ext 1 (.t 10)⟩,
 ⟨some 8, none, .zer [.nil, .nil, .nil]⟩,
 ⟨none, none, .st 3 (.t 8) (.t 15)⟩,
 ⟨some 9, none, .mv (.t 16)⟩]) (
 .seq (
 .seq (
 .reg [⟨some 17, none, .mv (.t 9)⟩,
 ⟨some 18, none, .not (.t 17)⟩]) (
 .cond (.t 18) (
 .seq (
 .reg [⟨some 19, none, .agg [.nil, .nil, .nil] []⟩,
 ⟨none, none, .st 3 (.t 6) (.t 19)⟩,
 ⟨some 7, none, .mv (.c (.d (.bool false)))⟩]) (
 .ret)) (
 .skip))) (
 .seq (
 .reg [⟨some 20, none, .ldn 3 (.t 3)⟩,
 ⟨some 21, none, .ldn 3 (.t 4)⟩,
 ⟨some 22, none, .ldn 3 (.t 8)⟩,
 ⟨some 23, none, .call 83 [(.t 20), (.t 21), (.t 22), (.c (.d (.bool true)))]⟩,
 ⟨none, none, .st 3 (.t 6) (.t 23)⟩,
 ⟨some 7, none, .mv (.c (.d (.bool true)))⟩]) (
 .ret)))),
 [.cell 6 3, .t 7]⟩

theorem k_spec_MultiplyTensors : cFun Try.prog Try.f29 = some C_spec_MultiplyTensors.erase := by kernel_rfl

def L0_impl_MultiplyTensors : C :=
 .seq (
 .seq (
 .reg [⟨some 24, none, .mv (.t 11)⟩,
 ⟨some 25, none, .fld 1 (.t 8)⟩,
 ⟨some 26, none, .ld (.t 25)⟩,
 ⟨some 27, none, .call 85 [(.t 26)]⟩,
 ⟨some 28, none, .bin .lss (.t 24) (.t 27)⟩]) (
 .cond (.t 28) (
 .skip) (
 .exit 0))) (
 .seq (
 .block 1 (
 .draw [⟨some 31, none, .ldn 3 (.t 3)⟩,
 ⟨some 32, none, .ldn 3 (.t 3)⟩,
 ⟨some 33, none, .ldn 3 (.t 10)⟩,
 ⟨some 34, none, .mv (.t 11)⟩,
 ⟨some 35, none, .call 87 [(.t 32), (.t 33), (.t 34)]⟩,
 ⟨some 36, none, .ldn 3 (.t 3)⟩,
 ⟨some 37, none, .ldn 3 (.t 4)⟩,
 ⟨some 38, none, .mv (.t 11)⟩,
 ⟨some 39, none, .call 87 [(.t 36), (.t 37), (.t 38)]⟩,
 ⟨some 40, none, .ldn 3 (.t 3)⟩,
 ⟨some 41, none, .ldn 3 (.t 8)⟩,
 ⟨some 42, none, .mv (.t 11)⟩,
 ⟨some 43, none, .call 87 [(.t 40), (.t 41), (.t 42)]⟩]
 [⟨some 44, none, .call 86 [(.t 31), (.t 35), (.t 39), (.t 43)]⟩])) (
 .reg [⟨some 29, none, .mv (.t 11)⟩,
 ⟨some 30, none, .bin .add (.t 29) (.c (.d (.int 1)))⟩,
 ⟨some 11, none, .mv (.t 30)⟩]))

def C_impl_MultiplyTensors : Fun := ⟨3, 46,
 .seq (
 .reg [⟨some 3, none, .box (.t 0)⟩,
 ⟨some 4, none, .box (.t 1)⟩,
 ⟨some 5, none, .box (.t 2)⟩,
 ⟨some 6, none, .zer [.nil, .nil, .nil]⟩,
 ⟨some 7, none, .mv (.c (.d (.bool false)))⟩]) (
 .seq (
 .reg [⟨some 13, none, .ldn 3 (.t 3)⟩,
 ⟨some 14, none, .ldn 3 (.t 4)⟩,
 ⟨some 15, none, .ldn 3 (.t 5)⟩,
 ⟨some 16, none, .call 84 [(.t 13), (.t 14), (.t 15)]⟩,
 ⟨some 12, none, .mv (.t 16)⟩,
 ⟨some 17, none, .ext 0 (.t 12)⟩,
 ⟨some 18, none, .ext 1 (.t 12)⟩,
 ⟨some 8, none, .zer [.nil, .nil, .nil]⟩,
 ⟨none, none, .st 3 (.t 8) (.t 17)⟩,
 ⟨some 9, none, .mv (.t 18)⟩]) (
 .seq (
 .seq (
 .reg [⟨some 19, none, .mv (.t 9)⟩,
 ⟨some 20, none, .not (.t 19)⟩]) (
 .cond (.t 20) (
 .seq (
 .reg [⟨some 21, none, .agg [.nil, .nil, .nil] []⟩,
 ⟨none, none, .st 3 (.t 6) (.t 21)⟩,
 ⟨some 7, none, .mv (.c (.d (.bool false)))⟩]) (
 .ret)) (
 .skip))) (
 .seq (
 .reg [⟨some 22, none, .ldn 3 (.t 8)⟩,
 ⟨some 23, none, .call 68 [(.t 22)]⟩,
 ⟨some 10, none, .zer [.nil, .nil, .nil]⟩,
 ⟨none, none, .st 3 (.t 10) (.t 23)⟩]) (
 .seq (
 .seq (
 .reg [⟨some 11, none, .mv (.c (.d (.int 0)))⟩]) (
 .block 0 (
 .loop L0_impl_MultiplyTensors))) (
 .seq (
 .reg [⟨some 45, none, .ldn 3 (.t 10)⟩,
 ⟨none, none, .st 3 (.t 6) (.t 45)⟩,
 ⟨some 7, none, .mv (.c (.d (.bool true)))⟩]) (
 .ret)))))),
 [.cell 6 3, .t 7]⟩

theorem k_impl_MultiplyTensors : cFun Try.prog Try.f32 = some C_impl_MultiplyTensors.erase := by kernel_rfl

end Go.Proofs.Ytcgnehacihjnkaa
