/-
  The compiled code of functions of the seat (written by mkcode.py). No condition.
-/
import Derived.Test.YtcgnehacihjnkaaLiftE
import Derived.Test.YtcgnehacihjnkaaProg
import Derived.KernelRfl
namespace Go.Proofs.Ytcgnehacihjnkaa
open Go.Lift

def L0_impl_labelLists : C :=
 .seq (
 .reg [⟨some 10, none, .bin .lss (.t 9) (.t 8)⟩]) (
 .seq (
 .cond (.t 10) (
 .skip) (
 .exit 0)) (
 .seq (
 .block 1 (
 .seq (
 .reg [⟨some 11, none, .idx 3 (.t 7) (.t 9)⟩,
 ⟨some 12, none, .ldn 3 (.t 11)⟩,
 ⟨some 5, none, .zer [.nil, .nil, .nil]⟩,
 ⟨none, none, .st 3 (.t 5) (.t 12)⟩]) (
 .reg [⟨some 13, none, .mv (.t 3)⟩,
 ⟨some 14, none, .fld 0 (.t 5)⟩,
 ⟨some 15, none, .ld (.t 14)⟩,
 ⟨some 16, none, .call 143 [(.t 15)]⟩,
 ⟨some 17, none, .mksl 1 1 [.nil] [(0, 1, (.t 16))]⟩,
 ⟨some 18, none, .app 1 24 [.nil] (.t 13) (.t 17)⟩,
 ⟨some 3, none, .mv (.t 18)⟩]))) (
 .reg [⟨some 19, none, .bin .add (.t 9) (.c (.d (.int 1)))⟩,
 ⟨some 9, none, .mv (.t 19)⟩])))

def C_impl_labelLists : Fun := ⟨1, 21,
 .seq (
 .reg [⟨some 1, none, .box (.t 0)⟩,
 ⟨some 2, none, .mv (.c (.nil))⟩]) (
 .seq (
 .reg [⟨some 3, none, .mv (.c (.nil))⟩]) (
 .seq (
 .seq (
 .reg [⟨some 6, none, .fld 3 (.t 1)⟩,
 ⟨some 7, none, .ld (.t 6)⟩,
 ⟨some 8, none, .len (.t 7)⟩,
 ⟨some 9, none, .mv (.c (.d (.int 0)))⟩]) (
 .block 0 (
 .loop L0_impl_labelLists))) (
 .seq (
 .reg [⟨some 20, none, .mv (.t 3)⟩,
 ⟨some 2, none, .mv (.t 20)⟩]) (
 .ret)))),
 [.t 2]⟩

theorem k_impl_labelLists : cFun Try.prog Try.f91 = some C_impl_labelLists.erase := by kernel_rfl

def L0_impl_bucketLabels : C :=
 .seq (
 .reg [⟨some 11, none, .bin .lss (.t 10) (.t 9)⟩]) (
 .seq (
 .cond (.t 11) (
 .skip) (
 .exit 0)) (
 .seq (
 .block 1 (
 .seq (
 .reg [⟨some 12, none, .idx 1 (.t 8) (.t 10)⟩,
 ⟨some 13, none, .ld (.t 12)⟩,
 ⟨some 7, none, .mv (.t 13)⟩]) (
 .seq (
 .reg [⟨some 14, none, .mv (.t 7)⟩,
 ⟨some 15, none, .mv (.t 1)⟩,
 ⟨some 16, none, .call 67 [(.t 14), (.t 15)]⟩]) (
 .cond (.t 16) (
 .reg [⟨some 17, none, .mv (.t 5)⟩,
 ⟨some 18, none, .mv (.t 7)⟩,
 ⟨some 19, none, .call 149 [(.t 17), (.t 18)]⟩,
 ⟨some 5, none, .mv (.t 19)⟩]) (
 .skip))))) (
 .reg [⟨some 20, none, .bin .add (.t 10) (.c (.d (.int 1)))⟩,
 ⟨some 10, none, .mv (.t 20)⟩])))

def C_impl_bucketLabels : Fun := ⟨2, 22,
 .seq (
 .reg [⟨some 4, none, .mv (.c (.nil))⟩]) (
 .seq (
 .reg [⟨some 5, none, .mv (.c (.nil))⟩]) (
 .seq (
 .seq (
 .reg [⟨some 8, none, .mv (.t 0)⟩,
 ⟨some 9, none, .len (.t 8)⟩,
 ⟨some 10, none, .mv (.c (.d (.int 0)))⟩]) (
 .block 0 (
 .loop L0_impl_bucketLabels))) (
 .seq (
 .reg [⟨some 21, none, .mv (.t 5)⟩,
 ⟨some 4, none, .mv (.t 21)⟩]) (
 .ret)))),
 [.t 4]⟩

theorem k_impl_bucketLabels : cFun Try.prog Try.f93 = some C_impl_bucketLabels.erase := by kernel_rfl

def L0_impl_eliminateFrom : C :=
 .seq (
 .reg [⟨some 11, none, .bin .lss (.t 10) (.t 9)⟩]) (
 .seq (
 .cond (.t 11) (
 .skip) (
 .exit 0)) (
 .seq (
 .block 1 (
 .seq (
 .reg [⟨some 12, none, .idx 1 (.t 8) (.t 10)⟩,
 ⟨some 13, none, .ld (.t 12)⟩,
 ⟨some 7, none, .mv (.t 13)⟩]) (
 .seq (
 .reg [⟨some 14, none, .mv (.t 7)⟩,
 ⟨some 15, none, .mv (.t 1)⟩,
 ⟨some 16, none, .call 67 [(.t 14), (.t 15)]⟩,
 ⟨some 17, none, .not (.t 16)⟩]) (
 .cond (.t 17) (
 .reg [⟨some 18, none, .mv (.t 5)⟩,
 ⟨some 19, none, .mv (.t 7)⟩,
 ⟨some 20, none, .mksl 1 1 [.nil] [(0, 1, (.t 19))]⟩,
 ⟨some 21, none, .app 1 24 [.nil] (.t 18) (.t 20)⟩,
 ⟨some 5, none, .mv (.t 21)⟩]) (
 .skip))))) (
 .reg [⟨some 22, none, .bin .add (.t 10) (.c (.d (.int 1)))⟩,
 ⟨some 10, none, .mv (.t 22)⟩])))

def C_impl_eliminateFrom : Fun := ⟨2, 31,
 .seq (
 .reg [⟨some 4, none, .mv (.c (.nil))⟩]) (
 .seq (
 .reg [⟨some 5, none, .mv (.c (.nil))⟩]) (
 .seq (
 .seq (
 .reg [⟨some 8, none, .mv (.t 0)⟩,
 ⟨some 9, none, .len (.t 8)⟩,
 ⟨some 10, none, .mv (.c (.d (.int 0)))⟩]) (
 .block 0 (
 .loop L0_impl_eliminateFrom))) (
 .seq (
 .reg [⟨some 23, none, .mv (.t 5)⟩,
 ⟨some 24, none, .mv (.t 0)⟩,
 ⟨some 25, none, .mv (.t 1)⟩,
 ⟨some 26, none, .call 93 [(.t 24), (.t 25)]⟩,
 ⟨some 27, none, .mv (.t 1)⟩,
 ⟨some 28, none, .call 107 [(.t 26), (.t 27)]⟩,
 ⟨some 29, none, .mksl 1 1 [.nil] [(0, 1, (.t 28))]⟩,
 ⟨some 30, none, .app 1 24 [.nil] (.t 23) (.t 29)⟩,
 ⟨some 4, none, .mv (.t 30)⟩]) (
 .ret)))),
 [.t 4]⟩

theorem k_impl_eliminateFrom : cFun Try.prog Try.f92 = some C_impl_eliminateFrom.erase := by kernel_rfl

def L0_spec_l21Lists : C :=
 .seq (
 .reg [⟨some 11, none, .bin .lss (.t 10) (.t 9)⟩]) (
 .seq (
 .cond (.t 11) (
 .skip) (
 .exit 0)) (
 .seq (
 .block 1 (
 .seq (
 .reg [⟨some 12, none, .idx 3 (.t 8) (.t 10)⟩,
 ⟨some 13, none, .ldn 3 (.t 12)⟩,
 ⟨some 5, none, .zer [.nil, .nil, .nil]⟩,
 ⟨none, none, .st 3 (.t 5) (.t 13)⟩]) (
 .reg [⟨some 14, none, .mv (.t 3)⟩,
 ⟨some 15, none, .fld 0 (.t 5)⟩,
 ⟨some 16, none, .ld (.t 15)⟩,
 ⟨some 17, none, .mksl 1 1 [.nil] [(0, 1, (.t 16))]⟩,
 ⟨some 18, none, .app 1 24 [.nil] (.t 14) (.t 17)⟩,
 ⟨some 3, none, .mv (.t 18)⟩]))) (
 .reg [⟨some 19, none, .bin .add (.t 10) (.c (.d (.int 1)))⟩,
 ⟨some 10, none, .mv (.t 19)⟩])))

def C_spec_l21Lists : Fun := ⟨1, 21,
 .seq (
 .reg [⟨some 1, none, .box (.t 0)⟩,
 ⟨some 2, none, .mv (.c (.nil))⟩]) (
 .seq (
 .reg [⟨some 6, none, .mksl 1 0 [.nil] []⟩,
 ⟨some 3, none, .mv (.t 6)⟩]) (
 .seq (
 .seq (
 .reg [⟨some 7, none, .fld 3 (.t 1)⟩,
 ⟨some 8, none, .ld (.t 7)⟩,
 ⟨some 9, none, .len (.t 8)⟩,
 ⟨some 10, none, .mv (.c (.d (.int 0)))⟩]) (
 .block 0 (
 .loop L0_spec_l21Lists))) (
 .seq (
 .reg [⟨some 20, none, .mv (.t 3)⟩,
 ⟨some 2, none, .mv (.t 20)⟩]) (
 .ret)))),
 [.t 2]⟩

theorem k_spec_l21Lists : cFun Try.prog Try.f103 = some C_spec_l21Lists.erase := by kernel_rfl

def L0_spec_l21Bucket : C :=
 .seq (
 .reg [⟨some 31, none, .bin .lss (.t 30) (.t 29)⟩]) (
 .seq (
 .cond (.t 31) (
 .skip) (
 .exit 2)) (
 .seq (
 .block 3 (
 .seq (
 .reg [⟨some 32, none, .idx 1 (.t 28) (.t 30)⟩,
 ⟨some 33, none, .ld (.t 32)⟩,
 ⟨some 11, none, .mv (.t 33)⟩]) (
 .seq (
 .reg [⟨some 34, none, .mv (.t 6)⟩,
 ⟨some 35, none, .mv (.t 11)⟩,
 ⟨some 36, none, .call 63 [(.t 34), (.t 35)]⟩,
 ⟨some 37, none, .bin .lss (.t 36) (.c (.d (.int 0)))⟩]) (
 .cond (.t 37) (
 .reg [⟨some 38, none, .mv (.t 6)⟩,
 ⟨some 39, none, .mv (.t 11)⟩,
 ⟨some 40, none, .mksl 1 1 [.d (.int 0)] [(0, 1, (.t 39))]⟩,
 ⟨some 41, none, .app 1 8 [.d (.int 0)] (.t 38) (.t 40)⟩,
 ⟨some 6, none, .mv (.t 41)⟩]) (
 .skip))))) (
 .reg [⟨some 42, none, .bin .add (.t 30) (.c (.d (.int 1)))⟩,
 ⟨some 30, none, .mv (.t 42)⟩])))

def L1_spec_l21Bucket : C :=
 .seq (
 .reg [⟨some 17, none, .bin .lss (.t 16) (.t 15)⟩]) (
 .seq (
 .cond (.t 17) (
 .skip) (
 .exit 0)) (
 .seq (
 .block 1 (
 .seq (
 .reg [⟨some 18, none, .idx 1 (.t 14) (.t 16)⟩,
 ⟨some 19, none, .ld (.t 18)⟩,
 ⟨some 9, none, .mv (.t 19)⟩]) (
 .seq (
 .seq (
 .reg [⟨some 20, none, .mv (.t 9)⟩,
 ⟨some 21, none, .mv (.t 1)⟩,
 ⟨some 22, none, .call 63 [(.t 20), (.t 21)]⟩,
 ⟨some 23, none, .bin .lss (.t 22) (.c (.d (.int 0)))⟩]) (
 .cond (.t 23) (
 .seq (
 .reg [⟨some 24, none, .mv (.t 7)⟩,
 ⟨some 25, none, .mv (.t 9)⟩,
 ⟨some 26, none, .mksl 1 1 [.nil] [(0, 1, (.t 25))]⟩,
 ⟨some 27, none, .app 1 24 [.nil] (.t 24) (.t 26)⟩,
 ⟨some 7, none, .mv (.t 27)⟩]) (
 .exit 1)) (
 .skip))) (
 .seq (
 .reg [⟨some 28, none, .mv (.t 9)⟩,
 ⟨some 29, none, .len (.t 28)⟩,
 ⟨some 30, none, .mv (.c (.d (.int 0)))⟩]) (
 .block 2 (
 .loop L0_spec_l21Bucket)))))) (
 .reg [⟨some 43, none, .bin .add (.t 16) (.c (.d (.int 1)))⟩,
 ⟨some 16, none, .mv (.t 43)⟩])))

def C_spec_l21Bucket : Fun := ⟨2, 46,
 .seq (
 .reg [⟨some 4, none, .mv (.c (.nil))⟩,
 ⟨some 5, none, .mv (.c (.nil))⟩]) (
 .seq (
 .reg [⟨some 12, none, .mksl 1 0 [.d (.int 0)] []⟩,
 ⟨some 6, none, .mv (.t 12)⟩]) (
 .seq (
 .reg [⟨some 13, none, .mksl 1 0 [.nil] []⟩,
 ⟨some 7, none, .mv (.t 13)⟩]) (
 .seq (
 .seq (
 .reg [⟨some 14, none, .mv (.t 0)⟩,
 ⟨some 15, none, .len (.t 14)⟩,
 ⟨some 16, none, .mv (.c (.d (.int 0)))⟩]) (
 .block 0 (
 .loop L1_spec_l21Bucket))) (
 .seq (
 .reg [⟨some 44, none, .mv (.t 6)⟩,
 ⟨some 45, none, .mv (.t 7)⟩,
 ⟨some 4, none, .mv (.t 44)⟩,
 ⟨some 5, none, .mv (.t 45)⟩]) (
 .ret))))),
 [.t 4, .t 5]⟩

theorem k_spec_l21Bucket : cFun Try.prog Try.f105 = some C_spec_l21Bucket.erase := by kernel_rfl

def L0_spec_l21Without : C :=
 .seq (
 .reg [⟨some 12, none, .bin .lss (.t 11) (.t 10)⟩]) (
 .seq (
 .cond (.t 12) (
 .skip) (
 .exit 0)) (
 .seq (
 .block 1 (
 .seq (
 .reg [⟨some 13, none, .idx 1 (.t 9) (.t 11)⟩,
 ⟨some 14, none, .ld (.t 13)⟩,
 ⟨some 7, none, .mv (.t 14)⟩]) (
 .seq (
 .reg [⟨some 15, none, .mv (.t 7)⟩,
 ⟨some 16, none, .mv (.t 1)⟩,
 ⟨some 17, none, .bin .neq (.t 15) (.t 16)⟩]) (
 .cond (.t 17) (
 .reg [⟨some 18, none, .mv (.t 5)⟩,
 ⟨some 19, none, .mv (.t 7)⟩,
 ⟨some 20, none, .mksl 1 1 [.d (.int 0)] [(0, 1, (.t 19))]⟩,
 ⟨some 21, none, .app 1 8 [.d (.int 0)] (.t 18) (.t 20)⟩,
 ⟨some 5, none, .mv (.t 21)⟩]) (
 .skip))))) (
 .reg [⟨some 22, none, .bin .add (.t 11) (.c (.d (.int 1)))⟩,
 ⟨some 11, none, .mv (.t 22)⟩])))

def C_spec_l21Without : Fun := ⟨2, 24,
 .seq (
 .reg [⟨some 4, none, .mv (.c (.nil))⟩]) (
 .seq (
 .reg [⟨some 8, none, .mksl 1 0 [.d (.int 0)] []⟩,
 ⟨some 5, none, .mv (.t 8)⟩]) (
 .seq (
 .seq (
 .reg [⟨some 9, none, .mv (.t 0)⟩,
 ⟨some 10, none, .len (.t 9)⟩,
 ⟨some 11, none, .mv (.c (.d (.int 0)))⟩]) (
 .block 0 (
 .loop L0_spec_l21Without))) (
 .seq (
 .reg [⟨some 23, none, .mv (.t 5)⟩,
 ⟨some 4, none, .mv (.t 23)⟩]) (
 .ret)))),
 [.t 4]⟩

theorem k_spec_l21Without : cFun Try.prog Try.f106 = some C_spec_l21Without.erase := by kernel_rfl

end Go.Proofs.Ytcgnehacihjnkaa
