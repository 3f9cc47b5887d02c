/-
  The compiled code of functions of the seat (written by mkcode.py). No condition.
-/
import Derived.Test.YtcgnehacihjnkaaLiftE
import Derived.Test.YtcgnehacihjnkaaProg
import Derived.KernelRfl
import Derived.Test.YtcgnehacihjnkaaLiftK
namespace Go.Proofs.Ytcgnehacihjnkaa
open Go.Lift

def C_laws_FnExactSortOrder : Fun := ⟨2, 119,
 .seq (
 .reg [⟨some 2, none, .box (.t 0)⟩,
 ⟨some 4, none, .mv (.c (.d (.bool false)))⟩]) (
 .seq (
 .reg [⟨some 5, none, .mv (.c (.d (.int 1048576)))⟩]) (
 .seq (
 .reg [⟨some 17, none, .ldn 5 (.t 2)⟩,
 ⟨some 18, none, .mv (.t 5)⟩,
 ⟨some 19, none, .call 14 [(.t 17), (.t 18)]⟩,
 ⟨some 5, none, .mv (.t 19)⟩]) (
 .seq (
 .seq (
 .reg [⟨some 20, none, .mv (.t 5)⟩,
 ⟨some 21, none, .bin .lss (.t 20) (.c (.d (.int 0)))⟩]) (
 .cond (.t 21) (
 .seq (
 .reg [⟨some 4, none, .mv (.c (.d (.bool true)))⟩]) (
 .ret)) (
 .skip))) (
 .seq (
 .reg [⟨some 22, none, .mv (.t 1)⟩,
 ⟨some 23, none, .mv (.t 5)⟩,
 ⟨some 24, none, .call 48 [(.t 22), (.t 23)]⟩,
 ⟨some 5, none, .mv (.t 24)⟩]) (
 .seq (
 .seq (
 .reg [⟨some 25, none, .mv (.t 5)⟩,
 ⟨some 26, none, .bin .lss (.t 25) (.c (.d (.int 0)))⟩]) (
 .cond (.t 26) (
 .seq (
 .reg [⟨some 4, none, .mv (.c (.d (.bool true)))⟩]) (
 .ret)) (
 .skip))) (
 .seq (
 .reg [⟨some 28, none, .ldn 5 (.t 2)⟩,
 ⟨some 29, none, .call 16 [(.t 28)]⟩,
 ⟨some 30, none, .mv (.t 1)⟩,
 ⟨some 31, none, .call 50 [(.t 30)]⟩,
 ⟨some 32, none, .call 49 [(.t 29), (.t 31)]⟩,
 ⟨some 27, none, .mv (.t 32)⟩,
 ⟨some 33, none, .ext 0 (.t 27)⟩,
 ⟨some 34, none, .ext 1 (.t 27)⟩,
 ⟨some 6, none, .mv (.t 33)⟩,
 ⟨some 7, none, .mv (.t 34)⟩]) (
 .seq (
 .reg [⟨some 35, none, .ldn 5 (.t 2)⟩,
 ⟨some 36, none, .call 16 [(.t 35)]⟩,
 ⟨some 8, none, .zer [.d (.int 0), .d (.int 0), .d (.int 0), .nil, .nil]⟩,
 ⟨none, none, .st 5 (.t 8) (.t 36)⟩]) (
 .seq (
 .reg [⟨some 37, none, .mv (.t 1)⟩,
 ⟨some 38, none, .call 50 [(.t 37)]⟩,
 ⟨some 9, none, .mv (.t 38)⟩]) (
 .seq (
 .reg [⟨some 40, none, .ldn 5 (.t 8)⟩,
 ⟨some 41, none, .mv (.t 9)⟩,
 ⟨some 42, none, .call 51 [(.t 40), (.t 41)]⟩,
 ⟨some 39, none, .mv (.t 42)⟩,
 ⟨some 43, none, .ext 0 (.t 39)⟩,
 ⟨some 44, none, .ext 1 (.t 39)⟩,
 ⟨some 10, none, .mv (.t 43)⟩,
 ⟨some 11, none, .mv (.t 44)⟩]) (
 .seq (
 .seq (
 .reg [⟨some 45, none, .mv (.t 10)⟩,
 ⟨some 46, none, .mv (.t 6)⟩,
 ⟨some 47, none, .call 52 [(.t 45), (.t 46)]⟩,
 ⟨some 48, none, .not (.t 47)⟩,
 ⟨some 49, none, .mv (.t 48)⟩,
 ⟨some 50, some (49, false), .mv (.t 11)⟩,
 ⟨some 51, some (49, false), .mv (.t 7)⟩,
 ⟨some 52, some (49, false), .binb true (.t 50) (.t 51)⟩,
 ⟨some 53, none, .pick (.t 49) (.c (.d (.bool true))) (.t 52)⟩]) (
 .cond (.t 53) (
 .seq (
 .reg [⟨some 4, none, .mv (.c (.d (.bool false)))⟩]) (
 .ret)) (
 .skip))) (
 .seq (
 .seq (
 .draw [⟨some 54, none, .ldn 5 (.t 8)⟩,
 ⟨some 55, none, .ldn 5 (.t 2)⟩,
 ⟨some 56, none, .call 16 [(.t 55)]⟩]
 [⟨some 57, none, .call 19 [(.t 54), (.t 56)]⟩,
 ⟨some 58, none, .not (.t 57)⟩]) (
 .cond (.t 58) (
 .seq (
 .reg [⟨some 4, none, .mv (.c (.d (.bool false)))⟩]) (
 .ret)) (
 .skip))) (
 .seq (
 .seq (
 .reg [⟨some 59, none, .mv (.t 9)⟩,
 ⟨some 60, none, .mv (.t 1)⟩,
 ⟨some 61, none, .call 50 [(.t 60)]⟩,
 ⟨some 62, none, .call 52 [(.t 59), (.t 61)]⟩,
 ⟨some 63, none, .not (.t 62)⟩]) (
 .cond (.t 63) (
 .seq (
 .reg [⟨some 4, none, .mv (.c (.d (.bool false)))⟩]) (
 .ret)) (
 .skip))) (
 .seq (
 .reg [⟨some 12, none, .mv (.c (.d (.int 1)))⟩]) (
 .seq (
 .reg [⟨some 64, none, .ldn 5 (.t 8)⟩,
 ⟨some 65, none, .mv (.t 12)⟩,
 ⟨some 66, none, .call 21 [(.t 64), (.t 65)]⟩,
 ⟨some 12, none, .mv (.t 66)⟩]) (
 .seq (
 .reg [⟨some 67, none, .mv (.t 9)⟩,
 ⟨some 68, none, .mv (.t 12)⟩,
 ⟨some 69, none, .call 53 [(.t 67), (.t 68)]⟩,
 ⟨some 12, none, .mv (.t 69)⟩]) (
 .seq (
 .seq (
 .reg [⟨some 70, none, .mv (.t 12)⟩,
 ⟨some 71, none, .bin .lss (.t 70) (.c (.d (.int 0)))⟩,
 ⟨some 72, none, .mv (.t 71)⟩,
 ⟨some 73, some (72, false), .mv (.t 10)⟩,
 ⟨some 74, some (72, false), .mv (.t 6)⟩,
 ⟨some 75, some (72, false), .call 52 [(.t 73), (.t 74)]⟩,
 ⟨some 76, some (72, false), .not (.t 75)⟩,
 ⟨some 77, none, .pick (.t 72) (.c (.d (.bool true))) (.t 76)⟩,
 ⟨some 78, none, .mv (.t 77)⟩,
 ⟨some 79, some (78, false), .mv (.t 11)⟩,
 ⟨some 80, some (78, false), .mv (.t 7)⟩,
 ⟨some 81, some (78, false), .binb true (.t 79) (.t 80)⟩,
 ⟨some 82, none, .pick (.t 78) (.c (.d (.bool true))) (.t 81)⟩]) (
 .cond (.t 82) (
 .seq (
 .reg [⟨some 4, none, .mv (.c (.d (.bool false)))⟩]) (
 .ret)) (
 .skip))) (
 .seq (
 .reg [⟨some 13, none, .mv (.c (.d (.int 1)))⟩]) (
 .seq (
 .reg [⟨some 83, none, .mv (.t 10)⟩,
 ⟨some 84, none, .mv (.t 13)⟩,
 ⟨some 85, none, .call 53 [(.t 83), (.t 84)]⟩,
 ⟨some 13, none, .mv (.t 85)⟩]) (
 .seq (
 .reg [⟨some 14, none, .mv (.c (.d (.int 1)))⟩]) (
 .seq (
 .reg [⟨some 86, none, .mv (.t 10)⟩,
 ⟨some 87, none, .mv (.t 14)⟩,
 ⟨some 88, none, .call 54 [(.t 86), (.t 87)]⟩,
 ⟨some 14, none, .mv (.t 88)⟩]) (
 .seq (
 .seq (
 .reg [⟨some 89, none, .mv (.t 14)⟩,
 ⟨some 90, none, .bin .lss (.t 89) (.c (.d (.int 0)))⟩]) (
 .cond (.t 90) (
 .seq (
 .reg [⟨some 4, none, .mv (.c (.d (.bool false)))⟩]) (
 .ret)) (
 .skip))) (
 .seq (
 .seq (
 .reg [⟨some 91, none, .mv (.t 14)⟩,
 ⟨some 92, none, .mv (.t 13)⟩,
 ⟨some 93, none, .bin .neq (.t 91) (.t 92)⟩]) (
 .cond (.t 93) (
 .seq (
 .reg [⟨some 4, none, .mv (.c (.d (.bool false)))⟩]) (
 .ret)) (
 .skip))) (
 .seq (
 .reg [⟨some 95, none, .ldn 5 (.t 2)⟩,
 ⟨some 96, none, .call 16 [(.t 95)]⟩,
 ⟨some 97, none, .mv (.t 1)⟩,
 ⟨some 98, none, .call 50 [(.t 97)]⟩,
 ⟨some 99, none, .call 51 [(.t 96), (.t 98)]⟩,
 ⟨some 94, none, .mv (.t 99)⟩,
 ⟨some 100, none, .ext 0 (.t 94)⟩,
 ⟨some 101, none, .ext 1 (.t 94)⟩,
 ⟨some 15, none, .mv (.t 100)⟩,
 ⟨some 16, none, .mv (.t 101)⟩]) (
 .seq (
 .seq (
 .reg [⟨some 102, none, .mv (.t 15)⟩,
 ⟨some 103, none, .mv (.t 6)⟩,
 ⟨some 104, none, .call 52 [(.t 102), (.t 103)]⟩,
 ⟨some 105, none, .not (.t 104)⟩,
 ⟨some 106, none, .mv (.t 105)⟩,
 ⟨some 107, some (106, false), .mv (.t 16)⟩,
 ⟨some 108, some (106, false), .mv (.t 7)⟩,
 ⟨some 109, some (106, false), .binb true (.t 107) (.t 108)⟩,
 ⟨some 110, none, .pick (.t 106) (.c (.d (.bool true))) (.t 109)⟩]) (
 .cond (.t 110) (
 .seq (
 .reg [⟨some 4, none, .mv (.c (.d (.bool false)))⟩]) (
 .ret)) (
 .skip))) (
 .seq (
 .reg [⟨some 14, none, .mv (.c (.d (.int 1)))⟩]) (
 .seq (
 .reg [⟨some 111, none, .mv (.t 10)⟩,
 ⟨some 112, none, .mv (.t 14)⟩,
 ⟨some 113, none, .call 54 [(.t 111), (.t 112)]⟩,
 ⟨some 14, none, .mv (.t 113)⟩]) (
 .seq (
 .seq (
 .reg [⟨some 114, none, .mv (.t 14)⟩,
 ⟨some 115, none, .bin .lss (.t 114) (.c (.d (.int 0)))⟩]) (
 .cond (.t 115) (
 .seq (
 .reg [⟨some 4, none, .mv (.c (.d (.bool false)))⟩]) (
 .ret)) (
 .skip))) (
 .seq (
 .seq (
 .reg [⟨some 116, none, .mv (.t 14)⟩,
 ⟨some 117, none, .mv (.t 13)⟩,
 ⟨some 118, none, .bin .neq (.t 116) (.t 117)⟩]) (
 .cond (.t 118) (
 .seq (
 .reg [⟨some 4, none, .mv (.c (.d (.bool false)))⟩]) (
 .ret)) (
 .skip))) (
 .seq (
 .reg [⟨some 4, none, .mv (.c (.d (.bool true)))⟩]) (
 .ret)))))))))))))))))))))))))))))),
 [.t 4]⟩

theorem k_laws_FnExactSortOrder : cFun Try.prog Try.f11 = some C_laws_FnExactSortOrder.erase := by kernel_rfl

end Go.Proofs.Ytcgnehacihjnkaa

/-
  The compiled code of functions of the seat (written by mkcode.py). No condition.
-/
namespace Go.Proofs.Ytcgnehacihjnkaa
open Go.Lift

def L0_laws_toIntS : C :=
      .seq (
      .seq (
      .reg [⟨some 8, none, .mv (.t 4)⟩,
            ⟨some 9, none, .mv (.t 0)⟩,
            ⟨some 10, none, .len (.t 9)⟩,
            ⟨some 11, none, .bin .lss (.t 8) (.t 10)⟩]) (
      .cond (.t 11) (
        .skip) (
        .exit 0))) (
      .seq (
      .block 1 (
        .reg [⟨some 14, none, .mv (.t 3)⟩,
              ⟨some 15, none, .mv (.t 4)⟩,
              ⟨some 16, none, .mv (.t 0)⟩,
              ⟨some 17, none, .mv (.t 4)⟩,
              ⟨some 18, none, .idx 1 (.t 16) (.t 17)⟩,
              ⟨some 19, none, .ld (.t 18)⟩,
              ⟨some 20, none, .idx 1 (.t 14) (.t 15)⟩,
              ⟨none, none, .st 1 (.t 20) (.t 19)⟩])) (
      .reg [⟨some 12, none, .mv (.t 4)⟩,
            ⟨some 13, none, .bin .add (.t 12) (.c (.d (.int 1)))⟩,
            ⟨some 4, none, .mv (.t 13)⟩]))

def C_laws_toIntS : Fun := ⟨1, 22,
  .seq (
  .reg [⟨some 2, none, .mv (.c (.nil))⟩]) (
  .seq (
  .reg [⟨some 5, none, .mv (.t 0)⟩,
        ⟨some 6, none, .len (.t 5)⟩,
        ⟨some 7, none, .make 1 8 [.d (.int 0)] (.t 6) (.t 6)⟩,
        ⟨some 3, none, .mv (.t 7)⟩]) (
  .seq (
  .seq (
  .reg [⟨some 4, none, .mv (.c (.d (.int 0)))⟩]) (
  .block 0 (
    .loop L0_laws_toIntS))) (
  .seq (
  .reg [⟨some 21, none, .mv (.t 3)⟩,
        ⟨some 2, none, .mv (.t 21)⟩]) (
  .ret)))),
  [.t 2]⟩

theorem k_laws_toIntS : cFun Try.prog Try.f17 = some C_laws_toIntS.erase := by kernel_rfl

def C_laws_toRing : Fun := ⟨1, 14,
  .seq (
  .reg [⟨some 1, none, .box (.t 0)⟩,
        ⟨some 2, none, .zer [.d (.int 0), .d (.int 0), .d (.int 0)]⟩]) (
  .seq (
  .reg [⟨some 3, none, .zer [.d (.int 0), .d (.int 0), .d (.int 0)]⟩]) (
  .seq (
  .reg [⟨some 4, none, .fld 0 (.t 1)⟩,
        ⟨some 5, none, .ld (.t 4)⟩,
        ⟨some 6, none, .fld 0 (.t 3)⟩,
        ⟨none, none, .st 1 (.t 6) (.t 5)⟩]) (
  .seq (
  .reg [⟨some 7, none, .fld 1 (.t 1)⟩,
        ⟨some 8, none, .ld (.t 7)⟩,
        ⟨some 9, none, .fld 1 (.t 3)⟩,
        ⟨none, none, .st 1 (.t 9) (.t 8)⟩]) (
  .seq (
  .reg [⟨some 10, none, .fld 2 (.t 1)⟩,
        ⟨some 11, none, .ld (.t 10)⟩,
        ⟨some 12, none, .fld 2 (.t 3)⟩,
        ⟨none, none, .st 1 (.t 12) (.t 11)⟩]) (
  .seq (
  .reg [⟨some 13, none, .ldn 3 (.t 3)⟩,
        ⟨none, none, .st 3 (.t 2) (.t 13)⟩]) (
  .ret)))))),
  [.cell 2 3]⟩

theorem k_laws_toRing : cFun Try.prog Try.f30 = some C_laws_toRing.erase := by kernel_rfl

def C_laws_toTensor : Fun := ⟨1, 17,
  .seq (
  .reg [⟨some 1, none, .box (.t 0)⟩,
        ⟨some 2, none, .zer [.nil, .nil, .nil]⟩]) (
  .seq (
  .reg [⟨some 3, none, .zer [.nil, .nil, .nil]⟩]) (
  .seq (
  .reg [⟨some 4, none, .fld 0 (.t 1)⟩,
        ⟨some 5, none, .ld (.t 4)⟩,
        ⟨some 6, none, .call 17 [(.t 5)]⟩,
        ⟨some 7, none, .fld 0 (.t 3)⟩,
        ⟨none, none, .st 1 (.t 7) (.t 6)⟩]) (
  .seq (
  .reg [⟨some 8, none, .fld 1 (.t 1)⟩,
        ⟨some 9, none, .ld (.t 8)⟩,
        ⟨some 10, none, .call 17 [(.t 9)]⟩,
        ⟨some 11, none, .fld 1 (.t 3)⟩,
        ⟨none, none, .st 1 (.t 11) (.t 10)⟩]) (
  .seq (
  .reg [⟨some 12, none, .fld 2 (.t 1)⟩,
        ⟨some 13, none, .ld (.t 12)⟩,
        ⟨some 14, none, .call 17 [(.t 13)]⟩,
        ⟨some 15, none, .fld 2 (.t 3)⟩,
        ⟨none, none, .st 1 (.t 15) (.t 14)⟩]) (
  .seq (
  .reg [⟨some 16, none, .ldn 3 (.t 3)⟩,
        ⟨none, none, .st 3 (.t 2) (.t 16)⟩]) (
  .ret)))))),
  [.cell 2 3]⟩

theorem k_laws_toTensor : cFun Try.prog Try.f31 = some C_laws_toTensor.erase := by kernel_rfl

def C_laws_szIntS : Fun := ⟨2, 12,
  .seq (
  .reg [⟨some 4, none, .mv (.c (.d (.int 0)))⟩]) (
  .seq (
  .reg [⟨some 5, none, .mv (.t 1)⟩,
        ⟨some 6, none, .mv (.t 0)⟩,
        ⟨some 7, none, .len (.t 6)⟩,
        ⟨some 8, none, .bin .sub (.t 5) (.t 7)⟩,
        ⟨some 1, none, .mv (.t 8)⟩]) (
  .seq (
  .seq (
  .reg [⟨some 9, none, .mv (.t 1)⟩,
        ⟨some 10, none, .bin .lss (.t 9) (.c (.d (.int 0)))⟩]) (
  .cond (.t 10) (
    .seq (
    .reg [⟨some 4, none, .mv (.c (.d (.int (-1))))⟩]) (
    .ret)) (
    .skip))) (
  .seq (
  .reg [⟨some 11, none, .mv (.t 1)⟩,
        ⟨some 4, none, .mv (.t 11)⟩]) (
  .ret)))),
  [.t 4]⟩

theorem k_laws_szIntS : cFun Try.prog Try.f60 = some C_laws_szIntS.erase := by kernel_rfl

def C_laws_szTensor : Fun := ⟨2, 24,
  .seq (
  .reg [⟨some 2, none, .box (.t 0)⟩,
        ⟨some 4, none, .mv (.c (.d (.int 0)))⟩]) (
  .seq (
  .reg [⟨some 5, none, .fld 0 (.t 2)⟩,
        ⟨some 6, none, .ld (.t 5)⟩,
        ⟨some 7, none, .mv (.t 1)⟩,
        ⟨some 8, none, .call 60 [(.t 6), (.t 7)]⟩,
        ⟨some 1, none, .mv (.t 8)⟩]) (
  .seq (
  .seq (
  .reg [⟨some 9, none, .mv (.t 1)⟩,
        ⟨some 10, none, .bin .lss (.t 9) (.c (.d (.int 0)))⟩]) (
  .cond (.t 10) (
    .seq (
    .reg [⟨some 4, none, .mv (.c (.d (.int (-1))))⟩]) (
    .ret)) (
    .skip))) (
  .seq (
  .reg [⟨some 11, none, .fld 1 (.t 2)⟩,
        ⟨some 12, none, .ld (.t 11)⟩,
        ⟨some 13, none, .mv (.t 1)⟩,
        ⟨some 14, none, .call 60 [(.t 12), (.t 13)]⟩,
        ⟨some 1, none, .mv (.t 14)⟩]) (
  .seq (
  .seq (
  .reg [⟨some 15, none, .mv (.t 1)⟩,
        ⟨some 16, none, .bin .lss (.t 15) (.c (.d (.int 0)))⟩]) (
  .cond (.t 16) (
    .seq (
    .reg [⟨some 4, none, .mv (.c (.d (.int (-1))))⟩]) (
    .ret)) (
    .skip))) (
  .seq (
  .reg [⟨some 17, none, .fld 2 (.t 2)⟩,
        ⟨some 18, none, .ld (.t 17)⟩,
        ⟨some 19, none, .mv (.t 1)⟩,
        ⟨some 20, none, .call 60 [(.t 18), (.t 19)]⟩,
        ⟨some 1, none, .mv (.t 20)⟩]) (
  .seq (
  .seq (
  .reg [⟨some 21, none, .mv (.t 1)⟩,
        ⟨some 22, none, .bin .lss (.t 21) (.c (.d (.int 0)))⟩]) (
  .cond (.t 22) (
    .seq (
    .reg [⟨some 4, none, .mv (.c (.d (.int (-1))))⟩]) (
    .ret)) (
    .skip))) (
  .seq (
  .reg [⟨some 23, none, .mv (.t 1)⟩,
        ⟨some 4, none, .mv (.t 23)⟩]) (
  .ret)))))))),
  [.t 4]⟩

theorem k_laws_szTensor : cFun Try.prog Try.f28 = some C_laws_szTensor.erase := by kernel_rfl

def L0_laws_eqIntS : C :=
      .seq (
      .seq (
      .reg [⟨some 11, none, .mv (.t 5)⟩,
            ⟨some 12, none, .mv (.t 0)⟩,
            ⟨some 13, none, .len (.t 12)⟩,
            ⟨some 14, none, .bin .lss (.t 11) (.t 13)⟩]) (
      .cond (.t 14) (
        .skip) (
        .exit 0))) (
      .seq (
      .block 1 (
        .seq (
        .draw [⟨some 17, none, .mv (.t 0)⟩,
               ⟨some 18, none, .mv (.t 5)⟩,
               ⟨some 19, none, .idx 1 (.t 17) (.t 18)⟩,
               ⟨some 20, none, .ld (.t 19)⟩,
               ⟨some 21, none, .mv (.t 1)⟩,
               ⟨some 22, none, .mv (.t 5)⟩,
               ⟨some 23, none, .idx 1 (.t 21) (.t 22)⟩,
               ⟨some 24, none, .ld (.t 23)⟩]
          [⟨some 25, none, .bin .neq (.t 20) (.t 24)⟩]) (
        .cond (.t 25) (
          .seq (
          .reg [⟨some 4, none, .mv (.c (.d (.bool false)))⟩]) (
          .ret)) (
          .skip)))) (
      .reg [⟨some 15, none, .mv (.t 5)⟩,
            ⟨some 16, none, .bin .add (.t 15) (.c (.d (.int 1)))⟩,
            ⟨some 5, none, .mv (.t 16)⟩]))

def C_laws_eqIntS : Fun := ⟨2, 26,
  .seq (
  .reg [⟨some 4, none, .mv (.c (.d (.bool false)))⟩]) (
  .seq (
  .seq (
  .reg [⟨some 6, none, .mv (.t 0)⟩,
        ⟨some 7, none, .len (.t 6)⟩,
        ⟨some 8, none, .mv (.t 1)⟩,
        ⟨some 9, none, .len (.t 8)⟩,
        ⟨some 10, none, .bin .neq (.t 7) (.t 9)⟩]) (
  .cond (.t 10) (
    .seq (
    .reg [⟨some 4, none, .mv (.c (.d (.bool false)))⟩]) (
    .ret)) (
    .skip))) (
  .seq (
  .seq (
  .reg [⟨some 5, none, .mv (.c (.d (.int 0)))⟩]) (
  .block 0 (
    .loop L0_laws_eqIntS))) (
  .seq (
  .reg [⟨some 4, none, .mv (.c (.d (.bool true)))⟩]) (
  .ret)))),
  [.t 4]⟩

theorem k_laws_eqIntS : cFun Try.prog Try.f20 = some C_laws_eqIntS.erase := by kernel_rfl

def C_laws_eqTensor : Fun := ⟨2, 23,
  .seq (
  .reg [⟨some 2, none, .box (.t 0)⟩,
        ⟨some 3, none, .box (.t 1)⟩,
        ⟨some 4, none, .mv (.c (.d (.bool false)))⟩]) (
  .seq (
  .seq (
  .reg [⟨some 5, none, .fld 0 (.t 2)⟩,
        ⟨some 6, none, .ld (.t 5)⟩,
        ⟨some 7, none, .fld 0 (.t 3)⟩,
        ⟨some 8, none, .ld (.t 7)⟩,
        ⟨some 9, none, .call 20 [(.t 6), (.t 8)]⟩,
        ⟨some 10, none, .not (.t 9)⟩]) (
  .cond (.t 10) (
    .seq (
    .reg [⟨some 4, none, .mv (.c (.d (.bool false)))⟩]) (
    .ret)) (
    .skip))) (
  .seq (
  .seq (
  .reg [⟨some 11, none, .fld 1 (.t 2)⟩,
        ⟨some 12, none, .ld (.t 11)⟩,
        ⟨some 13, none, .fld 1 (.t 3)⟩,
        ⟨some 14, none, .ld (.t 13)⟩,
        ⟨some 15, none, .call 20 [(.t 12), (.t 14)]⟩,
        ⟨some 16, none, .not (.t 15)⟩]) (
  .cond (.t 16) (
    .seq (
    .reg [⟨some 4, none, .mv (.c (.d (.bool false)))⟩]) (
    .ret)) (
    .skip))) (
  .seq (
  .seq (
  .reg [⟨some 17, none, .fld 2 (.t 2)⟩,
        ⟨some 18, none, .ld (.t 17)⟩,
        ⟨some 19, none, .fld 2 (.t 3)⟩,
        ⟨some 20, none, .ld (.t 19)⟩,
        ⟨some 21, none, .call 20 [(.t 18), (.t 20)]⟩,
        ⟨some 22, none, .not (.t 21)⟩]) (
  .cond (.t 22) (
    .seq (
    .reg [⟨some 4, none, .mv (.c (.d (.bool false)))⟩]) (
    .ret)) (
    .skip))) (
  .seq (
  .reg [⟨some 4, none, .mv (.c (.d (.bool true)))⟩]) (
  .ret))))),
  [.t 4]⟩

theorem k_laws_eqTensor : cFun Try.prog Try.f33 = some C_laws_eqTensor.erase := by kernel_rfl

def L0_laws_markIntS : C :=
      .seq (
      .seq (
      .reg [⟨some 6, none, .mv (.t 5)⟩,
            ⟨some 7, none, .mv (.t 0)⟩,
            ⟨some 8, none, .len (.t 7)⟩,
            ⟨some 9, none, .bin .lss (.t 6) (.t 8)⟩]) (
      .cond (.t 9) (
        .skip) (
        .exit 0))) (
      .seq (
      .block 1 (
        .seq (
        .reg [⟨some 12, none, .mv (.t 0)⟩,
              ⟨some 13, none, .mv (.t 5)⟩,
              ⟨some 14, none, .mv (.t 1)⟩,
              ⟨some 15, none, .idx 1 (.t 12) (.t 13)⟩,
              ⟨none, none, .st 1 (.t 15) (.t 14)⟩]) (
        .reg [⟨some 16, none, .mv (.t 1)⟩,
              ⟨some 17, none, .bin .add (.t 16) (.c (.d (.int 1)))⟩,
              ⟨some 1, none, .mv (.t 17)⟩]))) (
      .reg [⟨some 10, none, .mv (.t 5)⟩,
            ⟨some 11, none, .bin .add (.t 10) (.c (.d (.int 1)))⟩,
            ⟨some 5, none, .mv (.t 11)⟩]))

def C_laws_markIntS : Fun := ⟨2, 19,
  .seq (
  .reg [⟨some 4, none, .mv (.c (.d (.int 0)))⟩]) (
  .seq (
  .seq (
  .reg [⟨some 5, none, .mv (.c (.d (.int 0)))⟩]) (
  .block 0 (
    .loop L0_laws_markIntS))) (
  .seq (
  .reg [⟨some 18, none, .mv (.t 1)⟩,
        ⟨some 4, none, .mv (.t 18)⟩]) (
  .ret))),
  [.t 4]⟩

theorem k_laws_markIntS : cFun Try.prog Try.f22 = some C_laws_markIntS.erase := by kernel_rfl

def C_impl_copyInts : Fun := ⟨1, 5,
  .seq (
  .reg [⟨some 2, none, .mv (.c (.nil))⟩]) (
  .seq (
  .reg [⟨some 3, none, .mv (.t 0)⟩,
        ⟨some 4, none, .app 1 8 [.d (.int 0)] (.c (.nil)) (.t 3)⟩,
        ⟨some 2, none, .mv (.t 4)⟩]) (
  .ret)),
  [.t 2]⟩

theorem k_impl_copyInts : cFun Try.prog Try.f143 = some C_impl_copyInts.erase := by kernel_rfl

def C_spec_l05Get : Fun := ⟨3, 23,
  .seq (
  .reg [⟨some 3, none, .box (.t 0)⟩,
        ⟨some 4, none, .box (.t 1)⟩,
        ⟨some 6, none, .mv (.c (.nil))⟩]) (
  .seq (
  .reg [⟨some 8, none, .ldn 3 (.t 3)⟩,
        ⟨some 9, none, .call 168 [(.t 8)]⟩,
        ⟨some 7, none, .mv (.t 9)⟩]) (
  .seq (
  .reg [⟨some 10, none, .mksl 1 0 [.d (.int 0)] []⟩,
        ⟨some 11, none, .fld 2 (.t 4)⟩,
        ⟨some 12, none, .ld (.t 11)⟩,
        ⟨some 13, none, .mv (.t 2)⟩,
        ⟨some 14, none, .mv (.t 7)⟩,
        ⟨some 15, none, .bin .mul (.t 13) (.t 14)⟩,
        ⟨some 16, none, .mv (.t 2)⟩,
        ⟨some 17, none, .mv (.t 7)⟩,
        ⟨some 18, none, .bin .mul (.t 16) (.t 17)⟩,
        ⟨some 19, none, .mv (.t 7)⟩,
        ⟨some 20, none, .bin .add (.t 18) (.t 19)⟩,
        ⟨some 21, none, .slc 1 (.t 12) (some (.t 15)) (some (.t 20))⟩,
        ⟨some 22, none, .app 1 8 [.d (.int 0)] (.t 10) (.t 21)⟩,
        ⟨some 6, none, .mv (.t 22)⟩]) (
  .ret))),
  [.t 6]⟩

theorem k_spec_l05Get : cFun Try.prog Try.f157 = some C_spec_l05Get.erase := by kernel_rfl

end Go.Proofs.Ytcgnehacihjnkaa

/-
  The compiled code of functions of the seat (written by mkcode.py). No condition.
-/
namespace Go.Proofs.Ytcgnehacihjnkaa
open Go.Lift

def L0_spec_l05Product : C :=
 .seq (
 .reg [⟨some 11, none, .bin .lss (.t 10) (.t 9)⟩]) (
 .seq (
 .cond (.t 11) (
 .skip) (
 .exit 0)) (
 .seq (
 .block 1 (
 .seq (
 .reg [⟨some 12, none, .idx 1 (.t 8) (.t 10)⟩,
 ⟨some 13, none, .ld (.t 12)⟩,
 ⟨some 7, none, .mv (.t 13)⟩]) (
 .reg [⟨some 14, none, .mv (.t 5)⟩,
 ⟨some 15, none, .mv (.t 7)⟩,
 ⟨some 16, none, .bin .mul (.t 14) (.t 15)⟩,
 ⟨some 17, none, .mv (.t 1)⟩,
 ⟨some 18, none, .bin .add (.t 17) (.c (.d (.int 1)))⟩,
 ⟨some 19, none, .mnx false (.t 16) (.t 18)⟩,
 ⟨some 5, none, .mv (.t 19)⟩]))) (
 .reg [⟨some 20, none, .bin .add (.t 10) (.c (.d (.int 1)))⟩,
 ⟨some 10, none, .mv (.t 20)⟩])))

def C_spec_l05Product : Fun := ⟨2, 22,
 .seq (
 .reg [⟨some 4, none, .mv (.c (.d (.int 0)))⟩]) (
 .seq (
 .reg [⟨some 5, none, .mv (.c (.d (.int 1)))⟩]) (
 .seq (
 .seq (
 .reg [⟨some 8, none, .mv (.t 0)⟩,
 ⟨some 9, none, .len (.t 8)⟩,
 ⟨some 10, none, .mv (.c (.d (.int 0)))⟩]) (
 .block 0 (
 .loop L0_spec_l05Product))) (
 .seq (
 .reg [⟨some 21, none, .mv (.t 5)⟩,
 ⟨some 4, none, .mv (.t 21)⟩]) (
 .ret)))),
 [.t 4]⟩

theorem k_spec_l05Product : cFun Try.prog Try.f146 = some C_spec_l05Product.erase := by kernel_rfl

def L0_impl_hasInt : C :=
 .seq (
 .reg [⟨some 10, none, .bin .lss (.t 9) (.t 8)⟩]) (
 .seq (
 .cond (.t 10) (
 .skip) (
 .exit 0)) (
 .seq (
 .block 1 (
 .seq (
 .reg [⟨some 11, none, .idx 1 (.t 7) (.t 9)⟩,
 ⟨some 12, none, .ld (.t 11)⟩,
 ⟨some 6, none, .mv (.t 12)⟩]) (
 .seq (
 .reg [⟨some 13, none, .mv (.t 1)⟩,
 ⟨some 14, none, .mv (.t 6)⟩,
 ⟨some 15, none, .bin .eql (.t 13) (.t 14)⟩]) (
 .cond (.t 15) (
 .seq (
 .reg [⟨some 4, none, .mv (.c (.d (.bool true)))⟩]) (
 .ret)) (
 .skip))))) (
 .reg [⟨some 16, none, .bin .add (.t 9) (.c (.d (.int 1)))⟩,
 ⟨some 9, none, .mv (.t 16)⟩])))

def C_impl_hasInt : Fun := ⟨2, 17,
 .seq (
 .reg [⟨some 4, none, .mv (.c (.d (.bool false)))⟩]) (
 .seq (
 .seq (
 .reg [⟨some 7, none, .mv (.t 0)⟩,
 ⟨some 8, none, .len (.t 7)⟩,
 ⟨some 9, none, .mv (.c (.d (.int 0)))⟩]) (
 .block 0 (
 .loop L0_impl_hasInt))) (
 .seq (
 .reg [⟨some 4, none, .mv (.c (.d (.bool false)))⟩]) (
 .ret))),
 [.t 4]⟩

theorem k_impl_hasInt : cFun Try.prog Try.f67 = some C_impl_hasInt.erase := by kernel_rfl

def C_spec_l05Copy : Fun := ⟨1, 13,
 .seq (
 .reg [⟨some 1, none, .box (.t 0)⟩,
 ⟨some 2, none, .zer [.nil, .nil, .nil]⟩]) (
 .seq (
 .draw [⟨some 3, none, .fld 0 (.t 1)⟩,
 ⟨some 4, none, .ld (.t 3)⟩,
 ⟨some 5, none, .call 150 [(.t 4)]⟩,
 ⟨some 6, none, .fld 1 (.t 1)⟩,
 ⟨some 7, none, .ld (.t 6)⟩,
 ⟨some 8, none, .call 150 [(.t 7)]⟩,
 ⟨some 9, none, .fld 2 (.t 1)⟩,
 ⟨some 10, none, .ld (.t 9)⟩]
 [⟨some 11, none, .call 150 [(.t 10)]⟩,
 ⟨some 12, none, .agg [.nil, .nil, .nil] [(0, 1, (.t 5)), (1, 1, (.t 8)), (2, 1, (.t 11))]⟩,
 ⟨none, none, .st 3 (.t 2) (.t 12)⟩]) (
 .ret)),
 [.cell 2 3]⟩

theorem k_spec_l05Copy : cFun Try.prog Try.f139 = some C_spec_l05Copy.erase := by kernel_rfl

def L0_spec_l05Put : C :=
 .seq (
 .reg [⟨some 15, none, .bin .lss (.t 14) (.t 13)⟩]) (
 .seq (
 .cond (.t 15) (
 .skip) (
 .exit 0)) (
 .seq (
 .block 1 (
 .seq (
 .reg [⟨some 16, none, .mv (.t 14)⟩,
 ⟨some 9, none, .mv (.t 16)⟩]) (
 .draw [⟨some 17, none, .fld 2 (.t 5)⟩,
 ⟨some 18, none, .ld (.t 17)⟩,
 ⟨some 19, none, .mv (.t 2)⟩,
 ⟨some 20, none, .mv (.t 8)⟩,
 ⟨some 21, none, .bin .mul (.t 19) (.t 20)⟩,
 ⟨some 22, none, .mv (.t 9)⟩,
 ⟨some 23, none, .bin .add (.t 21) (.t 22)⟩,
 ⟨some 24, none, .mv (.t 3)⟩,
 ⟨some 25, none, .mv (.t 9)⟩,
 ⟨some 26, none, .idx 1 (.t 24) (.t 25)⟩,
 ⟨some 27, none, .ld (.t 26)⟩]
 [⟨some 28, none, .idx 1 (.t 18) (.t 23)⟩,
 ⟨none, none, .st 1 (.t 28) (.t 27)⟩]))) (
 .reg [⟨some 29, none, .bin .add (.t 14) (.c (.d (.int 1)))⟩,
 ⟨some 14, none, .mv (.t 29)⟩])))

def C_spec_l05Put : Fun := ⟨4, 30,
 .seq (
 .reg [⟨some 4, none, .box (.t 0)⟩,
 ⟨some 5, none, .box (.t 1)⟩]) (
 .seq (
 .reg [⟨some 10, none, .ldn 3 (.t 4)⟩,
 ⟨some 11, none, .call 168 [(.t 10)]⟩,
 ⟨some 8, none, .mv (.t 11)⟩]) (
 .seq (
 .reg [⟨some 12, none, .mv (.t 3)⟩,
 ⟨some 13, none, .len (.t 12)⟩,
 ⟨some 14, none, .mv (.c (.d (.int 0)))⟩]) (
 .block 0 (
 .loop L0_spec_l05Put)))),
 []⟩

theorem k_spec_l05Put : cFun Try.prog Try.f155 = some C_spec_l05Put.erase := by kernel_rfl

def L0_spec_l05Find : C :=
 .seq (
 .reg [⟨some 10, none, .bin .lss (.t 9) (.t 8)⟩]) (
 .seq (
 .cond (.t 10) (
 .skip) (
 .exit 0)) (
 .seq (
 .block 1 (
 .seq (
 .reg [⟨some 11, none, .mv (.t 9)⟩,
 ⟨some 12, none, .idx 1 (.t 7) (.t 9)⟩,
 ⟨some 13, none, .ld (.t 12)⟩,
 ⟨some 5, none, .mv (.t 11)⟩,
 ⟨some 6, none, .mv (.t 13)⟩]) (
 .seq (
 .reg [⟨some 14, none, .mv (.t 6)⟩,
 ⟨some 15, none, .mv (.t 1)⟩,
 ⟨some 16, none, .bin .eql (.t 14) (.t 15)⟩]) (
 .cond (.t 16) (
 .seq (
 .reg [⟨some 17, none, .mv (.t 5)⟩,
 ⟨some 4, none, .mv (.t 17)⟩]) (
 .ret)) (
 .skip))))) (
 .reg [⟨some 18, none, .bin .add (.t 9) (.c (.d (.int 1)))⟩,
 ⟨some 9, none, .mv (.t 18)⟩])))

def C_spec_l05Find : Fun := ⟨2, 19,
 .seq (
 .reg [⟨some 4, none, .mv (.c (.d (.int 0)))⟩]) (
 .seq (
 .seq (
 .reg [⟨some 7, none, .mv (.t 0)⟩,
 ⟨some 8, none, .len (.t 7)⟩,
 ⟨some 9, none, .mv (.c (.d (.int 0)))⟩]) (
 .block 0 (
 .loop L0_spec_l05Find))) (
 .seq (
 .reg [⟨some 4, none, .mv (.c (.d (.int (-1))))⟩]) (
 .ret))),
 [.t 4]⟩

theorem k_spec_l05Find : cFun Try.prog Try.f63 = some C_spec_l05Find.erase := by kernel_rfl

def L0_spec_l02Mul : C :=
 .seq (
 .reg [⟨some 27, none, .bin .lss (.t 26) (.t 25)⟩]) (
 .seq (
 .cond (.t 27) (
 .skip) (
 .exit 3)) (
 .seq (
 .block 4 (
 .seq (
 .reg [⟨some 28, none, .mv (.t 26)⟩,
 ⟨some 29, none, .idx 1 (.t 24) (.t 26)⟩,
 ⟨some 30, none, .ld (.t 29)⟩,
 ⟨some 10, none, .mv (.t 28)⟩,
 ⟨some 11, none, .mv (.t 30)⟩]) (
 .block 5 (
 .seq (
 .reg [⟨some 32, none, .mv (.t 8)⟩,
 ⟨some 33, none, .mv (.t 10)⟩,
 ⟨some 34, none, .bin .add (.t 32) (.t 33)⟩,
 ⟨some 35, none, .mv (.t 7)⟩,
 ⟨some 36, none, .len (.t 35)⟩,
 ⟨some 37, none, .bin .lss (.t 34) (.t 36)⟩,
 ⟨some 31, none, .mv (.t 37)⟩]) (
 .cond (.t 31) (
 .draw [⟨some 38, none, .mv (.t 7)⟩,
 ⟨some 39, none, .mv (.t 8)⟩,
 ⟨some 40, none, .mv (.t 10)⟩,
 ⟨some 41, none, .bin .add (.t 39) (.t 40)⟩,
 ⟨some 42, none, .mv (.t 7)⟩,
 ⟨some 43, none, .mv (.t 8)⟩,
 ⟨some 44, none, .mv (.t 10)⟩,
 ⟨some 45, none, .bin .add (.t 43) (.t 44)⟩,
 ⟨some 46, none, .idx 1 (.t 42) (.t 45)⟩,
 ⟨some 47, none, .ld (.t 46)⟩,
 ⟨some 48, none, .mv (.t 9)⟩,
 ⟨some 49, none, .mv (.t 11)⟩,
 ⟨some 50, none, .bin .mul (.t 48) (.t 49)⟩,
 ⟨some 51, none, .bin .add (.t 47) (.t 50)⟩,
 ⟨some 52, none, .fld 1 (.t 3)⟩,
 ⟨some 53, none, .ld (.t 52)⟩,
 ⟨some 54, none, .bin .rem (.t 51) (.t 53)⟩]
 [⟨some 55, none, .idx 1 (.t 38) (.t 41)⟩,
 ⟨none, none, .st 1 (.t 55) (.t 54)⟩]) (
 .seq (
 .reg [⟨some 57, none, .fld 0 (.t 3)⟩,
 ⟨some 58, none, .ld (.t 57)⟩,
 ⟨some 59, none, .bin .eql (.t 58) (.c (.d (.int 8)))⟩,
 ⟨some 56, none, .mv (.t 59)⟩]) (
 .cond (.t 56) (
 .draw [⟨some 60, none, .mv (.t 7)⟩,
 ⟨some 61, none, .mv (.t 8)⟩,
 ⟨some 62, none, .mv (.t 10)⟩,
 ⟨some 63, none, .bin .add (.t 61) (.t 62)⟩,
 ⟨some 64, none, .bin .sub (.t 63) (.c (.d (.int 4)))⟩,
 ⟨some 65, none, .mv (.t 7)⟩,
 ⟨some 66, none, .mv (.t 8)⟩,
 ⟨some 67, none, .mv (.t 10)⟩,
 ⟨some 68, none, .bin .add (.t 66) (.t 67)⟩,
 ⟨some 69, none, .bin .sub (.t 68) (.c (.d (.int 4)))⟩,
 ⟨some 70, none, .idx 1 (.t 65) (.t 69)⟩,
 ⟨some 71, none, .ld (.t 70)⟩,
 ⟨some 72, none, .fld 1 (.t 3)⟩,
 ⟨some 73, none, .ld (.t 72)⟩,
 ⟨some 74, none, .mv (.t 9)⟩,
 ⟨some 75, none, .bin .sub (.t 73) (.t 74)⟩,
 ⟨some 76, none, .mv (.t 11)⟩,
 ⟨some 77, none, .bin .mul (.t 75) (.t 76)⟩,
 ⟨some 78, none, .bin .add (.t 71) (.t 77)⟩,
 ⟨some 79, none, .fld 1 (.t 3)⟩,
 ⟨some 80, none, .ld (.t 79)⟩,
 ⟨some 81, none, .bin .rem (.t 78) (.t 80)⟩]
 [⟨some 82, none, .idx 1 (.t 60) (.t 64)⟩,
 ⟨none, none, .st 1 (.t 82) (.t 81)⟩]) (
 .skip)))))))) (
 .reg [⟨some 83, none, .bin .add (.t 26) (.c (.d (.int 1)))⟩,
 ⟨some 26, none, .mv (.t 83)⟩])))

def L1_spec_l02Mul : C :=
 .seq (
 .reg [⟨some 20, none, .bin .lss (.t 19) (.t 18)⟩]) (
 .seq (
 .cond (.t 20) (
 .skip) (
 .exit 1)) (
 .seq (
 .block 2 (
 .seq (
 .reg [⟨some 21, none, .mv (.t 19)⟩,
 ⟨some 22, none, .idx 1 (.t 17) (.t 19)⟩,
 ⟨some 23, none, .ld (.t 22)⟩,
 ⟨some 8, none, .mv (.t 21)⟩,
 ⟨some 9, none, .mv (.t 23)⟩]) (
 .seq (
 .reg [⟨some 24, none, .mv (.t 2)⟩,
 ⟨some 25, none, .len (.t 24)⟩,
 ⟨some 26, none, .mv (.c (.d (.int 0)))⟩]) (
 .block 3 (
 .loop L0_spec_l02Mul))))) (
 .reg [⟨some 84, none, .bin .add (.t 19) (.c (.d (.int 1)))⟩,
 ⟨some 19, none, .mv (.t 84)⟩])))

def C_spec_l02Mul : Fun := ⟨3, 151,
 .seq (
 .reg [⟨some 3, none, .box (.t 0)⟩,
 ⟨some 6, none, .mv (.c (.nil))⟩]) (
 .seq (
 .reg [⟨some 12, none, .mv (.t 1)⟩,
 ⟨some 13, none, .len (.t 12)⟩,
 ⟨some 14, none, .make 1 8 [.d (.int 0)] (.t 13) (.t 13)⟩,
 ⟨some 7, none, .mv (.t 14)⟩]) (
 .seq (
 .seq (
 .reg [⟨some 15, none, .fld 0 (.t 3)⟩,
 ⟨some 16, none, .ld (.t 15)⟩]) (
 .block 0 (
 .seq (
 .seq (
 .reg [⟨some 86, none, .bin .eql (.t 16) (.c (.d (.int 1)))⟩,
 ⟨some 85, none, .mv (.t 86)⟩]) (
 .cond (.t 85) (
 .skip) (
 .reg [⟨some 87, none, .bin .eql (.t 16) (.c (.d (.int 6)))⟩,
 ⟨some 85, none, .mv (.t 87)⟩]))) (
 .cond (.t 85) (
 .draw [⟨some 88, none, .mv (.t 7)⟩,
 ⟨some 89, none, .mv (.t 1)⟩,
 ⟨some 90, none, .idx 1 (.t 89) (.c (.d (.int 0)))⟩,
 ⟨some 91, none, .ld (.t 90)⟩,
 ⟨some 92, none, .mv (.t 2)⟩,
 ⟨some 93, none, .idx 1 (.t 92) (.c (.d (.int 0)))⟩,
 ⟨some 94, none, .ld (.t 93)⟩,
 ⟨some 95, none, .bin .and (.t 91) (.t 94)⟩]
 [⟨some 96, none, .idx 1 (.t 88) (.c (.d (.int 0)))⟩,
 ⟨none, none, .st 1 (.t 96) (.t 95)⟩]) (
 .seq (
 .reg [⟨some 98, none, .bin .eql (.t 16) (.c (.d (.int 2)))⟩,
 ⟨some 97, none, .mv (.t 98)⟩]) (
 .cond (.t 97) (
 .draw [⟨some 99, none, .mv (.t 7)⟩,
 ⟨some 100, none, .mv (.t 1)⟩,
 ⟨some 101, none, .idx 1 (.t 100) (.c (.d (.int 0)))⟩,
 ⟨some 102, none, .ld (.t 101)⟩,
 ⟨some 103, none, .mv (.t 2)⟩,
 ⟨some 104, none, .idx 1 (.t 103) (.c (.d (.int 0)))⟩,
 ⟨some 105, none, .ld (.t 104)⟩,
 ⟨some 106, none, .bin .mul (.t 102) (.t 105)⟩,
 ⟨some 107, none, .fld 1 (.t 3)⟩,
 ⟨some 108, none, .ld (.t 107)⟩,
 ⟨some 109, none, .bin .rem (.t 106) (.t 108)⟩]
 [⟨some 110, none, .idx 1 (.t 99) (.c (.d (.int 0)))⟩,
 ⟨none, none, .st 1 (.t 110) (.t 109)⟩]) (
 .seq (
 .reg [⟨some 112, none, .bin .eql (.t 16) (.c (.d (.int 3)))⟩,
 ⟨some 111, none, .mv (.t 112)⟩]) (
 .cond (.t 111) (
 .draw [⟨some 113, none, .mv (.t 7)⟩,
 ⟨some 114, none, .mv (.t 1)⟩,
 ⟨some 115, none, .idx 1 (.t 114) (.c (.d (.int 0)))⟩,
 ⟨some 116, none, .ld (.t 115)⟩,
 ⟨some 117, none, .mv (.t 2)⟩,
 ⟨some 118, none, .idx 1 (.t 117) (.c (.d (.int 0)))⟩,
 ⟨some 119, none, .ld (.t 118)⟩,
 ⟨some 120, none, .bin .mul (.t 116) (.t 119)⟩,
 ⟨some 121, none, .fld 1 (.t 3)⟩,
 ⟨some 122, none, .ld (.t 121)⟩,
 ⟨some 123, none, .mnx false (.t 120) (.t 122)⟩]
 [⟨some 124, none, .idx 1 (.t 113) (.c (.d (.int 0)))⟩,
 ⟨none, none, .st 1 (.t 124) (.t 123)⟩]) (
 .seq (
 .reg [⟨some 126, none, .bin .eql (.t 16) (.c (.d (.int 4)))⟩,
 ⟨some 125, none, .mv (.t 126)⟩]) (
 .cond (.t 125) (
 .draw [⟨some 127, none, .mv (.t 7)⟩,
 ⟨some 128, none, .mv (.t 1)⟩,
 ⟨some 129, none, .idx 1 (.t 128) (.c (.d (.int 0)))⟩,
 ⟨some 130, none, .ld (.t 129)⟩,
 ⟨some 131, none, .mv (.t 2)⟩,
 ⟨some 132, none, .idx 1 (.t 131) (.c (.d (.int 0)))⟩,
 ⟨some 133, none, .ld (.t 132)⟩,
 ⟨some 134, none, .bin .add (.t 130) (.t 133)⟩,
 ⟨some 135, none, .fld 1 (.t 3)⟩,
 ⟨some 136, none, .ld (.t 135)⟩,
 ⟨some 137, none, .mnx false (.t 134) (.t 136)⟩]
 [⟨some 138, none, .idx 1 (.t 127) (.c (.d (.int 0)))⟩,
 ⟨none, none, .st 1 (.t 138) (.t 137)⟩]) (
 .seq (
 .reg [⟨some 140, none, .bin .eql (.t 16) (.c (.d (.int 5)))⟩,
 ⟨some 139, none, .mv (.t 140)⟩]) (
 .cond (.t 139) (
 .draw [⟨some 141, none, .mv (.t 7)⟩,
 ⟨some 142, none, .mv (.t 1)⟩,
 ⟨some 143, none, .idx 1 (.t 142) (.c (.d (.int 0)))⟩,
 ⟨some 144, none, .ld (.t 143)⟩,
 ⟨some 145, none, .mv (.t 2)⟩,
 ⟨some 146, none, .idx 1 (.t 145) (.c (.d (.int 0)))⟩,
 ⟨some 147, none, .ld (.t 146)⟩,
 ⟨some 148, none, .mnx false (.t 144) (.t 147)⟩]
 [⟨some 149, none, .idx 1 (.t 141) (.c (.d (.int 0)))⟩,
 ⟨none, none, .st 1 (.t 149) (.t 148)⟩]) (
 .seq (
 .reg [⟨some 17, none, .mv (.t 1)⟩,
 ⟨some 18, none, .len (.t 17)⟩,
 ⟨some 19, none, .mv (.c (.d (.int 0)))⟩]) (
 .block 1 (
 .loop L1_spec_l02Mul))))))))))))))) (
 .seq (
 .reg [⟨some 150, none, .mv (.t 7)⟩,
 ⟨some 6, none, .mv (.t 150)⟩]) (
 .ret)))),
 [.t 6]⟩

theorem k_spec_l02Mul : cFun Try.prog Try.f156 = some C_spec_l02Mul.erase := by kernel_rfl

def C_spec_l05Ints : Fun := ⟨1, 6,
 .seq (
 .reg [⟨some 2, none, .mv (.c (.nil))⟩]) (
 .seq (
 .reg [⟨some 3, none, .mksl 1 0 [.d (.int 0)] []⟩,
 ⟨some 4, none, .mv (.t 0)⟩,
 ⟨some 5, none, .app 1 8 [.d (.int 0)] (.t 3) (.t 4)⟩,
 ⟨some 2, none, .mv (.t 5)⟩]) (
 .ret)),
 [.t 2]⟩

theorem k_spec_l05Ints : cFun Try.prog Try.f150 = some C_spec_l05Ints.erase := by kernel_rfl

def L0_impl_joinLabels : C :=
 .seq (
 .reg [⟨some 13, none, .bin .lss (.t 12) (.t 11)⟩]) (
 .seq (
 .cond (.t 13) (
 .skip) (
 .exit 0)) (
 .seq (
 .block 1 (
 .seq (
 .reg [⟨some 14, none, .idx 1 (.t 10) (.t 12)⟩,
 ⟨some 15, none, .ld (.t 14)⟩,
 ⟨some 7, none, .mv (.t 15)⟩]) (
 .seq (
 .reg [⟨some 16, none, .mv (.t 0)⟩,
 ⟨some 17, none, .mv (.t 7)⟩,
 ⟨some 18, none, .call 67 [(.t 16), (.t 17)]⟩,
 ⟨some 19, none, .not (.t 18)⟩]) (
 .cond (.t 19) (
 .reg [⟨some 20, none, .mv (.t 5)⟩,
 ⟨some 21, none, .mv (.t 7)⟩,
 ⟨some 22, none, .mksl 1 1 [.d (.int 0)] [(0, 1, (.t 21))]⟩,
 ⟨some 23, none, .app 1 8 [.d (.int 0)] (.t 20) (.t 22)⟩,
 ⟨some 5, none, .mv (.t 23)⟩]) (
 .skip))))) (
 .reg [⟨some 24, none, .bin .add (.t 12) (.c (.d (.int 1)))⟩,
 ⟨some 12, none, .mv (.t 24)⟩])))

def C_impl_joinLabels : Fun := ⟨2, 26,
 .seq (
 .reg [⟨some 4, none, .mv (.c (.nil))⟩]) (
 .seq (
 .reg [⟨some 8, none, .mv (.t 0)⟩,
 ⟨some 9, none, .call 143 [(.t 8)]⟩,
 ⟨some 5, none, .mv (.t 9)⟩]) (
 .seq (
 .seq (
 .reg [⟨some 10, none, .mv (.t 1)⟩,
 ⟨some 11, none, .len (.t 10)⟩,
 ⟨some 12, none, .mv (.c (.d (.int 0)))⟩]) (
 .block 0 (
 .loop L0_impl_joinLabels))) (
 .seq (
 .reg [⟨some 25, none, .mv (.t 5)⟩,
 ⟨some 4, none, .mv (.t 25)⟩]) (
 .ret)))),
 [.t 4]⟩

theorem k_impl_joinLabels : cFun Try.prog Try.f149 = some C_impl_joinLabels.erase := by kernel_rfl

end Go.Proofs.Ytcgnehacihjnkaa

/-
  The compiled code of functions of the seat (written by mkcode.py). No condition.
-/
namespace Go.Proofs.Ytcgnehacihjnkaa
open Go.Lift

end Go.Proofs.Ytcgnehacihjnkaa

/-
  The compiled code of functions of the seat (written by mkcode.py). No condition.
-/
namespace Go.Proofs.Ytcgnehacihjnkaa
open Go.Lift

def L0_impl_startState : C :=
 .seq (
 .reg [⟨some 26, none, .bin .lss (.t 25) (.t 24)⟩]) (
 .seq (
 .cond (.t 26) (
 .skip) (
 .exit 0)) (
 .seq (
 .block 1 (
 .seq (
 .reg [⟨some 27, none, .mv (.t 25)⟩,
 ⟨some 28, none, .idx 3 (.t 23) (.t 25)⟩,
 ⟨some 29, none, .ldn 3 (.t 28)⟩,
 ⟨some 7, none, .zer [.nil, .nil, .nil]⟩,
 ⟨some 6, none, .mv (.t 27)⟩,
 ⟨none, none, .st 3 (.t 7) (.t 29)⟩]) (
 .draw [⟨some 30, none, .mv (.t 5)⟩,
 ⟨some 31, none, .mv (.t 5)⟩,
 ⟨some 32, none, .nck (.t 31)⟩,
 ⟨some 33, none, .fld 101 (.t 32)⟩,
 ⟨some 34, none, .ld (.t 33)⟩,
 ⟨some 35, none, .mv (.t 6)⟩,
 ⟨some 36, none, .fld 0 (.t 7)⟩,
 ⟨some 37, none, .ld (.t 36)⟩,
 ⟨some 38, none, .call 143 [(.t 37)]⟩,
 ⟨some 39, none, .agg [.d (.int 0), .nil] [(0, 1, (.t 35)), (1, 1, (.t 38))]⟩,
 ⟨some 40, none, .mksl 2 1 [.d (.int 0), .nil] [(0, 2, (.t 39))]⟩]
 [⟨some 41, none, .app 2 32 [.d (.int 0), .nil] (.t 34) (.t 40)⟩,
 ⟨some 42, none, .nck (.t 30)⟩,
 ⟨some 43, none, .fld 101 (.t 42)⟩,
 ⟨none, none, .st 1 (.t 43) (.t 41)⟩]))) (
 .reg [⟨some 44, none, .bin .add (.t 25) (.c (.d (.int 1)))⟩,
 ⟨some 25, none, .mv (.t 44)⟩])))

def C_impl_startState : Fun := ⟨1, 46,
 .seq (
 .reg [⟨some 1, none, .box (.t 0)⟩,
 ⟨some 2, none, .mv (.c (.any))⟩]) (
 .seq (
 .reg [⟨some 9, none, .fld 3 (.t 1)⟩,
 ⟨some 10, none, .ld (.t 9)⟩,
 ⟨some 11, none, .call 141 [(.t 10)]⟩,
 ⟨some 8, none, .mv (.t 11)⟩,
 ⟨some 12, none, .ext 0 (.t 8)⟩,
 ⟨some 13, none, .ext 1 (.t 8)⟩,
 ⟨some 3, none, .zer (reps 100 (.d (.int 0)))⟩,
 ⟨none, none, .st 100 (.t 3) (.t 12)⟩,
 ⟨some 4, none, .mv (.t 13)⟩]) (
 .seq (
 .reg [⟨some 14, none, .ldn 100 (.t 3)⟩,
 ⟨some 15, none, .fld 4 (.t 1)⟩,
 ⟨some 16, none, .ld (.t 15)⟩,
 ⟨some 17, none, .fld 3 (.t 1)⟩,
 ⟨some 18, none, .ld (.t 17)⟩,
 ⟨some 19, none, .len (.t 18)⟩,
 ⟨some 20, none, .agg (reps 100 (.d (.int 0)) ++ [.nil, .nil, .d (.int 0)]) [(0, 100, (.t 14)), (100, 1, (.t 16)), (102, 1, (.t 19))]⟩,
 ⟨some 21, none, .box (.t 20)⟩,
 ⟨some 5, none, .mv (.t 21)⟩]) (
 .seq (
 .seq (
 .reg [⟨some 22, none, .fld 3 (.t 1)⟩,
 ⟨some 23, none, .ld (.t 22)⟩,
 ⟨some 24, none, .len (.t 23)⟩,
 ⟨some 25, none, .mv (.c (.d (.int 0)))⟩]) (
 .block 0 (
 .loop L0_impl_startState))) (
 .seq (
 .reg [⟨some 45, none, .mv (.t 5)⟩,
 ⟨some 2, none, .mv (.t 45)⟩]) (
 .ret))))),
 [.t 2]⟩

theorem k_impl_startState : cFunK Try.prog Try.f121 = some C_impl_startState.erase := by kernel_rfl

end Go.Proofs.Ytcgnehacihjnkaa

/-
  The compiled code of functions of the seat (written by mkcode.py). No condition.
-/
namespace Go.Proofs.Ytcgnehacihjnkaa
open Go.Lift

def L0_spec_OrderOk : C :=
 .seq (
 .reg [⟨some 31, none, .bin .lss (.t 30) (.t 29)⟩]) (
 .seq (
 .cond (.t 31) (
 .skip) (
 .exit 0)) (
 .seq (
 .block 1 (
 .seq (
 .reg [⟨some 32, none, .mv (.t 30)⟩,
 ⟨some 33, none, .idx 2 (.t 28) (.t 30)⟩,
 ⟨some 34, none, .ldn 2 (.t 33)⟩,
 ⟨some 8, none, .zer [.d (.int 0), .d (.int 0)]⟩,
 ⟨some 7, none, .mv (.t 32)⟩,
 ⟨none, none, .st 2 (.t 8) (.t 34)⟩]) (
 .seq (
 .seq (
 .reg [⟨some 35, none, .fld 0 (.t 8)⟩,
 ⟨some 36, none, .ld (.t 35)⟩,
 ⟨some 37, none, .bin .lss (.t 36) (.c (.d (.int 0)))⟩,
 ⟨some 38, none, .mv (.t 37)⟩,
 ⟨some 39, some (38, false), .fld 0 (.t 8)⟩,
 ⟨some 40, some (38, false), .ld (.t 39)⟩,
 ⟨some 41, some (38, false), .fld 1 (.t 8)⟩,
 ⟨some 42, some (38, false), .ld (.t 41)⟩,
 ⟨some 43, some (38, false), .bin .geq (.t 40) (.t 42)⟩,
 ⟨some 44, none, .pick (.t 38) (.c (.d (.bool true))) (.t 43)⟩,
 ⟨some 45, none, .mv (.t 44)⟩,
 ⟨some 46, some (45, false), .fld 1 (.t 8)⟩,
 ⟨some 47, some (45, false), .ld (.t 46)⟩,
 ⟨some 48, some (45, false), .mv (.t 5)⟩,
 ⟨some 49, some (45, false), .mv (.t 7)⟩,
 ⟨some 50, some (45, false), .bin .add (.t 48) (.t 49)⟩,
 ⟨some 51, some (45, false), .bin .geq (.t 47) (.t 50)⟩,
 ⟨some 52, none, .pick (.t 45) (.c (.d (.bool true))) (.t 51)⟩,
 ⟨some 53, none, .mv (.t 52)⟩,
 ⟨some 54, some (53, false), .mv (.t 6)⟩,
 ⟨some 55, some (53, false), .fld 0 (.t 8)⟩,
 ⟨some 56, some (53, false), .ld (.t 55)⟩,
 ⟨some 57, some (53, false), .idx 1 (.t 54) (.t 56)⟩,
 ⟨some 58, some (53, false), .ld (.t 57)⟩,
 ⟨some 59, none, .pick (.t 53) (.c (.d (.bool true))) (.t 58)⟩,
 ⟨some 60, none, .mv (.t 59)⟩,
 ⟨some 61, some (60, false), .mv (.t 6)⟩,
 ⟨some 62, some (60, false), .fld 1 (.t 8)⟩,
 ⟨some 63, some (60, false), .ld (.t 62)⟩,
 ⟨some 64, some (60, false), .idx 1 (.t 61) (.t 63)⟩,
 ⟨some 65, some (60, false), .ld (.t 64)⟩,
 ⟨some 66, none, .pick (.t 60) (.c (.d (.bool true))) (.t 65)⟩]) (
 .cond (.t 66) (
 .seq (
 .reg [⟨some 4, none, .mv (.c (.d (.bool false)))⟩]) (
 .ret)) (
 .skip))) (
 .seq (
 .reg [⟨some 67, none, .mv (.t 6)⟩,
 ⟨some 68, none, .fld 0 (.t 8)⟩,
 ⟨some 69, none, .ld (.t 68)⟩,
 ⟨some 70, none, .idx 1 (.t 67) (.t 69)⟩,
 ⟨none, none, .st 1 (.t 70) (.c (.d (.bool true)))⟩]) (
 .reg [⟨some 71, none, .mv (.t 6)⟩,
 ⟨some 72, none, .fld 1 (.t 8)⟩,
 ⟨some 73, none, .ld (.t 72)⟩,
 ⟨some 74, none, .idx 1 (.t 71) (.t 73)⟩,
 ⟨none, none, .st 1 (.t 74) (.c (.d (.bool true)))⟩]))))) (
 .reg [⟨some 75, none, .bin .add (.t 30) (.c (.d (.int 1)))⟩,
 ⟨some 30, none, .mv (.t 75)⟩])))

def C_spec_OrderOk : Fun := ⟨2, 76,
 .seq (
 .reg [⟨some 2, none, .box (.t 0)⟩,
 ⟨some 4, none, .mv (.c (.d (.bool false)))⟩]) (
 .seq (
 .reg [⟨some 9, none, .fld 3 (.t 2)⟩,
 ⟨some 10, none, .ld (.t 9)⟩,
 ⟨some 11, none, .len (.t 10)⟩,
 ⟨some 5, none, .mv (.t 11)⟩]) (
 .seq (
 .seq (
 .reg [⟨some 12, none, .ldn 5 (.t 2)⟩,
 ⟨some 13, none, .call 61 [(.t 12)]⟩,
 ⟨some 14, none, .not (.t 13)⟩,
 ⟨some 15, none, .mv (.t 14)⟩,
 ⟨some 16, some (15, false), .mv (.t 1)⟩,
 ⟨some 17, some (15, false), .len (.t 16)⟩,
 ⟨some 18, some (15, false), .mv (.t 5)⟩,
 ⟨some 19, some (15, false), .bin .sub (.t 18) (.c (.d (.int 1)))⟩,
 ⟨some 20, some (15, false), .mnx true (.c (.d (.int 0))) (.t 19)⟩,
 ⟨some 21, some (15, false), .bin .neq (.t 17) (.t 20)⟩,
 ⟨some 22, none, .pick (.t 15) (.c (.d (.bool true))) (.t 21)⟩]) (
 .cond (.t 22) (
 .seq (
 .reg [⟨some 4, none, .mv (.c (.d (.bool false)))⟩]) (
 .ret)) (
 .skip))) (
 .seq (
 .reg [⟨some 23, none, .mv (.t 5)⟩,
 ⟨some 24, none, .mv (.t 1)⟩,
 ⟨some 25, none, .len (.t 24)⟩,
 ⟨some 26, none, .bin .add (.t 23) (.t 25)⟩,
 ⟨some 27, none, .make 1 1 [.d (.bool false)] (.t 26) (.t 26)⟩,
 ⟨some 6, none, .mv (.t 27)⟩]) (
 .seq (
 .seq (
 .reg [⟨some 28, none, .mv (.t 1)⟩,
 ⟨some 29, none, .len (.t 28)⟩,
 ⟨some 30, none, .mv (.c (.d (.int 0)))⟩]) (
 .block 0 (
 .loop L0_spec_OrderOk))) (
 .seq (
 .reg [⟨some 4, none, .mv (.c (.d (.bool true)))⟩]) (
 .ret)))))),
 [.t 4]⟩

theorem k_spec_OrderOk : cFun Try.prog Try.f110 = some C_spec_OrderOk.erase := by kernel_rfl

def L0_impl_OrderOk : C :=
 .seq (
 .reg [⟨some 26, none, .bin .lss (.t 25) (.t 24)⟩]) (
 .seq (
 .cond (.t 26) (
 .skip) (
 .exit 0)) (
 .seq (
 .block 1 (
 .seq (
 .reg [⟨some 27, none, .idx 2 (.t 23) (.t 25)⟩,
 ⟨some 28, none, .ldn 2 (.t 27)⟩,
 ⟨some 7, none, .zer [.d (.int 0), .d (.int 0)]⟩,
 ⟨none, none, .st 2 (.t 7) (.t 28)⟩]) (
 .seq (
 .reg [⟨some 29, none, .mv (.t 5)⟩,
 ⟨some 30, none, .ldn 2 (.t 7)⟩,
 ⟨some 31, none, .call 163 [(.t 29), (.t 30)]⟩,
 ⟨some 32, none, .not (.t 31)⟩]) (
 .cond (.t 32) (
 .seq (
 .reg [⟨some 4, none, .mv (.c (.d (.bool false)))⟩]) (
 .ret)) (
 .skip))))) (
 .reg [⟨some 33, none, .bin .add (.t 25) (.c (.d (.int 1)))⟩,
 ⟨some 25, none, .mv (.t 33)⟩])))

def C_impl_OrderOk : Fun := ⟨2, 34,
 .seq (
 .reg [⟨some 2, none, .box (.t 0)⟩,
 ⟨some 4, none, .mv (.c (.d (.bool false)))⟩]) (
 .seq (
 .seq (
 .reg [⟨some 8, none, .ldn 5 (.t 2)⟩,
 ⟨some 9, none, .call 66 [(.t 8)]⟩,
 ⟨some 10, none, .not (.t 9)⟩,
 ⟨some 11, none, .mv (.t 10)⟩,
 ⟨some 12, some (11, false), .mv (.t 1)⟩,
 ⟨some 13, some (11, false), .len (.t 12)⟩,
 ⟨some 14, some (11, false), .fld 3 (.t 2)⟩,
 ⟨some 15, some (11, false), .ld (.t 14)⟩,
 ⟨some 16, some (11, false), .len (.t 15)⟩,
 ⟨some 17, some (11, false), .bin .sub (.t 16) (.c (.d (.int 1)))⟩,
 ⟨some 18, some (11, false), .mnx true (.t 17) (.c (.d (.int 0)))⟩,
 ⟨some 19, some (11, false), .bin .neq (.t 13) (.t 18)⟩,
 ⟨some 20, none, .pick (.t 11) (.c (.d (.bool true))) (.t 19)⟩]) (
 .cond (.t 20) (
 .seq (
 .reg [⟨some 4, none, .mv (.c (.d (.bool false)))⟩]) (
 .ret)) (
 .skip))) (
 .seq (
 .reg [⟨some 21, none, .ldn 5 (.t 2)⟩,
 ⟨some 22, none, .call 121 [(.t 21)]⟩,
 ⟨some 5, none, .mv (.t 22)⟩]) (
 .seq (
 .seq (
 .reg [⟨some 23, none, .mv (.t 1)⟩,
 ⟨some 24, none, .len (.t 23)⟩,
 ⟨some 25, none, .mv (.c (.d (.int 0)))⟩]) (
 .block 0 (
 .loop L0_impl_OrderOk))) (
 .seq (
 .reg [⟨some 4, none, .mv (.c (.d (.bool true)))⟩]) (
 .ret))))),
 [.t 4]⟩

theorem k_impl_OrderOk : cFun Try.prog Try.f113 = some C_impl_OrderOk.erase := by kernel_rfl

def C_impl_orderState_follow : Fun := ⟨2, 32,
 .seq (
 .reg [⟨some 3, none, .box (.t 1)⟩,
 ⟨some 4, none, .mv (.c (.d (.bool false)))⟩]) (
 .seq (
 .draw [⟨some 7, none, .mv (.t 0)⟩,
 ⟨some 8, none, .fld 0 (.t 3)⟩,
 ⟨some 9, none, .ld (.t 8)⟩,
 ⟨some 10, none, .call 180 [(.t 7), (.t 9)]⟩,
 ⟨some 11, none, .mv (.t 0)⟩,
 ⟨some 12, none, .fld 1 (.t 3)⟩,
 ⟨some 13, none, .ld (.t 12)⟩]
 [⟨some 14, none, .call 180 [(.t 11), (.t 13)]⟩,
 ⟨some 5, none, .mv (.t 10)⟩,
 ⟨some 6, none, .mv (.t 14)⟩]) (
 .seq (
 .seq (
 .reg [⟨some 15, none, .mv (.t 5)⟩,
 ⟨some 16, none, .bin .lss (.t 15) (.c (.d (.int 0)))⟩,
 ⟨some 17, none, .mv (.t 16)⟩,
 ⟨some 18, some (17, false), .mv (.t 6)⟩,
 ⟨some 19, some (17, false), .bin .lss (.t 18) (.c (.d (.int 0)))⟩,
 ⟨some 20, none, .pick (.t 17) (.c (.d (.bool true))) (.t 19)⟩,
 ⟨some 21, none, .mv (.t 20)⟩,
 ⟨some 22, some (21, false), .fld 0 (.t 3)⟩,
 ⟨some 23, some (21, false), .ld (.t 22)⟩,
 ⟨some 24, some (21, false), .fld 1 (.t 3)⟩,
 ⟨some 25, some (21, false), .ld (.t 24)⟩,
 ⟨some 26, some (21, false), .bin .geq (.t 23) (.t 25)⟩,
 ⟨some 27, none, .pick (.t 21) (.c (.d (.bool true))) (.t 26)⟩]) (
 .cond (.t 27) (
 .seq (
 .reg [⟨some 4, none, .mv (.c (.d (.bool false)))⟩]) (
 .ret)) (
 .skip))) (
 .seq (
 .reg [⟨some 28, none, .mv (.t 0)⟩,
 ⟨some 29, none, .mv (.t 5)⟩,
 ⟨some 30, none, .mv (.t 6)⟩,
 ⟨some 31, none, .call 167 [(.t 28), (.t 29), (.t 30)]⟩]) (
 .seq (
 .reg [⟨some 4, none, .mv (.c (.d (.bool true)))⟩]) (
 .ret))))),
 [.t 4]⟩

theorem k_impl_orderState_follow : cFun Try.prog Try.f163 = some C_impl_orderState_follow.erase := by kernel_rfl

def L0_impl_orderState_place : C :=
 .seq (
 .reg [⟨some 13, none, .bin .lss (.t 12) (.t 11)⟩]) (
 .seq (
 .cond (.t 13) (
 .skip) (
 .exit 0)) (
 .seq (
 .block 1 (
 .seq (
 .reg [⟨some 14, none, .mv (.t 12)⟩,
 ⟨some 15, none, .idx 2 (.t 10) (.t 12)⟩,
 ⟨some 16, none, .ldn 2 (.t 15)⟩,
 ⟨some 6, none, .zer [.d (.int 0), .nil]⟩,
 ⟨some 5, none, .mv (.t 14)⟩,
 ⟨none, none, .st 2 (.t 6) (.t 16)⟩]) (
 .seq (
 .reg [⟨some 17, none, .fld 0 (.t 6)⟩,
 ⟨some 18, none, .ld (.t 17)⟩,
 ⟨some 19, none, .mv (.t 1)⟩,
 ⟨some 20, none, .bin .eql (.t 18) (.t 19)⟩]) (
 .cond (.t 20) (
 .seq (
 .reg [⟨some 21, none, .mv (.t 5)⟩,
 ⟨some 4, none, .mv (.t 21)⟩]) (
 .ret)) (
 .skip))))) (
 .reg [⟨some 22, none, .bin .add (.t 12) (.c (.d (.int 1)))⟩,
 ⟨some 12, none, .mv (.t 22)⟩])))

def C_impl_orderState_place : Fun := ⟨2, 23,
 .seq (
 .reg [⟨some 4, none, .mv (.c (.d (.int 0)))⟩]) (
 .seq (
 .seq (
 .reg [⟨some 7, none, .mv (.t 0)⟩,
 ⟨some 8, none, .nck (.t 7)⟩,
 ⟨some 9, none, .fld 101 (.t 8)⟩,
 ⟨some 10, none, .ld (.t 9)⟩,
 ⟨some 11, none, .len (.t 10)⟩,
 ⟨some 12, none, .mv (.c (.d (.int 0)))⟩]) (
 .block 0 (
 .loop L0_impl_orderState_place))) (
 .seq (
 .reg [⟨some 4, none, .mv (.c (.d (.int (-1))))⟩]) (
 .ret))),
 [.t 4]⟩

theorem k_impl_orderState_place : cFun Try.prog Try.f180 = some C_impl_orderState_place.erase := by kernel_rfl

def L0_impl_orderState_contract : C :=
 .seq (
 .reg [⟨some 44, none, .bin .lss (.t 43) (.t 42)⟩]) (
 .seq (
 .cond (.t 44) (
 .skip) (
 .exit 0)) (
 .seq (
 .block 1 (
 .seq (
 .reg [⟨some 45, none, .mv (.t 43)⟩,
 ⟨some 46, none, .idx 2 (.t 41) (.t 43)⟩,
 ⟨some 47, none, .ldn 2 (.t 46)⟩,
 ⟨some 11, none, .zer [.d (.int 0), .nil]⟩,
 ⟨some 10, none, .mv (.t 45)⟩,
 ⟨none, none, .st 2 (.t 11) (.t 47)⟩]) (
 .seq (
 .reg [⟨some 48, none, .mv (.t 10)⟩,
 ⟨some 49, none, .mv (.t 1)⟩,
 ⟨some 50, none, .bin .neq (.t 48) (.t 49)⟩,
 ⟨some 51, none, .mv (.t 50)⟩,
 ⟨some 52, some (51, true), .mv (.t 10)⟩,
 ⟨some 53, some (51, true), .mv (.t 2)⟩,
 ⟨some 54, some (51, true), .bin .neq (.t 52) (.t 53)⟩,
 ⟨some 55, none, .pick (.t 51) (.t 54) (.c (.d (.bool false)))⟩]) (
 .cond (.t 55) (
 .reg [⟨some 56, none, .mv (.t 9)⟩,
 ⟨some 57, none, .ldn 2 (.t 11)⟩,
 ⟨some 58, none, .mksl 2 1 [.d (.int 0), .nil] [(0, 2, (.t 57))]⟩,
 ⟨some 59, none, .app 2 32 [.d (.int 0), .nil] (.t 56) (.t 58)⟩,
 ⟨some 9, none, .mv (.t 59)⟩]) (
 .skip))))) (
 .reg [⟨some 60, none, .bin .add (.t 43) (.c (.d (.int 1)))⟩,
 ⟨some 43, none, .mv (.t 60)⟩])))

def C_impl_orderState_contract : Fun := ⟨3, 76,
 .seq (
 .reg [⟨some 6, none, .zer [.d (.int 0), .d (.int 0)]⟩]) (
 .seq (
 .draw [⟨some 12, none, .mv (.t 0)⟩,
 ⟨some 13, none, .nck (.t 12)⟩,
 ⟨some 14, none, .fld 101 (.t 13)⟩,
 ⟨some 15, none, .ld (.t 14)⟩,
 ⟨some 16, none, .mv (.t 1)⟩,
 ⟨some 17, none, .idx 2 (.t 15) (.t 16)⟩,
 ⟨some 18, none, .fld 0 (.t 17)⟩,
 ⟨some 19, none, .ld (.t 18)⟩,
 ⟨some 20, none, .mv (.t 0)⟩,
 ⟨some 21, none, .nck (.t 20)⟩,
 ⟨some 22, none, .fld 101 (.t 21)⟩,
 ⟨some 23, none, .ld (.t 22)⟩,
 ⟨some 24, none, .mv (.t 2)⟩,
 ⟨some 25, none, .idx 2 (.t 23) (.t 24)⟩,
 ⟨some 26, none, .fld 0 (.t 25)⟩,
 ⟨some 27, none, .ld (.t 26)⟩,
 ⟨some 28, none, .agg [.d (.int 0), .d (.int 0)] [(0, 1, (.t 19)), (1, 1, (.t 27))]⟩,
 ⟨some 7, none, .zer [.d (.int 0), .d (.int 0)]⟩]
 [⟨none, none, .st 2 (.t 7) (.t 28)⟩]) (
 .seq (
 .draw [⟨some 29, none, .mv (.t 0)⟩,
 ⟨some 30, none, .nck (.t 29)⟩,
 ⟨some 31, none, .fld 102 (.t 30)⟩,
 ⟨some 32, none, .ld (.t 31)⟩,
 ⟨some 33, none, .mv (.t 0)⟩,
 ⟨some 34, none, .mv (.t 1)⟩,
 ⟨some 35, none, .mv (.t 2)⟩,
 ⟨some 36, none, .call 181 [(.t 33), (.t 34), (.t 35)]⟩,
 ⟨some 37, none, .agg [.d (.int 0), .nil] [(0, 1, (.t 32)), (1, 1, (.t 36))]⟩,
 ⟨some 8, none, .zer [.d (.int 0), .nil]⟩]
 [⟨none, none, .st 2 (.t 8) (.t 37)⟩]) (
 .seq (
 .reg [⟨some 9, none, .mv (.c (.nil))⟩]) (
 .seq (
 .seq (
 .reg [⟨some 38, none, .mv (.t 0)⟩,
 ⟨some 39, none, .nck (.t 38)⟩,
 ⟨some 40, none, .fld 101 (.t 39)⟩,
 ⟨some 41, none, .ld (.t 40)⟩,
 ⟨some 42, none, .len (.t 41)⟩,
 ⟨some 43, none, .mv (.c (.d (.int 0)))⟩]) (
 .block 0 (
 .loop L0_impl_orderState_contract))) (
 .seq (
 .reg [⟨some 61, none, .mv (.t 0)⟩,
 ⟨some 62, none, .mv (.t 9)⟩,
 ⟨some 63, none, .ldn 2 (.t 8)⟩,
 ⟨some 64, none, .mksl 2 1 [.d (.int 0), .nil] [(0, 2, (.t 63))]⟩,
 ⟨some 65, none, .app 2 32 [.d (.int 0), .nil] (.t 62) (.t 64)⟩,
 ⟨some 66, none, .nck (.t 61)⟩,
 ⟨some 67, none, .fld 101 (.t 66)⟩,
 ⟨none, none, .st 1 (.t 67) (.t 65)⟩]) (
 .seq (
 .reg [⟨some 68, none, .mv (.t 0)⟩,
 ⟨some 69, none, .nck (.t 68)⟩,
 ⟨some 70, none, .fld 102 (.t 69)⟩,
 ⟨some 71, none, .ld (.t 70)⟩,
 ⟨some 72, none, .bin .add (.t 71) (.c (.d (.int 1)))⟩,
 ⟨some 73, none, .nck (.t 68)⟩,
 ⟨some 74, none, .fld 102 (.t 73)⟩,
 ⟨none, none, .st 1 (.t 74) (.t 72)⟩]) (
 .seq (
 .reg [⟨some 75, none, .ldn 2 (.t 7)⟩,
 ⟨none, none, .st 2 (.t 6) (.t 75)⟩]) (
 .ret)))))))),
 [.cell 6 2]⟩

theorem k_impl_orderState_contract : cFun Try.prog Try.f167 = some C_impl_orderState_contract.erase := by kernel_rfl

def L0_impl_orderState_resultLabels : C :=
 .seq (
 .reg [⟨some 47, none, .bin .lss (.t 46) (.t 45)⟩]) (
 .seq (
 .cond (.t 47) (
 .skip) (
 .exit 2)) (
 .seq (
 .block 3 (
 .seq (
 .reg [⟨some 48, none, .mv (.t 46)⟩,
 ⟨some 49, none, .idx 2 (.t 44) (.t 46)⟩,
 ⟨some 50, none, .ldn 2 (.t 49)⟩,
 ⟨some 12, none, .zer [.d (.int 0), .nil]⟩,
 ⟨some 11, none, .mv (.t 48)⟩,
 ⟨none, none, .st 2 (.t 12) (.t 50)⟩]) (
 .seq (
 .reg [⟨some 51, none, .mv (.t 11)⟩,
 ⟨some 52, none, .mv (.t 1)⟩,
 ⟨some 53, none, .bin .neq (.t 51) (.t 52)⟩,
 ⟨some 54, none, .mv (.t 53)⟩,
 ⟨some 55, some (54, true), .mv (.t 11)⟩,
 ⟨some 56, some (54, true), .mv (.t 2)⟩,
 ⟨some 57, some (54, true), .bin .neq (.t 55) (.t 56)⟩,
 ⟨some 58, none, .pick (.t 54) (.t 57) (.c (.d (.bool false)))⟩,
 ⟨some 59, none, .mv (.t 58)⟩,
 ⟨some 60, some (59, true), .fld 1 (.t 12)⟩,
 ⟨some 61, some (59, true), .ld (.t 60)⟩,
 ⟨some 62, some (59, true), .mv (.t 9)⟩,
 ⟨some 63, some (59, true), .call 67 [(.t 61), (.t 62)]⟩,
 ⟨some 64, none, .pick (.t 59) (.t 63) (.c (.d (.bool false)))⟩]) (
 .cond (.t 64) (
 .reg [⟨some 10, none, .mv (.c (.d (.bool true)))⟩]) (
 .skip))))) (
 .reg [⟨some 65, none, .bin .add (.t 46) (.c (.d (.int 1)))⟩,
 ⟨some 46, none, .mv (.t 65)⟩])))

def L1_impl_orderState_resultLabels : C :=
 .seq (
 .reg [⟨some 32, none, .bin .lss (.t 31) (.t 30)⟩]) (
 .seq (
 .cond (.t 32) (
 .skip) (
 .exit 0)) (
 .seq (
 .block 1 (
 .seq (
 .reg [⟨some 33, none, .idx 1 (.t 29) (.t 31)⟩,
 ⟨some 34, none, .ld (.t 33)⟩,
 ⟨some 9, none, .mv (.t 34)⟩]) (
 .seq (
 .reg [⟨some 35, none, .mv (.t 0)⟩,
 ⟨some 36, none, .nck (.t 35)⟩,
 ⟨some 37, none, .fld 100 (.t 36)⟩,
 ⟨some 38, none, .ld (.t 37)⟩,
 ⟨some 39, none, .mv (.t 9)⟩,
 ⟨some 40, none, .call 67 [(.t 38), (.t 39)]⟩,
 ⟨some 10, none, .mv (.t 40)⟩]) (
 .seq (
 .seq (
 .reg [⟨some 41, none, .mv (.t 0)⟩,
 ⟨some 42, none, .nck (.t 41)⟩,
 ⟨some 43, none, .fld 101 (.t 42)⟩,
 ⟨some 44, none, .ld (.t 43)⟩,
 ⟨some 45, none, .len (.t 44)⟩,
 ⟨some 46, none, .mv (.c (.d (.int 0)))⟩]) (
 .block 2 (
 .loop L0_impl_orderState_resultLabels))) (
 .seq (
 .reg [⟨some 66, none, .mv (.t 10)⟩]) (
 .cond (.t 66) (
 .reg [⟨some 67, none, .mv (.t 7)⟩,
 ⟨some 68, none, .mv (.t 9)⟩,
 ⟨some 69, none, .mksl 1 1 [.d (.int 0)] [(0, 1, (.t 68))]⟩,
 ⟨some 70, none, .app 1 8 [.d (.int 0)] (.t 67) (.t 69)⟩,
 ⟨some 7, none, .mv (.t 70)⟩]) (
 .skip))))))) (
 .reg [⟨some 71, none, .bin .add (.t 31) (.c (.d (.int 1)))⟩,
 ⟨some 31, none, .mv (.t 71)⟩])))

def C_impl_orderState_resultLabels : Fun := ⟨3, 73,
 .seq (
 .reg [⟨some 6, none, .mv (.c (.nil))⟩]) (
 .seq (
 .reg [⟨some 7, none, .mv (.c (.nil))⟩]) (
 .seq (
 .seq (
 .draw [⟨some 13, none, .mv (.t 0)⟩,
 ⟨some 14, none, .nck (.t 13)⟩,
 ⟨some 15, none, .fld 101 (.t 14)⟩,
 ⟨some 16, none, .ld (.t 15)⟩,
 ⟨some 17, none, .mv (.t 1)⟩,
 ⟨some 18, none, .idx 2 (.t 16) (.t 17)⟩,
 ⟨some 19, none, .fld 1 (.t 18)⟩,
 ⟨some 20, none, .ld (.t 19)⟩,
 ⟨some 21, none, .mv (.t 0)⟩,
 ⟨some 22, none, .nck (.t 21)⟩,
 ⟨some 23, none, .fld 101 (.t 22)⟩,
 ⟨some 24, none, .ld (.t 23)⟩,
 ⟨some 25, none, .mv (.t 2)⟩,
 ⟨some 26, none, .idx 2 (.t 24) (.t 25)⟩,
 ⟨some 27, none, .fld 1 (.t 26)⟩,
 ⟨some 28, none, .ld (.t 27)⟩,
 ⟨some 29, none, .call 149 [(.t 20), (.t 28)]⟩,
 ⟨some 30, none, .len (.t 29)⟩,
 ⟨some 31, none, .mv (.c (.d (.int 0)))⟩]
 []) (
 .block 0 (
 .loop L1_impl_orderState_resultLabels))) (
 .seq (
 .reg [⟨some 72, none, .mv (.t 7)⟩,
 ⟨some 6, none, .mv (.t 72)⟩]) (
 .ret)))),
 [.t 6]⟩

theorem k_impl_orderState_resultLabels : cFun Try.prog Try.f181 = some C_impl_orderState_resultLabels.erase := by kernel_rfl

end Go.Proofs.Ytcgnehacihjnkaa

/-
  The compiled code of functions of the seat (written by mkcode.py). No condition.
-/
namespace Go.Proofs.Ytcgnehacihjnkaa
open Go.Lift

end Go.Proofs.Ytcgnehacihjnkaa

/-
  The compiled code of functions of the seat (written by mkcode.py). No condition.
-/
namespace Go.Proofs.Ytcgnehacihjnkaa
open Go.Lift

end Go.Proofs.Ytcgnehacihjnkaa

/-
  The compiled code of functions of the seat (written by mkcode.py). No condition.
-/
namespace Go.Proofs.Ytcgnehacihjnkaa
open Go.Lift

def C_laws_szNetwork : Fun := ⟨2, 18,
 .seq (
 .reg [⟨some 2, none, .box (.t 0)⟩,
 ⟨some 4, none, .mv (.c (.d (.int 0)))⟩]) (
 .seq (
 .reg [⟨some 5, none, .fld 3 (.t 2)⟩,
 ⟨some 6, none, .ld (.t 5)⟩,
 ⟨some 7, none, .mv (.t 1)⟩,
 ⟨some 8, none, .call 59 [(.t 6), (.t 7)]⟩,
 ⟨some 1, none, .mv (.t 8)⟩]) (
 .seq (
 .seq (
 .reg [⟨some 9, none, .mv (.t 1)⟩,
 ⟨some 10, none, .bin .lss (.t 9) (.c (.d (.int 0)))⟩]) (
 .cond (.t 10) (
 .seq (
 .reg [⟨some 4, none, .mv (.c (.d (.int (-1))))⟩]) (
 .ret)) (
 .skip))) (
 .seq (
 .reg [⟨some 11, none, .fld 4 (.t 2)⟩,
 ⟨some 12, none, .ld (.t 11)⟩,
 ⟨some 13, none, .mv (.t 1)⟩,
 ⟨some 14, none, .call 60 [(.t 12), (.t 13)]⟩,
 ⟨some 1, none, .mv (.t 14)⟩]) (
 .seq (
 .seq (
 .reg [⟨some 15, none, .mv (.t 1)⟩,
 ⟨some 16, none, .bin .lss (.t 15) (.c (.d (.int 0)))⟩]) (
 .cond (.t 16) (
 .seq (
 .reg [⟨some 4, none, .mv (.c (.d (.int (-1))))⟩]) (
 .ret)) (
 .skip))) (
 .seq (
 .reg [⟨some 17, none, .mv (.t 1)⟩,
 ⟨some 4, none, .mv (.t 17)⟩]) (
 .ret)))))),
 [.t 4]⟩

theorem k_laws_szNetwork : cFun Try.prog Try.f14 = some C_laws_szNetwork.erase := by kernel_rfl

def L0_spec_NetworkOk : C :=
 .seq (
 .reg [⟨some 35, none, .bin .lss (.t 34) (.t 33)⟩]) (
 .seq (
 .cond (.t 35) (
 .skip) (
 .exit 2)) (
 .seq (
 .block 3 (
 .seq (
 .reg [⟨some 36, none, .mv (.t 34)⟩,
 ⟨some 37, none, .idx 1 (.t 32) (.t 34)⟩,
 ⟨some 38, none, .ld (.t 37)⟩,
 ⟨some 5, none, .mv (.t 36)⟩,
 ⟨some 6, none, .mv (.t 38)⟩]) (
 .seq (
 .reg [⟨some 39, none, .fld 3 (.t 1)⟩,
 ⟨some 40, none, .ld (.t 39)⟩,
 ⟨some 41, none, .mv (.t 3)⟩,
 ⟨some 42, none, .slc 3 (.t 40) none (some (.t 41))⟩,
 ⟨some 43, none, .mv (.t 6)⟩,
 ⟨some 44, none, .call 95 [(.t 42), (.t 43)]⟩,
 ⟨some 7, none, .mv (.t 44)⟩]) (
 .seq (
 .reg [⟨some 45, none, .mv (.t 7)⟩,
 ⟨some 46, none, .bin .gtr (.t 45) (.c (.d (.int 0)))⟩,
 ⟨some 47, none, .mv (.t 46)⟩,
 ⟨some 48, some (47, true), .mv (.t 7)⟩,
 ⟨some 49, some (47, true), .fld 1 (.t 4)⟩,
 ⟨some 50, some (47, true), .ld (.t 49)⟩,
 ⟨some 51, some (47, true), .mv (.t 5)⟩,
 ⟨some 52, some (47, true), .idx 1 (.t 50) (.t 51)⟩,
 ⟨some 53, some (47, true), .ld (.t 52)⟩,
 ⟨some 54, some (47, true), .bin .neq (.t 48) (.t 53)⟩,
 ⟨some 55, none, .pick (.t 47) (.t 54) (.c (.d (.bool false)))⟩]) (
 .cond (.t 55) (
 .seq (
 .reg [⟨some 2, none, .mv (.c (.d (.bool false)))⟩]) (
 .ret)) (
 .skip)))))) (
 .reg [⟨some 56, none, .bin .add (.t 34) (.c (.d (.int 1)))⟩,
 ⟨some 34, none, .mv (.t 56)⟩])))

def L1_spec_NetworkOk : C :=
 .seq (
 .reg [⟨some 22, none, .bin .lss (.t 21) (.t 20)⟩]) (
 .seq (
 .cond (.t 22) (
 .skip) (
 .exit 0)) (
 .seq (
 .block 1 (
 .seq (
 .reg [⟨some 23, none, .mv (.t 21)⟩,
 ⟨some 24, none, .idx 3 (.t 19) (.t 21)⟩,
 ⟨some 25, none, .ldn 3 (.t 24)⟩,
 ⟨some 4, none, .zer [.nil, .nil, .nil]⟩,
 ⟨some 3, none, .mv (.t 23)⟩,
 ⟨none, none, .st 3 (.t 4) (.t 25)⟩]) (
 .seq (
 .seq (
 .reg [⟨some 26, none, .fld 0 (.t 1)⟩,
 ⟨some 27, none, .ldn 3 (.t 26)⟩,
 ⟨some 28, none, .ldn 3 (.t 4)⟩,
 ⟨some 29, none, .call 122 [(.t 27), (.t 28)]⟩,
 ⟨some 30, none, .not (.t 29)⟩]) (
 .cond (.t 30) (
 .seq (
 .reg [⟨some 2, none, .mv (.c (.d (.bool false)))⟩]) (
 .ret)) (
 .skip))) (
 .seq (
 .reg [⟨some 31, none, .fld 0 (.t 4)⟩,
 ⟨some 32, none, .ld (.t 31)⟩,
 ⟨some 33, none, .len (.t 32)⟩,
 ⟨some 34, none, .mv (.c (.d (.int 0)))⟩]) (
 .block 2 (
 .loop L0_spec_NetworkOk)))))) (
 .reg [⟨some 57, none, .bin .add (.t 21) (.c (.d (.int 1)))⟩,
 ⟨some 21, none, .mv (.t 57)⟩])))

def C_spec_NetworkOk : Fun := ⟨1, 68,
 .seq (
 .reg [⟨some 1, none, .box (.t 0)⟩,
 ⟨some 2, none, .mv (.c (.d (.bool false)))⟩]) (
 .seq (
 .seq (
 .reg [⟨some 8, none, .fld 0 (.t 1)⟩,
 ⟨some 9, none, .ldn 3 (.t 8)⟩,
 ⟨some 10, none, .call 136 [(.t 9)]⟩,
 ⟨some 11, none, .not (.t 10)⟩,
 ⟨some 12, none, .mv (.t 11)⟩,
 ⟨some 13, some (12, false), .fld 3 (.t 1)⟩,
 ⟨some 14, some (12, false), .ld (.t 13)⟩,
 ⟨some 15, some (12, false), .len (.t 14)⟩,
 ⟨some 16, some (12, false), .bin .gtr (.t 15) (.c (.d (.int 12)))⟩,
 ⟨some 17, none, .pick (.t 12) (.c (.d (.bool true))) (.t 16)⟩]) (
 .cond (.t 17) (
 .seq (
 .reg [⟨some 2, none, .mv (.c (.d (.bool false)))⟩]) (
 .ret)) (
 .skip))) (
 .seq (
 .seq (
 .reg [⟨some 18, none, .fld 3 (.t 1)⟩,
 ⟨some 19, none, .ld (.t 18)⟩,
 ⟨some 20, none, .len (.t 19)⟩,
 ⟨some 21, none, .mv (.c (.d (.int 0)))⟩]) (
 .block 0 (
 .loop L1_spec_NetworkOk))) (
 .seq (
 .draw [⟨some 58, none, .fld 4 (.t 1)⟩,
 ⟨some 59, none, .ld (.t 58)⟩,
 ⟨some 60, none, .fld 3 (.t 1)⟩,
 ⟨some 61, none, .ld (.t 60)⟩,
 ⟨some 62, none, .fld 4 (.t 1)⟩,
 ⟨some 63, none, .ld (.t 62)⟩,
 ⟨some 64, none, .call 138 [(.t 61), (.t 63)]⟩]
 [⟨some 65, none, .agg [.nil, .nil, .nil] [(0, 1, (.t 59)), (1, 1, (.t 64))]⟩,
 ⟨some 66, none, .call 137 [(.t 65)]⟩,
 ⟨some 67, none, .bin .geq (.t 66) (.c (.d (.int 0)))⟩,
 ⟨some 2, none, .mv (.t 67)⟩]) (
 .ret)))),
 [.t 2]⟩

theorem k_spec_NetworkOk : cFun Try.prog Try.f61 = some C_spec_NetworkOk.erase := by kernel_rfl

def C_laws_toNetwork : Fun := ⟨1, 17,
 .seq (
 .reg [⟨some 1, none, .box (.t 0)⟩,
 ⟨some 2, none, .zer [.d (.int 0), .d (.int 0), .d (.int 0), .nil, .nil]⟩]) (
 .seq (
 .reg [⟨some 3, none, .zer [.d (.int 0), .d (.int 0), .d (.int 0), .nil, .nil]⟩]) (
 .seq (
 .reg [⟨some 4, none, .fld 0 (.t 1)⟩,
 ⟨some 5, none, .ldn 3 (.t 4)⟩,
 ⟨some 6, none, .call 30 [(.t 5)]⟩,
 ⟨some 7, none, .fld 0 (.t 3)⟩,
 ⟨none, none, .st 3 (.t 7) (.t 6)⟩]) (
 .seq (
 .reg [⟨some 8, none, .fld 3 (.t 1)⟩,
 ⟨some 9, none, .ld (.t 8)⟩,
 ⟨some 10, none, .call 65 [(.t 9)]⟩,
 ⟨some 11, none, .fld 3 (.t 3)⟩,
 ⟨none, none, .st 1 (.t 11) (.t 10)⟩]) (
 .seq (
 .reg [⟨some 12, none, .fld 4 (.t 1)⟩,
 ⟨some 13, none, .ld (.t 12)⟩,
 ⟨some 14, none, .call 17 [(.t 13)]⟩,
 ⟨some 15, none, .fld 4 (.t 3)⟩,
 ⟨none, none, .st 1 (.t 15) (.t 14)⟩]) (
 .seq (
 .reg [⟨some 16, none, .ldn 5 (.t 3)⟩,
 ⟨none, none, .st 5 (.t 2) (.t 16)⟩]) (
 .ret)))))),
 [.cell 2 5]⟩

theorem k_laws_toNetwork : cFun Try.prog Try.f16 = some C_laws_toNetwork.erase := by kernel_rfl

def L0_impl_NetworkOk : C :=
 .seq (
 .reg [⟨some 50, none, .bin .lss (.t 49) (.t 48)⟩]) (
 .seq (
 .cond (.t 50) (
 .skip) (
 .exit 2)) (
 .seq (
 .block 3 (
 .seq (
 .reg [⟨some 51, none, .idx 1 (.t 47) (.t 49)⟩,
 ⟨some 52, none, .ld (.t 51)⟩,
 ⟨some 8, none, .mv (.t 52)⟩]) (
 .seq (
 .reg [⟨some 53, none, .mv (.t 8)⟩,
 ⟨some 54, none, .bin .lss (.t 53) (.c (.d (.int 0)))⟩,
 ⟨some 55, none, .mv (.t 54)⟩,
 ⟨some 56, some (55, false), .mv (.t 8)⟩,
 ⟨some 57, some (55, false), .bin .gtr (.t 56) (.c (.d (.int 99)))⟩,
 ⟨some 58, none, .pick (.t 55) (.c (.d (.bool true))) (.t 57)⟩,
 ⟨some 59, none, .mv (.t 58)⟩,
 ⟨some 60, some (59, false), .mv (.t 8)⟩,
 ⟨some 61, some (59, false), .aix 1 100 (.t 5) (.t 60)⟩,
 ⟨some 62, some (59, false), .ld (.t 61)⟩,
 ⟨some 63, some (59, false), .bin .eql (.t 62) (.c (.d (.int 0)))⟩,
 ⟨some 64, none, .pick (.t 59) (.c (.d (.bool true))) (.t 63)⟩]) (
 .cond (.t 64) (
 .seq (
 .reg [⟨some 2, none, .mv (.c (.d (.bool false)))⟩]) (
 .ret)) (
 .skip))))) (
 .reg [⟨some 65, none, .bin .add (.t 49) (.c (.d (.int 1)))⟩,
 ⟨some 49, none, .mv (.t 65)⟩])))

def L1_impl_NetworkOk : C :=
 .seq (
 .reg [⟨some 29, none, .bin .lss (.t 28) (.t 27)⟩]) (
 .seq (
 .cond (.t 29) (
 .skip) (
 .exit 0)) (
 .seq (
 .block 1 (
 .seq (
 .reg [⟨some 30, none, .idx 3 (.t 26) (.t 28)⟩,
 ⟨some 31, none, .ldn 3 (.t 30)⟩,
 ⟨some 4, none, .zer [.nil, .nil, .nil]⟩,
 ⟨none, none, .st 3 (.t 4) (.t 31)⟩]) (
 .seq (
 .reg [⟨some 32, none, .fld 0 (.t 1)⟩,
 ⟨some 33, none, .ldn 3 (.t 32)⟩,
 ⟨some 34, none, .ldn 3 (.t 4)⟩,
 ⟨some 35, none, .call 125 [(.t 33), (.t 34)]⟩,
 ⟨some 36, none, .not (.t 35)⟩]) (
 .cond (.t 36) (
 .seq (
 .reg [⟨some 2, none, .mv (.c (.d (.bool false)))⟩]) (
 .ret)) (
 .skip))))) (
 .reg [⟨some 37, none, .bin .add (.t 28) (.c (.d (.int 1)))⟩,
 ⟨some 28, none, .mv (.t 37)⟩])))

def C_impl_NetworkOk : Fun := ⟨1, 72,
 .seq (
 .reg [⟨some 1, none, .box (.t 0)⟩,
 ⟨some 2, none, .mv (.c (.d (.bool false)))⟩]) (
 .seq (
 .seq (
 .reg [⟨some 9, none, .fld 0 (.t 1)⟩,
 ⟨some 10, none, .ldn 3 (.t 9)⟩,
 ⟨some 11, none, .call 140 [(.t 10)]⟩,
 ⟨some 12, none, .not (.t 11)⟩,
 ⟨some 13, none, .mv (.t 12)⟩,
 ⟨some 14, some (13, false), .fld 3 (.t 1)⟩,
 ⟨some 15, some (13, false), .ld (.t 14)⟩,
 ⟨some 16, some (13, false), .len (.t 15)⟩,
 ⟨some 17, some (13, false), .bin .gtr (.t 16) (.c (.d (.int 12)))⟩,
 ⟨some 18, none, .pick (.t 13) (.c (.d (.bool true))) (.t 17)⟩,
 ⟨some 19, none, .mv (.t 18)⟩,
 ⟨some 20, some (19, false), .fld 4 (.t 1)⟩,
 ⟨some 21, some (19, false), .ld (.t 20)⟩,
 ⟨some 22, some (19, false), .len (.t 21)⟩,
 ⟨some 23, some (19, false), .bin .gtr (.t 22) (.c (.d (.int 12)))⟩,
 ⟨some 24, none, .pick (.t 19) (.c (.d (.bool true))) (.t 23)⟩]) (
 .cond (.t 24) (
 .seq (
 .reg [⟨some 2, none, .mv (.c (.d (.bool false)))⟩]) (
 .ret)) (
 .skip))) (
 .seq (
 .seq (
 .reg [⟨some 25, none, .fld 3 (.t 1)⟩,
 ⟨some 26, none, .ld (.t 25)⟩,
 ⟨some 27, none, .len (.t 26)⟩,
 ⟨some 28, none, .mv (.c (.d (.int 0)))⟩]) (
 .block 0 (
 .loop L1_impl_NetworkOk))) (
 .seq (
 .reg [⟨some 39, none, .fld 3 (.t 1)⟩,
 ⟨some 40, none, .ld (.t 39)⟩,
 ⟨some 41, none, .call 141 [(.t 40)]⟩,
 ⟨some 38, none, .mv (.t 41)⟩,
 ⟨some 42, none, .ext 0 (.t 38)⟩,
 ⟨some 43, none, .ext 1 (.t 38)⟩,
 ⟨some 5, none, .zer (reps 100 (.d (.int 0)))⟩,
 ⟨none, none, .st 100 (.t 5) (.t 42)⟩,
 ⟨some 6, none, .mv (.t 43)⟩]) (
 .seq (
 .seq (
 .reg [⟨some 44, none, .mv (.t 6)⟩,
 ⟨some 45, none, .not (.t 44)⟩]) (
 .cond (.t 45) (
 .seq (
 .reg [⟨some 2, none, .mv (.c (.d (.bool false)))⟩]) (
 .ret)) (
 .skip))) (
 .seq (
 .seq (
 .reg [⟨some 46, none, .fld 4 (.t 1)⟩,
 ⟨some 47, none, .ld (.t 46)⟩,
 ⟨some 48, none, .len (.t 47)⟩,
 ⟨some 49, none, .mv (.c (.d (.int 0)))⟩]) (
 .block 2 (
 .loop L0_impl_NetworkOk))) (
 .seq (
 .reg [⟨some 66, none, .ldn 100 (.t 5)⟩,
 ⟨some 67, none, .fld 4 (.t 1)⟩,
 ⟨some 68, none, .ld (.t 67)⟩,
 ⟨some 69, none, .call 142 [(.t 66), (.t 68)]⟩,
 ⟨some 70, none, .call 128 [(.t 69)]⟩,
 ⟨some 71, none, .bin .neq (.t 70) (.c (.d (.int (-1))))⟩,
 ⟨some 2, none, .mv (.t 71)⟩]) (
 .ret))))))),
 [.t 2]⟩

theorem k_impl_NetworkOk : cFun Try.prog Try.f66 = some C_impl_NetworkOk.erase := by kernel_rfl

def C_laws_eqNetwork : Fun := ⟨2, 23,
 .seq (
 .reg [⟨some 2, none, .box (.t 0)⟩,
 ⟨some 3, none, .box (.t 1)⟩,
 ⟨some 4, none, .mv (.c (.d (.bool false)))⟩]) (
 .seq (
 .seq (
 .reg [⟨some 5, none, .fld 0 (.t 2)⟩,
 ⟨some 6, none, .ldn 3 (.t 5)⟩,
 ⟨some 7, none, .fld 0 (.t 3)⟩,
 ⟨some 8, none, .ldn 3 (.t 7)⟩,
 ⟨some 9, none, .call 70 [(.t 6), (.t 8)]⟩,
 ⟨some 10, none, .not (.t 9)⟩]) (
 .cond (.t 10) (
 .seq (
 .reg [⟨some 4, none, .mv (.c (.d (.bool false)))⟩]) (
 .ret)) (
 .skip))) (
 .seq (
 .seq (
 .reg [⟨some 11, none, .fld 3 (.t 2)⟩,
 ⟨some 12, none, .ld (.t 11)⟩,
 ⟨some 13, none, .fld 3 (.t 3)⟩,
 ⟨some 14, none, .ld (.t 13)⟩,
 ⟨some 15, none, .call 71 [(.t 12), (.t 14)]⟩,
 ⟨some 16, none, .not (.t 15)⟩]) (
 .cond (.t 16) (
 .seq (
 .reg [⟨some 4, none, .mv (.c (.d (.bool false)))⟩]) (
 .ret)) (
 .skip))) (
 .seq (
 .seq (
 .reg [⟨some 17, none, .fld 4 (.t 2)⟩,
 ⟨some 18, none, .ld (.t 17)⟩,
 ⟨some 19, none, .fld 4 (.t 3)⟩,
 ⟨some 20, none, .ld (.t 19)⟩,
 ⟨some 21, none, .call 20 [(.t 18), (.t 20)]⟩,
 ⟨some 22, none, .not (.t 21)⟩]) (
 .cond (.t 22) (
 .seq (
 .reg [⟨some 4, none, .mv (.c (.d (.bool false)))⟩]) (
 .ret)) (
 .skip))) (
 .seq (
 .reg [⟨some 4, none, .mv (.c (.d (.bool true)))⟩]) (
 .ret))))),
 [.t 4]⟩

theorem k_laws_eqNetwork : cFun Try.prog Try.f19 = some C_laws_eqNetwork.erase := by kernel_rfl

def L0_laws_szTensorS : C :=
 .seq (
 .seq (
 .reg [⟨some 12, none, .mv (.t 5)⟩,
 ⟨some 13, none, .mv (.t 0)⟩,
 ⟨some 14, none, .len (.t 13)⟩,
 ⟨some 15, none, .bin .lss (.t 12) (.t 14)⟩]) (
 .cond (.t 15) (
 .skip) (
 .exit 0))) (
 .seq (
 .block 1 (
 .seq (
 .reg [⟨some 18, none, .mv (.t 0)⟩,
 ⟨some 19, none, .mv (.t 5)⟩,
 ⟨some 20, none, .idx 3 (.t 18) (.t 19)⟩,
 ⟨some 21, none, .ldn 3 (.t 20)⟩,
 ⟨some 22, none, .mv (.t 1)⟩,
 ⟨some 23, none, .call 28 [(.t 21), (.t 22)]⟩,
 ⟨some 1, none, .mv (.t 23)⟩]) (
 .seq (
 .reg [⟨some 24, none, .mv (.t 1)⟩,
 ⟨some 25, none, .bin .lss (.t 24) (.c (.d (.int 0)))⟩]) (
 .cond (.t 25) (
 .seq (
 .reg [⟨some 4, none, .mv (.c (.d (.int (-1))))⟩]) (
 .ret)) (
 .skip))))) (
 .reg [⟨some 16, none, .mv (.t 5)⟩,
 ⟨some 17, none, .bin .add (.t 16) (.c (.d (.int 1)))⟩,
 ⟨some 5, none, .mv (.t 17)⟩]))

def C_laws_szTensorS : Fun := ⟨2, 27,
 .seq (
 .reg [⟨some 4, none, .mv (.c (.d (.int 0)))⟩]) (
 .seq (
 .reg [⟨some 6, none, .mv (.t 1)⟩,
 ⟨some 7, none, .mv (.t 0)⟩,
 ⟨some 8, none, .len (.t 7)⟩,
 ⟨some 9, none, .bin .sub (.t 6) (.t 8)⟩,
 ⟨some 1, none, .mv (.t 9)⟩]) (
 .seq (
 .seq (
 .reg [⟨some 10, none, .mv (.t 1)⟩,
 ⟨some 11, none, .bin .lss (.t 10) (.c (.d (.int 0)))⟩]) (
 .cond (.t 11) (
 .seq (
 .reg [⟨some 4, none, .mv (.c (.d (.int (-1))))⟩]) (
 .ret)) (
 .skip))) (
 .seq (
 .seq (
 .reg [⟨some 5, none, .mv (.c (.d (.int 0)))⟩]) (
 .block 0 (
 .loop L0_laws_szTensorS))) (
 .seq (
 .reg [⟨some 26, none, .mv (.t 1)⟩,
 ⟨some 4, none, .mv (.t 26)⟩]) (
 .ret))))),
 [.t 4]⟩

theorem k_laws_szTensorS : cFun Try.prog Try.f59 = some C_laws_szTensorS.erase := by kernel_rfl

def L0_spec_l12Dim : C :=
 .seq (
 .reg [⟨some 11, none, .bin .lss (.t 10) (.t 9)⟩]) (
 .seq (
 .cond (.t 11) (
 .skip) (
 .exit 0)) (
 .seq (
 .block 1 (
 .seq (
 .reg [⟨some 12, none, .idx 3 (.t 8) (.t 10)⟩,
 ⟨some 13, none, .ldn 3 (.t 12)⟩,
 ⟨some 6, none, .zer [.nil, .nil, .nil]⟩,
 ⟨none, none, .st 3 (.t 6) (.t 13)⟩]) (
 .seq (
 .reg [⟨some 14, none, .fld 0 (.t 6)⟩,
 ⟨some 15, none, .ld (.t 14)⟩,
 ⟨some 16, none, .mv (.t 1)⟩,
 ⟨some 17, none, .call 63 [(.t 15), (.t 16)]⟩,
 ⟨some 7, none, .mv (.t 17)⟩]) (
 .seq (
 .reg [⟨some 18, none, .mv (.t 7)⟩,
 ⟨some 19, none, .bin .geq (.t 18) (.c (.d (.int 0)))⟩]) (
 .cond (.t 19) (
 .seq (
 .reg [⟨some 20, none, .fld 1 (.t 6)⟩,
 ⟨some 21, none, .ld (.t 20)⟩,
 ⟨some 22, none, .mv (.t 7)⟩,
 ⟨some 23, none, .idx 1 (.t 21) (.t 22)⟩,
 ⟨some 24, none, .ld (.t 23)⟩,
 ⟨some 4, none, .mv (.t 24)⟩]) (
 .ret)) (
 .skip)))))) (
 .reg [⟨some 25, none, .bin .add (.t 10) (.c (.d (.int 1)))⟩,
 ⟨some 10, none, .mv (.t 25)⟩])))

def C_spec_l12Dim : Fun := ⟨2, 26,
 .seq (
 .reg [⟨some 4, none, .mv (.c (.d (.int 0)))⟩]) (
 .seq (
 .seq (
 .reg [⟨some 8, none, .mv (.t 0)⟩,
 ⟨some 9, none, .len (.t 8)⟩,
 ⟨some 10, none, .mv (.c (.d (.int 0)))⟩]) (
 .block 0 (
 .loop L0_spec_l12Dim))) (
 .seq (
 .reg [⟨some 4, none, .mv (.c (.d (.int 0)))⟩]) (
 .ret))),
 [.t 4]⟩

theorem k_spec_l12Dim : cFun Try.prog Try.f95 = some C_spec_l12Dim.erase := by kernel_rfl

def L0_spec_l12Dims : C :=
 .seq (
 .reg [⟨some 12, none, .bin .lss (.t 11) (.t 10)⟩]) (
 .seq (
 .cond (.t 12) (
 .skip) (
 .exit 0)) (
 .seq (
 .block 1 (
 .seq (
 .reg [⟨some 13, none, .idx 1 (.t 9) (.t 11)⟩,
 ⟨some 14, none, .ld (.t 13)⟩,
 ⟨some 7, none, .mv (.t 14)⟩]) (
 .reg [⟨some 15, none, .mv (.t 5)⟩,
 ⟨some 16, none, .mv (.t 0)⟩,
 ⟨some 17, none, .mv (.t 7)⟩,
 ⟨some 18, none, .call 95 [(.t 16), (.t 17)]⟩,
 ⟨some 19, none, .mksl 1 1 [.d (.int 0)] [(0, 1, (.t 18))]⟩,
 ⟨some 20, none, .app 1 8 [.d (.int 0)] (.t 15) (.t 19)⟩,
 ⟨some 5, none, .mv (.t 20)⟩]))) (
 .reg [⟨some 21, none, .bin .add (.t 11) (.c (.d (.int 1)))⟩,
 ⟨some 11, none, .mv (.t 21)⟩])))

def C_spec_l12Dims : Fun := ⟨2, 23,
 .seq (
 .reg [⟨some 4, none, .mv (.c (.nil))⟩]) (
 .seq (
 .reg [⟨some 8, none, .mksl 1 0 [.d (.int 0)] []⟩,
 ⟨some 5, none, .mv (.t 8)⟩]) (
 .seq (
 .seq (
 .reg [⟨some 9, none, .mv (.t 1)⟩,
 ⟨some 10, none, .len (.t 9)⟩,
 ⟨some 11, none, .mv (.c (.d (.int 0)))⟩]) (
 .block 0 (
 .loop L0_spec_l12Dims))) (
 .seq (
 .reg [⟨some 22, none, .mv (.t 5)⟩,
 ⟨some 4, none, .mv (.t 22)⟩]) (
 .ret)))),
 [.t 4]⟩

theorem k_spec_l12Dims : cFun Try.prog Try.f138 = some C_spec_l12Dims.erase := by kernel_rfl

def L0_laws_toTensorS : C :=
 .seq (
 .seq (
 .reg [⟨some 8, none, .mv (.t 4)⟩,
 ⟨some 9, none, .mv (.t 0)⟩,
 ⟨some 10, none, .len (.t 9)⟩,
 ⟨some 11, none, .bin .lss (.t 8) (.t 10)⟩]) (
 .cond (.t 11) (
 .skip) (
 .exit 0))) (
 .seq (
 .block 1 (
 .reg [⟨some 14, none, .mv (.t 3)⟩,
 ⟨some 15, none, .mv (.t 4)⟩,
 ⟨some 16, none, .mv (.t 0)⟩,
 ⟨some 17, none, .mv (.t 4)⟩,
 ⟨some 18, none, .idx 3 (.t 16) (.t 17)⟩,
 ⟨some 19, none, .ldn 3 (.t 18)⟩,
 ⟨some 20, none, .call 31 [(.t 19)]⟩,
 ⟨some 21, none, .idx 3 (.t 14) (.t 15)⟩,
 ⟨none, none, .st 3 (.t 21) (.t 20)⟩])) (
 .reg [⟨some 12, none, .mv (.t 4)⟩,
 ⟨some 13, none, .bin .add (.t 12) (.c (.d (.int 1)))⟩,
 ⟨some 4, none, .mv (.t 13)⟩]))

def C_laws_toTensorS : Fun := ⟨1, 23,
 .seq (
 .reg [⟨some 2, none, .mv (.c (.nil))⟩]) (
 .seq (
 .reg [⟨some 5, none, .mv (.t 0)⟩,
 ⟨some 6, none, .len (.t 5)⟩,
 ⟨some 7, none, .make 3 72 [.nil, .nil, .nil] (.t 6) (.t 6)⟩,
 ⟨some 3, none, .mv (.t 7)⟩]) (
 .seq (
 .seq (
 .reg [⟨some 4, none, .mv (.c (.d (.int 0)))⟩]) (
 .block 0 (
 .loop L0_laws_toTensorS))) (
 .seq (
 .reg [⟨some 22, none, .mv (.t 3)⟩,
 ⟨some 2, none, .mv (.t 22)⟩]) (
 .ret)))),
 [.t 2]⟩

theorem k_laws_toTensorS : cFun Try.prog Try.f65 = some C_laws_toTensorS.erase := by kernel_rfl

def L0_impl_dimsOf : C :=
 .seq (
 .reg [⟨some 19, none, .bin .lss (.t 18) (.t 17)⟩]) (
 .seq (
 .cond (.t 19) (
 .skip) (
 .exit 2)) (
 .seq (
 .block 3 (
 .seq (
 .reg [⟨some 20, none, .mv (.t 18)⟩,
 ⟨some 21, none, .idx 1 (.t 16) (.t 18)⟩,
 ⟨some 22, none, .ld (.t 21)⟩,
 ⟨some 7, none, .mv (.t 20)⟩,
 ⟨some 8, none, .mv (.t 22)⟩]) (
 .seq (
 .seq (
 .draw [⟨some 23, none, .mv (.t 8)⟩,
 ⟨some 24, none, .aix 1 100 (.t 4) (.t 23)⟩,
 ⟨some 25, none, .ld (.t 24)⟩,
 ⟨some 26, none, .bin .neq (.t 25) (.c (.d (.int 0)))⟩,
 ⟨some 27, none, .mv (.t 26)⟩,
 ⟨some 28, some (27, true), .mv (.t 8)⟩,
 ⟨some 29, some (27, true), .aix 1 100 (.t 4) (.t 28)⟩,
 ⟨some 30, some (27, true), .ld (.t 29)⟩,
 ⟨some 31, some (27, true), .fld 1 (.t 6)⟩,
 ⟨some 32, some (27, true), .ld (.t 31)⟩,
 ⟨some 33, some (27, true), .mv (.t 7)⟩,
 ⟨some 34, some (27, true), .idx 1 (.t 32) (.t 33)⟩,
 ⟨some 35, some (27, true), .ld (.t 34)⟩]
 [⟨some 36, some (27, true), .bin .neq (.t 30) (.t 35)⟩,
 ⟨some 37, none, .pick (.t 27) (.t 36) (.c (.d (.bool false)))⟩]) (
 .cond (.t 37) (
 .seq (
 .reg [⟨some 38, none, .ldn 100 (.t 4)⟩,
 ⟨none, none, .st 100 (.t 2) (.t 38)⟩,
 ⟨some 3, none, .mv (.c (.d (.bool false)))⟩]) (
 .ret)) (
 .skip))) (
 .reg [⟨some 39, none, .mv (.t 8)⟩,
 ⟨some 40, none, .fld 1 (.t 6)⟩,
 ⟨some 41, none, .ld (.t 40)⟩,
 ⟨some 42, none, .mv (.t 7)⟩,
 ⟨some 43, none, .idx 1 (.t 41) (.t 42)⟩,
 ⟨some 44, none, .ld (.t 43)⟩,
 ⟨some 45, none, .aix 1 100 (.t 4) (.t 39)⟩,
 ⟨none, none, .st 1 (.t 45) (.t 44)⟩])))) (
 .reg [⟨some 46, none, .bin .add (.t 18) (.c (.d (.int 1)))⟩,
 ⟨some 18, none, .mv (.t 46)⟩])))

def L1_impl_dimsOf : C :=
 .seq (
 .reg [⟨some 12, none, .bin .lss (.t 11) (.t 10)⟩]) (
 .seq (
 .cond (.t 12) (
 .skip) (
 .exit 0)) (
 .seq (
 .block 1 (
 .seq (
 .reg [⟨some 13, none, .idx 3 (.t 9) (.t 11)⟩,
 ⟨some 14, none, .ldn 3 (.t 13)⟩,
 ⟨some 6, none, .zer [.nil, .nil, .nil]⟩,
 ⟨none, none, .st 3 (.t 6) (.t 14)⟩]) (
 .seq (
 .reg [⟨some 15, none, .fld 0 (.t 6)⟩,
 ⟨some 16, none, .ld (.t 15)⟩,
 ⟨some 17, none, .len (.t 16)⟩,
 ⟨some 18, none, .mv (.c (.d (.int 0)))⟩]) (
 .block 2 (
 .loop L0_impl_dimsOf))))) (
 .reg [⟨some 47, none, .bin .add (.t 11) (.c (.d (.int 1)))⟩,
 ⟨some 11, none, .mv (.t 47)⟩])))

def C_impl_dimsOf : Fun := ⟨1, 49,
 .seq (
 .reg [⟨some 2, none, .zer (reps 100 (.d (.int 0)))⟩,
 ⟨some 3, none, .mv (.c (.d (.bool false)))⟩]) (
 .seq (
 .reg [⟨some 4, none, .zer (reps 100 (.d (.int 0)))⟩]) (
 .seq (
 .seq (
 .reg [⟨some 9, none, .mv (.t 0)⟩,
 ⟨some 10, none, .len (.t 9)⟩,
 ⟨some 11, none, .mv (.c (.d (.int 0)))⟩]) (
 .block 0 (
 .loop L1_impl_dimsOf))) (
 .seq (
 .reg [⟨some 48, none, .ldn 100 (.t 4)⟩,
 ⟨none, none, .st 100 (.t 2) (.t 48)⟩,
 ⟨some 3, none, .mv (.c (.d (.bool true)))⟩]) (
 .ret)))),
 [.cell 2 100, .t 3]⟩

theorem k_impl_dimsOf : cFun Try.prog Try.f141 = some C_impl_dimsOf.erase := by kernel_rfl

def L0_impl_axesOf : C :=
 .seq (
 .reg [⟨some 17, none, .bin .lss (.t 16) (.t 15)⟩]) (
 .seq (
 .cond (.t 17) (
 .skip) (
 .exit 0)) (
 .seq (
 .block 1 (
 .seq (
 .reg [⟨some 18, none, .mv (.t 16)⟩,
 ⟨some 19, none, .idx 1 (.t 14) (.t 16)⟩,
 ⟨some 20, none, .ld (.t 19)⟩,
 ⟨some 6, none, .mv (.t 18)⟩,
 ⟨some 7, none, .mv (.t 20)⟩]) (
 .draw [⟨some 21, none, .fld 1 (.t 5)⟩,
 ⟨some 22, none, .ld (.t 21)⟩,
 ⟨some 23, none, .mv (.t 6)⟩,
 ⟨some 24, none, .mv (.t 7)⟩,
 ⟨some 25, none, .aix 1 100 (.t 2) (.t 24)⟩,
 ⟨some 26, none, .ld (.t 25)⟩]
 [⟨some 27, none, .idx 1 (.t 22) (.t 23)⟩,
 ⟨none, none, .st 1 (.t 27) (.t 26)⟩]))) (
 .reg [⟨some 28, none, .bin .add (.t 16) (.c (.d (.int 1)))⟩,
 ⟨some 16, none, .mv (.t 28)⟩])))

def C_impl_axesOf : Fun := ⟨2, 30,
 .seq (
 .reg [⟨some 2, none, .box (.t 0)⟩,
 ⟨some 4, none, .zer [.nil, .nil, .nil]⟩]) (
 .seq (
 .draw [⟨some 8, none, .mv (.t 1)⟩,
 ⟨some 9, none, .call 143 [(.t 8)]⟩,
 ⟨some 10, none, .mv (.t 1)⟩,
 ⟨some 11, none, .len (.t 10)⟩,
 ⟨some 12, none, .make 1 8 [.d (.int 0)] (.t 11) (.t 11)⟩,
 ⟨some 13, none, .agg [.nil, .nil, .nil] [(0, 1, (.t 9)), (1, 1, (.t 12))]⟩,
 ⟨some 5, none, .zer [.nil, .nil, .nil]⟩]
 [⟨none, none, .st 3 (.t 5) (.t 13)⟩]) (
 .seq (
 .seq (
 .reg [⟨some 14, none, .mv (.t 1)⟩,
 ⟨some 15, none, .len (.t 14)⟩,
 ⟨some 16, none, .mv (.c (.d (.int 0)))⟩]) (
 .block 0 (
 .loop L0_impl_axesOf))) (
 .seq (
 .reg [⟨some 29, none, .ldn 3 (.t 5)⟩,
 ⟨none, none, .st 3 (.t 4) (.t 29)⟩]) (
 .ret)))),
 [.cell 4 3]⟩

theorem k_impl_axesOf : cFun Try.prog Try.f142 = some C_impl_axesOf.erase := by kernel_rfl

def C_laws_eqRing : Fun := ⟨2, 20,
 .seq (
 .reg [⟨some 2, none, .box (.t 0)⟩,
 ⟨some 3, none, .box (.t 1)⟩,
 ⟨some 4, none, .mv (.c (.d (.bool false)))⟩]) (
 .seq (
 .seq (
 .reg [⟨some 5, none, .fld 0 (.t 2)⟩,
 ⟨some 6, none, .ld (.t 5)⟩,
 ⟨some 7, none, .fld 0 (.t 3)⟩,
 ⟨some 8, none, .ld (.t 7)⟩,
 ⟨some 9, none, .bin .neq (.t 6) (.t 8)⟩]) (
 .cond (.t 9) (
 .seq (
 .reg [⟨some 4, none, .mv (.c (.d (.bool false)))⟩]) (
 .ret)) (
 .skip))) (
 .seq (
 .seq (
 .reg [⟨some 10, none, .fld 1 (.t 2)⟩,
 ⟨some 11, none, .ld (.t 10)⟩,
 ⟨some 12, none, .fld 1 (.t 3)⟩,
 ⟨some 13, none, .ld (.t 12)⟩,
 ⟨some 14, none, .bin .neq (.t 11) (.t 13)⟩]) (
 .cond (.t 14) (
 .seq (
 .reg [⟨some 4, none, .mv (.c (.d (.bool false)))⟩]) (
 .ret)) (
 .skip))) (
 .seq (
 .seq (
 .reg [⟨some 15, none, .fld 2 (.t 2)⟩,
 ⟨some 16, none, .ld (.t 15)⟩,
 ⟨some 17, none, .fld 2 (.t 3)⟩,
 ⟨some 18, none, .ld (.t 17)⟩,
 ⟨some 19, none, .bin .neq (.t 16) (.t 18)⟩]) (
 .cond (.t 19) (
 .seq (
 .reg [⟨some 4, none, .mv (.c (.d (.bool false)))⟩]) (
 .ret)) (
 .skip))) (
 .seq (
 .reg [⟨some 4, none, .mv (.c (.d (.bool true)))⟩]) (
 .ret))))),
 [.t 4]⟩

theorem k_laws_eqRing : cFun Try.prog Try.f70 = some C_laws_eqRing.erase := by kernel_rfl

def L0_laws_eqTensorS : C :=
 .seq (
 .seq (
 .reg [⟨some 11, none, .mv (.t 5)⟩,
 ⟨some 12, none, .mv (.t 0)⟩,
 ⟨some 13, none, .len (.t 12)⟩,
 ⟨some 14, none, .bin .lss (.t 11) (.t 13)⟩]) (
 .cond (.t 14) (
 .skip) (
 .exit 0))) (
 .seq (
 .block 1 (
 .seq (
 .draw [⟨some 17, none, .mv (.t 0)⟩,
 ⟨some 18, none, .mv (.t 5)⟩,
 ⟨some 19, none, .idx 3 (.t 17) (.t 18)⟩,
 ⟨some 20, none, .ldn 3 (.t 19)⟩,
 ⟨some 21, none, .mv (.t 1)⟩,
 ⟨some 22, none, .mv (.t 5)⟩,
 ⟨some 23, none, .idx 3 (.t 21) (.t 22)⟩,
 ⟨some 24, none, .ldn 3 (.t 23)⟩]
 [⟨some 25, none, .call 33 [(.t 20), (.t 24)]⟩,
 ⟨some 26, none, .not (.t 25)⟩]) (
 .cond (.t 26) (
 .seq (
 .reg [⟨some 4, none, .mv (.c (.d (.bool false)))⟩]) (
 .ret)) (
 .skip)))) (
 .reg [⟨some 15, none, .mv (.t 5)⟩,
 ⟨some 16, none, .bin .add (.t 15) (.c (.d (.int 1)))⟩,
 ⟨some 5, none, .mv (.t 16)⟩]))

def C_laws_eqTensorS : Fun := ⟨2, 27,
 .seq (
 .reg [⟨some 4, none, .mv (.c (.d (.bool false)))⟩]) (
 .seq (
 .seq (
 .reg [⟨some 6, none, .mv (.t 0)⟩,
 ⟨some 7, none, .len (.t 6)⟩,
 ⟨some 8, none, .mv (.t 1)⟩,
 ⟨some 9, none, .len (.t 8)⟩,
 ⟨some 10, none, .bin .neq (.t 7) (.t 9)⟩]) (
 .cond (.t 10) (
 .seq (
 .reg [⟨some 4, none, .mv (.c (.d (.bool false)))⟩]) (
 .ret)) (
 .skip))) (
 .seq (
 .seq (
 .reg [⟨some 5, none, .mv (.c (.d (.int 0)))⟩]) (
 .block 0 (
 .loop L0_laws_eqTensorS))) (
 .seq (
 .reg [⟨some 4, none, .mv (.c (.d (.bool true)))⟩]) (
 .ret)))),
 [.t 4]⟩

theorem k_laws_eqTensorS : cFun Try.prog Try.f71 = some C_laws_eqTensorS.erase := by kernel_rfl

end Go.Proofs.Ytcgnehacihjnkaa

/-
  The compiled code of functions of the seat (written by mkcode.py). No condition.
-/
namespace Go.Proofs.Ytcgnehacihjnkaa
open Go.Lift

def L0_laws_eqStepS : C :=
 .seq (
 .seq (
 .reg [⟨some 11, none, .mv (.t 5)⟩,
 ⟨some 12, none, .mv (.t 0)⟩,
 ⟨some 13, none, .len (.t 12)⟩,
 ⟨some 14, none, .bin .lss (.t 11) (.t 13)⟩]) (
 .cond (.t 14) (
 .skip) (
 .exit 0))) (
 .seq (
 .block 1 (
 .seq (
 .draw [⟨some 17, none, .mv (.t 0)⟩,
 ⟨some 18, none, .mv (.t 5)⟩,
 ⟨some 19, none, .idx 2 (.t 17) (.t 18)⟩,
 ⟨some 20, none, .ldn 2 (.t 19)⟩,
 ⟨some 21, none, .mv (.t 1)⟩,
 ⟨some 22, none, .mv (.t 5)⟩,
 ⟨some 23, none, .idx 2 (.t 21) (.t 22)⟩,
 ⟨some 24, none, .ldn 2 (.t 23)⟩]
 [⟨some 25, none, .call 115 [(.t 20), (.t 24)]⟩,
 ⟨some 26, none, .not (.t 25)⟩]) (
 .cond (.t 26) (
 .seq (
 .reg [⟨some 4, none, .mv (.c (.d (.bool false)))⟩]) (
 .ret)) (
 .skip)))) (
 .reg [⟨some 15, none, .mv (.t 5)⟩,
 ⟨some 16, none, .bin .add (.t 15) (.c (.d (.int 1)))⟩,
 ⟨some 5, none, .mv (.t 16)⟩]))

def C_laws_eqStepS : Fun := ⟨2, 27,
 .seq (
 .reg [⟨some 4, none, .mv (.c (.d (.bool false)))⟩]) (
 .seq (
 .seq (
 .reg [⟨some 6, none, .mv (.t 0)⟩,
 ⟨some 7, none, .len (.t 6)⟩,
 ⟨some 8, none, .mv (.t 1)⟩,
 ⟨some 9, none, .len (.t 8)⟩,
 ⟨some 10, none, .bin .neq (.t 7) (.t 9)⟩]) (
 .cond (.t 10) (
 .seq (
 .reg [⟨some 4, none, .mv (.c (.d (.bool false)))⟩]) (
 .ret)) (
 .skip))) (
 .seq (
 .seq (
 .reg [⟨some 5, none, .mv (.c (.d (.int 0)))⟩]) (
 .block 0 (
 .loop L0_laws_eqStepS))) (
 .seq (
 .reg [⟨some 4, none, .mv (.c (.d (.bool true)))⟩]) (
 .ret)))),
 [.t 4]⟩

theorem k_laws_eqStepS : cFun Try.prog Try.f52 = some C_laws_eqStepS.erase := by kernel_rfl

def L0_laws_markStepS : C :=
 .seq (
 .seq (
 .reg [⟨some 6, none, .mv (.t 5)⟩,
 ⟨some 7, none, .mv (.t 0)⟩,
 ⟨some 8, none, .len (.t 7)⟩,
 ⟨some 9, none, .bin .lss (.t 6) (.t 8)⟩]) (
 .cond (.t 9) (
 .skip) (
 .exit 0))) (
 .seq (
 .block 1 (
 .seq (
 .reg [⟨some 12, none, .mv (.t 0)⟩,
 ⟨some 13, none, .mv (.t 5)⟩,
 ⟨some 14, none, .mv (.t 1)⟩,
 ⟨some 15, none, .idx 2 (.t 12) (.t 13)⟩,
 ⟨some 16, none, .fld 0 (.t 15)⟩,
 ⟨none, none, .st 1 (.t 16) (.t 14)⟩]) (
 .seq (
 .reg [⟨some 17, none, .mv (.t 1)⟩,
 ⟨some 18, none, .bin .add (.t 17) (.c (.d (.int 1)))⟩,
 ⟨some 1, none, .mv (.t 18)⟩]) (
 .seq (
 .reg [⟨some 19, none, .mv (.t 0)⟩,
 ⟨some 20, none, .mv (.t 5)⟩,
 ⟨some 21, none, .mv (.t 1)⟩,
 ⟨some 22, none, .idx 2 (.t 19) (.t 20)⟩,
 ⟨some 23, none, .fld 1 (.t 22)⟩,
 ⟨none, none, .st 1 (.t 23) (.t 21)⟩]) (
 .reg [⟨some 24, none, .mv (.t 1)⟩,
 ⟨some 25, none, .bin .add (.t 24) (.c (.d (.int 1)))⟩,
 ⟨some 1, none, .mv (.t 25)⟩]))))) (
 .reg [⟨some 10, none, .mv (.t 5)⟩,
 ⟨some 11, none, .bin .add (.t 10) (.c (.d (.int 1)))⟩,
 ⟨some 5, none, .mv (.t 11)⟩]))

def C_laws_markStepS : Fun := ⟨2, 27,
 .seq (
 .reg [⟨some 4, none, .mv (.c (.d (.int 0)))⟩]) (
 .seq (
 .seq (
 .reg [⟨some 5, none, .mv (.c (.d (.int 0)))⟩]) (
 .block 0 (
 .loop L0_laws_markStepS))) (
 .seq (
 .reg [⟨some 26, none, .mv (.t 1)⟩,
 ⟨some 4, none, .mv (.t 26)⟩]) (
 .ret))),
 [.t 4]⟩

theorem k_laws_markStepS : cFun Try.prog Try.f53 = some C_laws_markStepS.erase := by kernel_rfl

def L0_laws_heldStepS : C :=
 .seq (
 .seq (
 .reg [⟨some 6, none, .mv (.t 5)⟩,
 ⟨some 7, none, .mv (.t 0)⟩,
 ⟨some 8, none, .len (.t 7)⟩,
 ⟨some 9, none, .bin .lss (.t 6) (.t 8)⟩]) (
 .cond (.t 9) (
 .skip) (
 .exit 0))) (
 .seq (
 .block 1 (
 .seq (
 .seq (
 .reg [⟨some 12, none, .mv (.t 0)⟩,
 ⟨some 13, none, .mv (.t 5)⟩,
 ⟨some 14, none, .idx 2 (.t 12) (.t 13)⟩,
 ⟨some 15, none, .fld 0 (.t 14)⟩,
 ⟨some 16, none, .ld (.t 15)⟩,
 ⟨some 17, none, .mv (.t 1)⟩,
 ⟨some 18, none, .bin .neq (.t 16) (.t 17)⟩]) (
 .cond (.t 18) (
 .seq (
 .reg [⟨some 4, none, .mv (.c (.d (.int (-1))))⟩]) (
 .ret)) (
 .skip))) (
 .seq (
 .reg [⟨some 19, none, .mv (.t 1)⟩,
 ⟨some 20, none, .bin .add (.t 19) (.c (.d (.int 1)))⟩,
 ⟨some 1, none, .mv (.t 20)⟩]) (
 .seq (
 .seq (
 .reg [⟨some 21, none, .mv (.t 0)⟩,
 ⟨some 22, none, .mv (.t 5)⟩,
 ⟨some 23, none, .idx 2 (.t 21) (.t 22)⟩,
 ⟨some 24, none, .fld 1 (.t 23)⟩,
 ⟨some 25, none, .ld (.t 24)⟩,
 ⟨some 26, none, .mv (.t 1)⟩,
 ⟨some 27, none, .bin .neq (.t 25) (.t 26)⟩]) (
 .cond (.t 27) (
 .seq (
 .reg [⟨some 4, none, .mv (.c (.d (.int (-1))))⟩]) (
 .ret)) (
 .skip))) (
 .reg [⟨some 28, none, .mv (.t 1)⟩,
 ⟨some 29, none, .bin .add (.t 28) (.c (.d (.int 1)))⟩,
 ⟨some 1, none, .mv (.t 29)⟩]))))) (
 .reg [⟨some 10, none, .mv (.t 5)⟩,
 ⟨some 11, none, .bin .add (.t 10) (.c (.d (.int 1)))⟩,
 ⟨some 5, none, .mv (.t 11)⟩]))

def C_laws_heldStepS : Fun := ⟨2, 31,
 .seq (
 .reg [⟨some 4, none, .mv (.c (.d (.int 0)))⟩]) (
 .seq (
 .seq (
 .reg [⟨some 5, none, .mv (.c (.d (.int 0)))⟩]) (
 .block 0 (
 .loop L0_laws_heldStepS))) (
 .seq (
 .reg [⟨some 30, none, .mv (.t 1)⟩,
 ⟨some 4, none, .mv (.t 30)⟩]) (
 .ret))),
 [.t 4]⟩

theorem k_laws_heldStepS : cFun Try.prog Try.f54 = some C_laws_heldStepS.erase := by kernel_rfl

def C_laws_szStepS : Fun := ⟨2, 12,
 .seq (
 .reg [⟨some 4, none, .mv (.c (.d (.int 0)))⟩]) (
 .seq (
 .reg [⟨some 5, none, .mv (.t 1)⟩,
 ⟨some 6, none, .mv (.t 0)⟩,
 ⟨some 7, none, .len (.t 6)⟩,
 ⟨some 8, none, .bin .sub (.t 5) (.t 7)⟩,
 ⟨some 1, none, .mv (.t 8)⟩]) (
 .seq (
 .seq (
 .reg [⟨some 9, none, .mv (.t 1)⟩,
 ⟨some 10, none, .bin .lss (.t 9) (.c (.d (.int 0)))⟩]) (
 .cond (.t 10) (
 .seq (
 .reg [⟨some 4, none, .mv (.c (.d (.int (-1))))⟩]) (
 .ret)) (
 .skip))) (
 .seq (
 .reg [⟨some 11, none, .mv (.t 1)⟩,
 ⟨some 4, none, .mv (.t 11)⟩]) (
 .ret)))),
 [.t 4]⟩

theorem k_laws_szStepS : cFun Try.prog Try.f48 = some C_laws_szStepS.erase := by kernel_rfl

def L0_laws_toStepS : C :=
 .seq (
 .seq (
 .reg [⟨some 8, none, .mv (.t 4)⟩,
 ⟨some 9, none, .mv (.t 0)⟩,
 ⟨some 10, none, .len (.t 9)⟩,
 ⟨some 11, none, .bin .lss (.t 8) (.t 10)⟩]) (
 .cond (.t 11) (
 .skip) (
 .exit 0))) (
 .seq (
 .block 1 (
 .reg [⟨some 14, none, .mv (.t 3)⟩,
 ⟨some 15, none, .mv (.t 4)⟩,
 ⟨some 16, none, .mv (.t 0)⟩,
 ⟨some 17, none, .mv (.t 4)⟩,
 ⟨some 18, none, .idx 2 (.t 16) (.t 17)⟩,
 ⟨some 19, none, .ldn 2 (.t 18)⟩,
 ⟨some 20, none, .call 112 [(.t 19)]⟩,
 ⟨some 21, none, .idx 2 (.t 14) (.t 15)⟩,
 ⟨none, none, .st 2 (.t 21) (.t 20)⟩])) (
 .reg [⟨some 12, none, .mv (.t 4)⟩,
 ⟨some 13, none, .bin .add (.t 12) (.c (.d (.int 1)))⟩,
 ⟨some 4, none, .mv (.t 13)⟩]))

def C_laws_toStepS : Fun := ⟨1, 23,
 .seq (
 .reg [⟨some 2, none, .mv (.c (.nil))⟩]) (
 .seq (
 .reg [⟨some 5, none, .mv (.t 0)⟩,
 ⟨some 6, none, .len (.t 5)⟩,
 ⟨some 7, none, .make 2 16 [.d (.int 0), .d (.int 0)] (.t 6) (.t 6)⟩,
 ⟨some 3, none, .mv (.t 7)⟩]) (
 .seq (
 .seq (
 .reg [⟨some 4, none, .mv (.c (.d (.int 0)))⟩]) (
 .block 0 (
 .loop L0_laws_toStepS))) (
 .seq (
 .reg [⟨some 22, none, .mv (.t 3)⟩,
 ⟨some 2, none, .mv (.t 22)⟩]) (
 .ret)))),
 [.t 2]⟩

theorem k_laws_toStepS : cFun Try.prog Try.f50 = some C_laws_toStepS.erase := by kernel_rfl

def C_laws_eqStep : Fun := ⟨2, 15,
 .seq (
 .reg [⟨some 2, none, .box (.t 0)⟩,
 ⟨some 3, none, .box (.t 1)⟩,
 ⟨some 4, none, .mv (.c (.d (.bool false)))⟩]) (
 .seq (
 .seq (
 .reg [⟨some 5, none, .fld 0 (.t 2)⟩,
 ⟨some 6, none, .ld (.t 5)⟩,
 ⟨some 7, none, .fld 0 (.t 3)⟩,
 ⟨some 8, none, .ld (.t 7)⟩,
 ⟨some 9, none, .bin .neq (.t 6) (.t 8)⟩]) (
 .cond (.t 9) (
 .seq (
 .reg [⟨some 4, none, .mv (.c (.d (.bool false)))⟩]) (
 .ret)) (
 .skip))) (
 .seq (
 .seq (
 .reg [⟨some 10, none, .fld 1 (.t 2)⟩,
 ⟨some 11, none, .ld (.t 10)⟩,
 ⟨some 12, none, .fld 1 (.t 3)⟩,
 ⟨some 13, none, .ld (.t 12)⟩,
 ⟨some 14, none, .bin .neq (.t 11) (.t 13)⟩]) (
 .cond (.t 14) (
 .seq (
 .reg [⟨some 4, none, .mv (.c (.d (.bool false)))⟩]) (
 .ret)) (
 .skip))) (
 .seq (
 .reg [⟨some 4, none, .mv (.c (.d (.bool true)))⟩]) (
 .ret)))),
 [.t 4]⟩

theorem k_laws_eqStep : cFun Try.prog Try.f115 = some C_laws_eqStep.erase := by kernel_rfl

def C_laws_toStep : Fun := ⟨1, 11,
 .seq (
 .reg [⟨some 1, none, .box (.t 0)⟩,
 ⟨some 2, none, .zer [.d (.int 0), .d (.int 0)]⟩]) (
 .seq (
 .reg [⟨some 3, none, .zer [.d (.int 0), .d (.int 0)]⟩]) (
 .seq (
 .reg [⟨some 4, none, .fld 0 (.t 1)⟩,
 ⟨some 5, none, .ld (.t 4)⟩,
 ⟨some 6, none, .fld 0 (.t 3)⟩,
 ⟨none, none, .st 1 (.t 6) (.t 5)⟩]) (
 .seq (
 .reg [⟨some 7, none, .fld 1 (.t 1)⟩,
 ⟨some 8, none, .ld (.t 7)⟩,
 ⟨some 9, none, .fld 1 (.t 3)⟩,
 ⟨none, none, .st 1 (.t 9) (.t 8)⟩]) (
 .seq (
 .reg [⟨some 10, none, .ldn 2 (.t 3)⟩,
 ⟨none, none, .st 2 (.t 2) (.t 10)⟩]) (
 .ret))))),
 [.cell 2 2]⟩

theorem k_laws_toStep : cFun Try.prog Try.f112 = some C_laws_toStep.erase := by kernel_rfl

end Go.Proofs.Ytcgnehacihjnkaa

/-
  The compiled code of functions of the seat (written by mkcode.py). No condition.
-/
namespace Go.Proofs.Ytcgnehacihjnkaa
open Go.Lift

def C_laws_markNetwork : Fun := ⟨2, 14,
 .seq (
 .reg [⟨some 2, none, .box (.t 0)⟩,
 ⟨some 4, none, .mv (.c (.d (.int 0)))⟩]) (
 .seq (
 .reg [⟨some 5, none, .fld 3 (.t 2)⟩,
 ⟨some 6, none, .ld (.t 5)⟩,
 ⟨some 7, none, .mv (.t 1)⟩,
 ⟨some 8, none, .call 72 [(.t 6), (.t 7)]⟩,
 ⟨some 1, none, .mv (.t 8)⟩]) (
 .seq (
 .reg [⟨some 9, none, .fld 4 (.t 2)⟩,
 ⟨some 10, none, .ld (.t 9)⟩,
 ⟨some 11, none, .mv (.t 1)⟩,
 ⟨some 12, none, .call 22 [(.t 10), (.t 11)]⟩,
 ⟨some 1, none, .mv (.t 12)⟩]) (
 .seq (
 .reg [⟨some 13, none, .mv (.t 1)⟩,
 ⟨some 4, none, .mv (.t 13)⟩]) (
 .ret)))),
 [.t 4]⟩

theorem k_laws_markNetwork : cFun Try.prog Try.f21 = some C_laws_markNetwork.erase := by kernel_rfl

def L0_laws_markTensorS : C :=
 .seq (
 .seq (
 .reg [⟨some 6, none, .mv (.t 5)⟩,
 ⟨some 7, none, .mv (.t 0)⟩,
 ⟨some 8, none, .len (.t 7)⟩,
 ⟨some 9, none, .bin .lss (.t 6) (.t 8)⟩]) (
 .gh (.cond (.t 9) (
 .skip) (
 .exit 0)))) (
 .seq (
 .block 1 (
 .seq (
 .reg [⟨some 12, none, .mv (.t 0)⟩,
 ⟨some 13, none, .mv (.t 5)⟩,
 ⟨some 14, none, .idx 3 (.t 12) (.t 13)⟩,
 ⟨some 15, none, .fld 0 (.t 14)⟩,
 ⟨some 16, none, .ld (.t 15)⟩,
 ⟨some 17, none, .mv (.t 1)⟩,
 ⟨some 18, none, .call 22 [(.t 16), (.t 17)]⟩,
 ⟨some 1, none, .mv (.t 18)⟩]) (
 .seq (
 .reg [⟨some 19, none, .mv (.t 0)⟩,
 ⟨some 20, none, .mv (.t 5)⟩,
 ⟨some 21, none, .idx 3 (.t 19) (.t 20)⟩,
 ⟨some 22, none, .fld 1 (.t 21)⟩,
 ⟨some 23, none, .ld (.t 22)⟩,
 ⟨some 24, none, .mv (.t 1)⟩,
 ⟨some 25, none, .call 22 [(.t 23), (.t 24)]⟩,
 ⟨some 1, none, .mv (.t 25)⟩]) (
 .reg [⟨some 26, none, .mv (.t 0)⟩,
 ⟨some 27, none, .mv (.t 5)⟩,
 ⟨some 28, none, .idx 3 (.t 26) (.t 27)⟩,
 ⟨some 29, none, .fld 2 (.t 28)⟩,
 ⟨some 30, none, .ld (.t 29)⟩,
 ⟨some 31, none, .mv (.t 1)⟩,
 ⟨some 32, none, .call 22 [(.t 30), (.t 31)]⟩,
 ⟨some 1, none, .mv (.t 32)⟩])))) (
 .reg [⟨some 10, none, .mv (.t 5)⟩,
 ⟨some 11, none, .bin .add (.t 10) (.c (.d (.int 1)))⟩,
 ⟨some 5, none, .mv (.t 11)⟩]))

def C_laws_markTensorS : Fun := ⟨2, 34,
 .seq (
 .reg [⟨some 4, none, .mv (.c (.d (.int 0)))⟩]) (
 .seq (
 .seq (
 .reg [⟨some 5, none, .mv (.c (.d (.int 0)))⟩]) (
 .block 0 (
 .loop L0_laws_markTensorS))) (
 .seq (
 .reg [⟨some 33, none, .mv (.t 1)⟩,
 ⟨some 4, none, .mv (.t 33)⟩]) (
 .ret))),
 [.t 4]⟩

theorem k_laws_markTensorS : cFun Try.prog Try.f72 = some C_laws_markTensorS.erase := by kernel_rfl

end Go.Proofs.Ytcgnehacihjnkaa

/-
  The compiled code of functions of the seat (written by mkcode.py). No condition.
-/
namespace Go.Proofs.Ytcgnehacihjnkaa
open Go.Lift

def C_spec_SortOrder : Fun := ⟨2, 33,
 .seq (
 .reg [⟨some 2, none, .box (.t 0)⟩,
 ⟨some 4, none, .mv (.c (.nil))⟩,
 ⟨some 5, none, .mv (.c (.d (.bool false)))⟩]) (
 .seq (
 .seq (
 .reg [⟨some 8, none, .ldn 5 (.t 2)⟩,
 ⟨some 9, none, .mv (.t 1)⟩,
 ⟨some 10, none, .call 110 [(.t 8), (.t 9)]⟩,
 ⟨some 11, none, .not (.t 10)⟩]) (
 .cond (.t 11) (
 .seq (
 .reg [⟨some 4, none, .mv (.c (.nil))⟩,
 ⟨some 5, none, .mv (.c (.d (.bool false)))⟩]) (
 .ret)) (
 .skip))) (
 .seq (
 .seq (
 .reg [⟨some 12, none, .mv (.t 1)⟩,
 ⟨some 13, none, .len (.t 12)⟩,
 ⟨some 14, none, .bin .eql (.t 13) (.c (.d (.int 0)))⟩]) (
 .cond (.t 14) (
 .seq (
 .reg [⟨some 15, none, .mksl 2 0 [.d (.int 0), .d (.int 0)] []⟩,
 ⟨some 4, none, .mv (.t 15)⟩,
 ⟨some 5, none, .mv (.c (.d (.bool true)))⟩]) (
 .ret)) (
 .skip))) (
 .seq (
 .reg [⟨some 17, none, .fld 3 (.t 2)⟩,
 ⟨some 18, none, .ld (.t 17)⟩,
 ⟨some 19, none, .len (.t 18)⟩,
 ⟨some 20, none, .mv (.t 1)⟩,
 ⟨some 21, none, .fld 3 (.t 2)⟩,
 ⟨some 22, none, .ld (.t 21)⟩,
 ⟨some 23, none, .len (.t 22)⟩,
 ⟨some 24, none, .mv (.t 1)⟩,
 ⟨some 25, none, .len (.t 24)⟩,
 ⟨some 26, none, .bin .add (.t 23) (.t 25)⟩,
 ⟨some 27, none, .bin .sub (.t 26) (.c (.d (.int 1)))⟩,
 ⟨some 28, none, .mksl 2 0 [.d (.int 0), .d (.int 0)] []⟩,
 ⟨some 29, none, .call 111 [(.t 19), (.t 20), (.t 27), (.t 28)]⟩,
 ⟨some 16, none, .mv (.t 29)⟩,
 ⟨some 30, none, .ext 0 (.t 16)⟩,
 ⟨some 31, none, .ext 1 (.t 16)⟩,
 ⟨some 6, none, .mv (.t 30)⟩,
 ⟨some 7, none, .mv (.t 31)⟩]) (
 .seq (
 .reg [⟨some 32, none, .mv (.t 6)⟩,
 ⟨some 4, none, .mv (.t 32)⟩,
 ⟨some 5, none, .mv (.c (.d (.bool true)))⟩]) (
 .ret))))),
 [.t 4, .t 5]⟩

theorem k_spec_SortOrder : cFun Try.prog Try.f49 = some C_spec_SortOrder.erase := by kernel_rfl

def C_impl_SortOrder : Fun := ⟨2, 27,
 .seq (
 .reg [⟨some 2, none, .box (.t 0)⟩,
 ⟨some 4, none, .mv (.c (.nil))⟩,
 ⟨some 5, none, .mv (.c (.d (.bool false)))⟩]) (
 .seq (
 .seq (
 .reg [⟨some 8, none, .ldn 5 (.t 2)⟩,
 ⟨some 9, none, .mv (.t 1)⟩,
 ⟨some 10, none, .call 113 [(.t 8), (.t 9)]⟩,
 ⟨some 11, none, .not (.t 10)⟩]) (
 .cond (.t 11) (
 .seq (
 .reg [⟨some 4, none, .mv (.c (.nil))⟩,
 ⟨some 5, none, .mv (.c (.d (.bool false)))⟩]) (
 .ret)) (
 .skip))) (
 .seq (
 .gh (.reg [⟨some 6, none, .zer [.nil]⟩])) (
 .seq (
 .seq (
 .reg [⟨some 12, none, .mv (.t 1)⟩,
 ⟨some 13, none, .len (.t 12)⟩,
 ⟨some 14, none, .bin .gtr (.t 13) (.c (.d (.int 0)))⟩]) (
 .cond (.t 14) (
 .seq (
 .reg [⟨some 15, none, .fld 3 (.t 2)⟩,
 ⟨some 16, none, .ld (.t 15)⟩,
 ⟨some 17, none, .len (.t 16)⟩,
 ⟨some 7, none, .mv (.t 17)⟩]) (
 .reg [⟨some 18, none, .mv (.t 7)⟩,
 ⟨some 19, none, .mv (.t 1)⟩,
 ⟨some 20, none, .mv (.t 7)⟩,
 ⟨some 21, none, .mv (.t 1)⟩,
 ⟨some 22, none, .len (.t 21)⟩,
 ⟨some 23, none, .bin .add (.t 20) (.t 22)⟩,
 ⟨some 24, none, .bin .sub (.t 23) (.c (.d (.int 1)))⟩,
 ⟨some 25, none, .call 114 [(.t 18), (.t 19), (.t 24), (.t 6)]⟩])) (
 .skip))) (
 .seq (
 .reg [⟨some 26, none, .ld (.t 6)⟩,
 ⟨some 4, none, .mv (.t 26)⟩,
 ⟨some 5, none, .mv (.c (.d (.bool true)))⟩]) (
 .ret))))),
 [.t 4, .t 5]⟩

theorem k_impl_SortOrder : cFun Try.prog Try.f51 = some C_impl_SortOrder.erase := by kernel_rfl

def C_spec_l23Walk : Fun := ⟨4, 59,
 .seq (
 .reg [⟨some 8, none, .mv (.c (.nil))⟩,
 ⟨some 9, none, .mv (.c (.d (.int 0)))⟩]) (
 .seq (
 .seq (
 .reg [⟨some 12, none, .mv (.t 2)⟩,
 ⟨some 13, none, .mv (.t 0)⟩,
 ⟨some 14, none, .bin .lss (.t 12) (.t 13)⟩]) (
 .cond (.t 14) (
 .seq (
 .reg [⟨some 15, none, .mv (.t 3)⟩,
 ⟨some 16, none, .mv (.t 2)⟩,
 ⟨some 8, none, .mv (.t 15)⟩,
 ⟨some 9, none, .mv (.t 16)⟩]) (
 .ret)) (
 .skip))) (
 .seq (
 .reg [⟨some 18, none, .mv (.t 0)⟩,
 ⟨some 19, none, .mv (.t 1)⟩,
 ⟨some 20, none, .mv (.t 1)⟩,
 ⟨some 21, none, .mv (.t 2)⟩,
 ⟨some 22, none, .mv (.t 0)⟩,
 ⟨some 23, none, .bin .sub (.t 21) (.t 22)⟩,
 ⟨some 24, none, .idx 2 (.t 20) (.t 23)⟩,
 ⟨some 25, none, .fld 0 (.t 24)⟩,
 ⟨some 26, none, .ld (.t 25)⟩,
 ⟨some 27, none, .mv (.t 3)⟩,
 ⟨some 28, none, .call 111 [(.t 18), (.t 19), (.t 26), (.t 27)]⟩,
 ⟨some 17, none, .mv (.t 28)⟩,
 ⟨some 29, none, .ext 0 (.t 17)⟩,
 ⟨some 30, none, .ext 1 (.t 17)⟩,
 ⟨some 3, none, .mv (.t 29)⟩,
 ⟨some 10, none, .mv (.t 30)⟩]) (
 .seq (
 .reg [⟨some 32, none, .mv (.t 0)⟩,
 ⟨some 33, none, .mv (.t 1)⟩,
 ⟨some 34, none, .mv (.t 1)⟩,
 ⟨some 35, none, .mv (.t 2)⟩,
 ⟨some 36, none, .mv (.t 0)⟩,
 ⟨some 37, none, .bin .sub (.t 35) (.t 36)⟩,
 ⟨some 38, none, .idx 2 (.t 34) (.t 37)⟩,
 ⟨some 39, none, .fld 1 (.t 38)⟩,
 ⟨some 40, none, .ld (.t 39)⟩,
 ⟨some 41, none, .mv (.t 3)⟩,
 ⟨some 42, none, .call 111 [(.t 32), (.t 33), (.t 40), (.t 41)]⟩,
 ⟨some 31, none, .mv (.t 42)⟩,
 ⟨some 43, none, .ext 0 (.t 31)⟩,
 ⟨some 44, none, .ext 1 (.t 31)⟩,
 ⟨some 3, none, .mv (.t 43)⟩,
 ⟨some 11, none, .mv (.t 44)⟩]) (
 .seq (
 .reg [⟨some 45, none, .mv (.t 3)⟩,
 ⟨some 46, none, .mv (.t 10)⟩,
 ⟨some 47, none, .mv (.t 11)⟩,
 ⟨some 48, none, .mnx false (.t 46) (.t 47)⟩,
 ⟨some 49, none, .mv (.t 10)⟩,
 ⟨some 50, none, .mv (.t 11)⟩,
 ⟨some 51, none, .mnx true (.t 49) (.t 50)⟩,
 ⟨some 52, none, .agg [.d (.int 0), .d (.int 0)] [(0, 1, (.t 48)), (1, 1, (.t 51))]⟩,
 ⟨some 53, none, .mksl 2 1 [.d (.int 0), .d (.int 0)] [(0, 2, (.t 52))]⟩,
 ⟨some 54, none, .app 2 16 [.d (.int 0), .d (.int 0)] (.t 45) (.t 53)⟩,
 ⟨some 55, none, .mv (.t 0)⟩,
 ⟨some 56, none, .mv (.t 3)⟩,
 ⟨some 57, none, .len (.t 56)⟩,
 ⟨some 58, none, .bin .add (.t 55) (.t 57)⟩,
 ⟨some 8, none, .mv (.t 54)⟩,
 ⟨some 9, none, .mv (.t 58)⟩]) (
 .ret))))),
 [.t 8, .t 9]⟩

theorem k_spec_l23Walk : cFun Try.prog Try.f111 = some C_spec_l23Walk.erase := by kernel_rfl

def C_impl_sortSteps : Fun := ⟨4, 58,
 .seq (
 .reg [⟨some 8, none, .mv (.c (.d (.int 0)))⟩]) (
 .seq (
 .seq (
 .reg [⟨some 11, none, .mv (.t 2)⟩,
 ⟨some 12, none, .mv (.t 0)⟩,
 ⟨some 13, none, .bin .lss (.t 11) (.t 12)⟩]) (
 .cond (.t 13) (
 .seq (
 .reg [⟨some 14, none, .mv (.t 2)⟩,
 ⟨some 8, none, .mv (.t 14)⟩]) (
 .ret)) (
 .skip))) (
 .seq (
 .reg [⟨some 15, none, .mv (.t 0)⟩,
 ⟨some 16, none, .mv (.t 1)⟩,
 ⟨some 17, none, .mv (.t 1)⟩,
 ⟨some 18, none, .mv (.t 2)⟩,
 ⟨some 19, none, .mv (.t 0)⟩,
 ⟨some 20, none, .bin .sub (.t 18) (.t 19)⟩,
 ⟨some 21, none, .idx 2 (.t 17) (.t 20)⟩,
 ⟨some 22, none, .fld 0 (.t 21)⟩,
 ⟨some 23, none, .ld (.t 22)⟩,
 ⟨some 24, none, .mv (.t 3)⟩,
 ⟨some 25, none, .call 114 [(.t 15), (.t 16), (.t 23), (.t 24)]⟩,
 ⟨some 9, none, .mv (.t 25)⟩]) (
 .seq (
 .reg [⟨some 26, none, .mv (.t 0)⟩,
 ⟨some 27, none, .mv (.t 1)⟩,
 ⟨some 28, none, .mv (.t 1)⟩,
 ⟨some 29, none, .mv (.t 2)⟩,
 ⟨some 30, none, .mv (.t 0)⟩,
 ⟨some 31, none, .bin .sub (.t 29) (.t 30)⟩,
 ⟨some 32, none, .idx 2 (.t 28) (.t 31)⟩,
 ⟨some 33, none, .fld 1 (.t 32)⟩,
 ⟨some 34, none, .ld (.t 33)⟩,
 ⟨some 35, none, .mv (.t 3)⟩,
 ⟨some 36, none, .call 114 [(.t 26), (.t 27), (.t 34), (.t 35)]⟩,
 ⟨some 10, none, .mv (.t 36)⟩]) (
 .seq (
 .reg [⟨some 37, none, .mv (.t 3)⟩,
 ⟨some 38, none, .mv (.t 3)⟩,
 ⟨some 39, none, .nck (.t 38)⟩,
 ⟨some 40, none, .ld (.t 39)⟩,
 ⟨some 41, none, .mv (.t 9)⟩,
 ⟨some 42, none, .mv (.t 10)⟩,
 ⟨some 43, none, .mnx false (.t 41) (.t 42)⟩,
 ⟨some 44, none, .mv (.t 9)⟩,
 ⟨some 45, none, .mv (.t 10)⟩,
 ⟨some 46, none, .mnx true (.t 44) (.t 45)⟩,
 ⟨some 47, none, .agg [.d (.int 0), .d (.int 0)] [(0, 1, (.t 43)), (1, 1, (.t 46))]⟩,
 ⟨some 48, none, .mksl 2 1 [.d (.int 0), .d (.int 0)] [(0, 2, (.t 47))]⟩,
 ⟨some 49, none, .app 2 16 [.d (.int 0), .d (.int 0)] (.t 40) (.t 48)⟩,
 ⟨some 50, none, .nck (.t 37)⟩,
 ⟨none, none, .st 1 (.t 50) (.t 49)⟩]) (
 .seq (
 .reg [⟨some 51, none, .mv (.t 0)⟩,
 ⟨some 52, none, .mv (.t 3)⟩,
 ⟨some 53, none, .nck (.t 52)⟩,
 ⟨some 54, none, .ld (.t 53)⟩,
 ⟨some 55, none, .len (.t 54)⟩,
 ⟨some 56, none, .bin .add (.t 51) (.t 55)⟩,
 ⟨some 57, none, .bin .sub (.t 56) (.c (.d (.int 1)))⟩,
 ⟨some 8, none, .mv (.t 57)⟩]) (
 .ret)))))),
 [.t 8]⟩

theorem k_impl_sortSteps : cFun Try.prog Try.f114 = some C_impl_sortSteps.erase := by kernel_rfl

end Go.Proofs.Ytcgnehacihjnkaa

/-
  The compiled code of functions of the seat (written by mkcode.py). No condition.
-/
namespace Go.Proofs.Ytcgnehacihjnkaa
open Go.Lift

end Go.Proofs.Ytcgnehacihjnkaa

/-
  The compiled code of functions of the seat (written by mkcode.py). No condition.
-/
namespace Go.Proofs.Ytcgnehacihjnkaa
open Go.Lift

def L0_spec_l07Join : C :=
 .seq (
 .seq (
 .reg [⟨some 13, none, .mv (.t 10)⟩,
 ⟨some 14, none, .fld 1 (.t 5)⟩,
 ⟨some 15, none, .ld (.t 14)⟩,
 ⟨some 16, none, .call 146 [(.t 15), (.c (.d (.int 4096)))]⟩,
 ⟨some 17, none, .bin .lss (.t 13) (.t 16)⟩]) (
 .cond (.t 17) (
 .skip) (
 .exit 0))) (
 .seq (
 .block 1 (
 .seq (
 .reg [⟨some 20, none, .mv (.t 3)⟩]) (
 .cond (.t 20) (
 .draw [⟨some 21, none, .ldn 3 (.t 4)⟩,
 ⟨some 22, none, .ldn 3 (.t 9)⟩,
 ⟨some 23, none, .mv (.t 10)⟩,
 ⟨some 24, none, .ldn 3 (.t 4)⟩,
 ⟨some 25, none, .ldn 3 (.t 4)⟩,
 ⟨some 26, none, .ldn 3 (.t 5)⟩,
 ⟨some 27, none, .mv (.t 10)⟩,
 ⟨some 28, none, .call 157 [(.t 25), (.t 26), (.t 27)]⟩,
 ⟨some 29, none, .ldn 3 (.t 4)⟩,
 ⟨some 30, none, .ldn 3 (.t 6)⟩,
 ⟨some 31, none, .mv (.t 10)⟩,
 ⟨some 32, none, .call 157 [(.t 29), (.t 30), (.t 31)]⟩,
 ⟨some 33, none, .call 156 [(.t 24), (.t 28), (.t 32)]⟩]
 [⟨some 34, none, .call 155 [(.t 21), (.t 22), (.t 23), (.t 33)]⟩]) (
 .draw [⟨some 35, none, .ldn 3 (.t 4)⟩,
 ⟨some 36, none, .ldn 3 (.t 9)⟩,
 ⟨some 37, none, .mv (.t 10)⟩,
 ⟨some 38, none, .ldn 3 (.t 4)⟩,
 ⟨some 39, none, .ldn 3 (.t 4)⟩,
 ⟨some 40, none, .ldn 3 (.t 5)⟩,
 ⟨some 41, none, .mv (.t 10)⟩,
 ⟨some 42, none, .call 157 [(.t 39), (.t 40), (.t 41)]⟩,
 ⟨some 43, none, .ldn 3 (.t 4)⟩,
 ⟨some 44, none, .ldn 3 (.t 6)⟩,
 ⟨some 45, none, .mv (.t 10)⟩,
 ⟨some 46, none, .call 157 [(.t 43), (.t 44), (.t 45)]⟩,
 ⟨some 47, none, .call 158 [(.t 38), (.t 42), (.t 46)]⟩]
 [⟨some 48, none, .call 155 [(.t 35), (.t 36), (.t 37), (.t 47)]⟩])))) (
 .reg [⟨some 18, none, .mv (.t 10)⟩,
 ⟨some 19, none, .bin .add (.t 18) (.c (.d (.int 1)))⟩,
 ⟨some 10, none, .mv (.t 19)⟩]))

def C_spec_l07Join : Fun := ⟨4, 50,
 .seq (
 .reg [⟨some 4, none, .box (.t 0)⟩,
 ⟨some 5, none, .box (.t 1)⟩,
 ⟨some 6, none, .box (.t 2)⟩,
 ⟨some 8, none, .zer [.nil, .nil, .nil]⟩]) (
 .seq (
 .reg [⟨some 11, none, .ldn 3 (.t 5)⟩,
 ⟨some 12, none, .call 139 [(.t 11)]⟩,
 ⟨some 9, none, .zer [.nil, .nil, .nil]⟩,
 ⟨none, none, .st 3 (.t 9) (.t 12)⟩]) (
 .seq (
 .seq (
 .reg [⟨some 10, none, .mv (.c (.d (.int 0)))⟩]) (
 .block 0 (
 .loop L0_spec_l07Join))) (
 .seq (
 .reg [⟨some 49, none, .ldn 3 (.t 9)⟩,
 ⟨none, none, .st 3 (.t 8) (.t 49)⟩]) (
 .ret)))),
 [.cell 8 3]⟩

theorem k_spec_l07Join : cFun Try.prog Try.f83 = some C_spec_l07Join.erase := by kernel_rfl

def L0_impl_addInto : C :=
 .seq (
 .reg [⟨some 12, none, .bin .lss (.t 11) (.t 10)⟩]) (
 .seq (
 .cond (.t 12) (
 .skip) (
 .exit 1)) (
 .seq (
 .block 2 (
 .seq (
 .reg [⟨some 13, none, .mv (.t 11)⟩,
 ⟨some 6, none, .mv (.t 13)⟩]) (
 .draw [⟨some 14, none, .mv (.t 1)⟩,
 ⟨some 15, none, .mv (.t 6)⟩,
 ⟨some 16, none, .mv (.t 1)⟩,
 ⟨some 17, none, .mv (.t 6)⟩,
 ⟨some 18, none, .idx 1 (.t 16) (.t 17)⟩,
 ⟨some 19, none, .ld (.t 18)⟩,
 ⟨some 20, none, .mv (.t 2)⟩,
 ⟨some 21, none, .mv (.t 6)⟩,
 ⟨some 22, none, .idx 1 (.t 20) (.t 21)⟩,
 ⟨some 23, none, .ld (.t 22)⟩,
 ⟨some 24, none, .bin .add (.t 19) (.t 23)⟩,
 ⟨some 25, none, .fld 1 (.t 3)⟩,
 ⟨some 26, none, .ld (.t 25)⟩,
 ⟨some 27, none, .bin .rem (.t 24) (.t 26)⟩]
 [⟨some 28, none, .idx 1 (.t 14) (.t 15)⟩,
 ⟨none, none, .st 1 (.t 28) (.t 27)⟩]))) (
 .reg [⟨some 29, none, .bin .add (.t 11) (.c (.d (.int 1)))⟩,
 ⟨some 11, none, .mv (.t 29)⟩])))

def C_impl_addInto : Fun := ⟨3, 77,
 .seq (
 .reg [⟨some 3, none, .box (.t 0)⟩]) (
 .seq (
 .reg [⟨some 7, none, .fld 0 (.t 3)⟩,
 ⟨some 8, none, .ld (.t 7)⟩]) (
 .block 0 (
 .seq (
 .seq (
 .reg [⟨some 31, none, .bin .eql (.t 8) (.c (.d (.int 1)))⟩,
 ⟨some 30, none, .mv (.t 31)⟩]) (
 .cond (.t 30) (
 .skip) (
 .reg [⟨some 32, none, .bin .eql (.t 8) (.c (.d (.int 5)))⟩,
 ⟨some 30, none, .mv (.t 32)⟩]))) (
 .cond (.t 30) (
 .draw [⟨some 33, none, .mv (.t 1)⟩,
 ⟨some 34, none, .mv (.t 1)⟩,
 ⟨some 35, none, .idx 1 (.t 34) (.c (.d (.int 0)))⟩,
 ⟨some 36, none, .ld (.t 35)⟩,
 ⟨some 37, none, .mv (.t 2)⟩,
 ⟨some 38, none, .idx 1 (.t 37) (.c (.d (.int 0)))⟩,
 ⟨some 39, none, .ld (.t 38)⟩,
 ⟨some 40, none, .mnx true (.t 36) (.t 39)⟩]
 [⟨some 41, none, .idx 1 (.t 33) (.c (.d (.int 0)))⟩,
 ⟨none, none, .st 1 (.t 41) (.t 40)⟩]) (
 .seq (
 .reg [⟨some 43, none, .bin .eql (.t 8) (.c (.d (.int 3)))⟩,
 ⟨some 42, none, .mv (.t 43)⟩]) (
 .cond (.t 42) (
 .draw [⟨some 44, none, .mv (.t 1)⟩,
 ⟨some 45, none, .mv (.t 1)⟩,
 ⟨some 46, none, .idx 1 (.t 45) (.c (.d (.int 0)))⟩,
 ⟨some 47, none, .ld (.t 46)⟩,
 ⟨some 48, none, .mv (.t 2)⟩,
 ⟨some 49, none, .idx 1 (.t 48) (.c (.d (.int 0)))⟩,
 ⟨some 50, none, .ld (.t 49)⟩,
 ⟨some 51, none, .bin .add (.t 47) (.t 50)⟩,
 ⟨some 52, none, .fld 1 (.t 3)⟩,
 ⟨some 53, none, .ld (.t 52)⟩,
 ⟨some 54, none, .mnx false (.t 51) (.t 53)⟩]
 [⟨some 55, none, .idx 1 (.t 44) (.c (.d (.int 0)))⟩,
 ⟨none, none, .st 1 (.t 55) (.t 54)⟩]) (
 .seq (
 .reg [⟨some 57, none, .bin .eql (.t 8) (.c (.d (.int 4)))⟩,
 ⟨some 56, none, .mv (.t 57)⟩]) (
 .cond (.t 56) (
 .draw [⟨some 58, none, .mv (.t 1)⟩,
 ⟨some 59, none, .mv (.t 1)⟩,
 ⟨some 60, none, .idx 1 (.t 59) (.c (.d (.int 0)))⟩,
 ⟨some 61, none, .ld (.t 60)⟩,
 ⟨some 62, none, .mv (.t 2)⟩,
 ⟨some 63, none, .idx 1 (.t 62) (.c (.d (.int 0)))⟩,
 ⟨some 64, none, .ld (.t 63)⟩,
 ⟨some 65, none, .mnx false (.t 61) (.t 64)⟩]
 [⟨some 66, none, .idx 1 (.t 58) (.c (.d (.int 0)))⟩,
 ⟨none, none, .st 1 (.t 66) (.t 65)⟩]) (
 .seq (
 .reg [⟨some 68, none, .bin .eql (.t 8) (.c (.d (.int 6)))⟩,
 ⟨some 67, none, .mv (.t 68)⟩]) (
 .cond (.t 67) (
 .draw [⟨some 69, none, .mv (.t 1)⟩,
 ⟨some 70, none, .idx 1 (.t 69) (.c (.d (.int 0)))⟩,
 ⟨some 71, none, .ld (.t 70)⟩,
 ⟨some 72, none, .mv (.t 2)⟩,
 ⟨some 73, none, .idx 1 (.t 72) (.c (.d (.int 0)))⟩,
 ⟨some 74, none, .ld (.t 73)⟩]
 [⟨some 75, none, .bin .or (.t 71) (.t 74)⟩,
 ⟨some 76, none, .idx 1 (.t 69) (.c (.d (.int 0)))⟩,
 ⟨none, none, .st 1 (.t 76) (.t 75)⟩]) (
 .seq (
 .reg [⟨some 9, none, .mv (.t 1)⟩,
 ⟨some 10, none, .len (.t 9)⟩,
 ⟨some 11, none, .mv (.c (.d (.int 0)))⟩]) (
 .block 1 (
 .loop L0_impl_addInto))))))))))))),
 []⟩

theorem k_impl_addInto : cFun Try.prog Try.f134 = some C_impl_addInto.erase := by kernel_rfl

def L0_spec_l02Add : C :=
 .seq (
 .reg [⟨some 15, none, .bin .lss (.t 14) (.t 13)⟩]) (
 .seq (
 .cond (.t 15) (
 .skip) (
 .exit 0)) (
 .seq (
 .block 1 (
 .seq (
 .reg [⟨some 16, none, .mv (.t 14)⟩,
 ⟨some 8, none, .mv (.t 16)⟩]) (
 .seq (
 .reg [⟨some 17, none, .fld 0 (.t 3)⟩,
 ⟨some 18, none, .ld (.t 17)⟩]) (
 .block 2 (
 .seq (
 .seq (
 .reg [⟨some 35, none, .bin .eql (.t 18) (.c (.d (.int 1)))⟩,
 ⟨some 34, none, .mv (.t 35)⟩]) (
 .cond (.t 34) (
 .skip) (
 .reg [⟨some 36, none, .bin .eql (.t 18) (.c (.d (.int 6)))⟩,
 ⟨some 34, none, .mv (.t 36)⟩]))) (
 .cond (.t 34) (
 .draw [⟨some 37, none, .mv (.t 7)⟩,
 ⟨some 38, none, .mv (.t 8)⟩,
 ⟨some 39, none, .mv (.t 1)⟩,
 ⟨some 40, none, .mv (.t 8)⟩,
 ⟨some 41, none, .idx 1 (.t 39) (.t 40)⟩,
 ⟨some 42, none, .ld (.t 41)⟩,
 ⟨some 43, none, .mv (.t 2)⟩,
 ⟨some 44, none, .mv (.t 8)⟩,
 ⟨some 45, none, .idx 1 (.t 43) (.t 44)⟩,
 ⟨some 46, none, .ld (.t 45)⟩,
 ⟨some 47, none, .bin .or (.t 42) (.t 46)⟩]
 [⟨some 48, none, .idx 1 (.t 37) (.t 38)⟩,
 ⟨none, none, .st 1 (.t 48) (.t 47)⟩]) (
 .seq (
 .reg [⟨some 50, none, .bin .eql (.t 18) (.c (.d (.int 3)))⟩,
 ⟨some 49, none, .mv (.t 50)⟩]) (
 .cond (.t 49) (
 .draw [⟨some 51, none, .mv (.t 7)⟩,
 ⟨some 52, none, .mv (.t 8)⟩,
 ⟨some 53, none, .mv (.t 1)⟩,
 ⟨some 54, none, .mv (.t 8)⟩,
 ⟨some 55, none, .idx 1 (.t 53) (.t 54)⟩,
 ⟨some 56, none, .ld (.t 55)⟩,
 ⟨some 57, none, .mv (.t 2)⟩,
 ⟨some 58, none, .mv (.t 8)⟩,
 ⟨some 59, none, .idx 1 (.t 57) (.t 58)⟩,
 ⟨some 60, none, .ld (.t 59)⟩,
 ⟨some 61, none, .bin .add (.t 56) (.t 60)⟩,
 ⟨some 62, none, .fld 1 (.t 3)⟩,
 ⟨some 63, none, .ld (.t 62)⟩,
 ⟨some 64, none, .mnx false (.t 61) (.t 63)⟩]
 [⟨some 65, none, .idx 1 (.t 51) (.t 52)⟩,
 ⟨none, none, .st 1 (.t 65) (.t 64)⟩]) (
 .seq (
 .reg [⟨some 67, none, .bin .eql (.t 18) (.c (.d (.int 4)))⟩,
 ⟨some 66, none, .mv (.t 67)⟩]) (
 .cond (.t 66) (
 .draw [⟨some 68, none, .mv (.t 7)⟩,
 ⟨some 69, none, .mv (.t 8)⟩,
 ⟨some 70, none, .mv (.t 1)⟩,
 ⟨some 71, none, .mv (.t 8)⟩,
 ⟨some 72, none, .idx 1 (.t 70) (.t 71)⟩,
 ⟨some 73, none, .ld (.t 72)⟩,
 ⟨some 74, none, .mv (.t 2)⟩,
 ⟨some 75, none, .mv (.t 8)⟩,
 ⟨some 76, none, .idx 1 (.t 74) (.t 75)⟩,
 ⟨some 77, none, .ld (.t 76)⟩,
 ⟨some 78, none, .mnx false (.t 73) (.t 77)⟩]
 [⟨some 79, none, .idx 1 (.t 68) (.t 69)⟩,
 ⟨none, none, .st 1 (.t 79) (.t 78)⟩]) (
 .seq (
 .reg [⟨some 81, none, .bin .eql (.t 18) (.c (.d (.int 5)))⟩,
 ⟨some 80, none, .mv (.t 81)⟩]) (
 .cond (.t 80) (
 .draw [⟨some 82, none, .mv (.t 7)⟩,
 ⟨some 83, none, .mv (.t 8)⟩,
 ⟨some 84, none, .mv (.t 1)⟩,
 ⟨some 85, none, .mv (.t 8)⟩,
 ⟨some 86, none, .idx 1 (.t 84) (.t 85)⟩,
 ⟨some 87, none, .ld (.t 86)⟩,
 ⟨some 88, none, .mv (.t 2)⟩,
 ⟨some 89, none, .mv (.t 8)⟩,
 ⟨some 90, none, .idx 1 (.t 88) (.t 89)⟩,
 ⟨some 91, none, .ld (.t 90)⟩,
 ⟨some 92, none, .mnx true (.t 87) (.t 91)⟩]
 [⟨some 93, none, .idx 1 (.t 82) (.t 83)⟩,
 ⟨none, none, .st 1 (.t 93) (.t 92)⟩]) (
 .draw [⟨some 19, none, .mv (.t 7)⟩,
 ⟨some 20, none, .mv (.t 8)⟩,
 ⟨some 21, none, .mv (.t 1)⟩,
 ⟨some 22, none, .mv (.t 8)⟩,
 ⟨some 23, none, .idx 1 (.t 21) (.t 22)⟩,
 ⟨some 24, none, .ld (.t 23)⟩,
 ⟨some 25, none, .mv (.t 2)⟩,
 ⟨some 26, none, .mv (.t 8)⟩,
 ⟨some 27, none, .idx 1 (.t 25) (.t 26)⟩,
 ⟨some 28, none, .ld (.t 27)⟩,
 ⟨some 29, none, .bin .add (.t 24) (.t 28)⟩,
 ⟨some 30, none, .fld 1 (.t 3)⟩,
 ⟨some 31, none, .ld (.t 30)⟩,
 ⟨some 32, none, .bin .rem (.t 29) (.t 31)⟩]
 [⟨some 33, none, .idx 1 (.t 19) (.t 20)⟩,
 ⟨none, none, .st 1 (.t 33) (.t 32)⟩]))))))))))))) (
 .reg [⟨some 94, none, .bin .add (.t 14) (.c (.d (.int 1)))⟩,
 ⟨some 14, none, .mv (.t 94)⟩])))

def C_spec_l02Add : Fun := ⟨3, 96,
 .seq (
 .reg [⟨some 3, none, .box (.t 0)⟩,
 ⟨some 6, none, .mv (.c (.nil))⟩]) (
 .seq (
 .reg [⟨some 9, none, .mv (.t 1)⟩,
 ⟨some 10, none, .len (.t 9)⟩,
 ⟨some 11, none, .make 1 8 [.d (.int 0)] (.t 10) (.t 10)⟩,
 ⟨some 7, none, .mv (.t 11)⟩]) (
 .seq (
 .seq (
 .reg [⟨some 12, none, .mv (.t 1)⟩,
 ⟨some 13, none, .len (.t 12)⟩,
 ⟨some 14, none, .mv (.c (.d (.int 0)))⟩]) (
 .block 0 (
 .loop L0_spec_l02Add))) (
 .seq (
 .reg [⟨some 95, none, .mv (.t 7)⟩,
 ⟨some 6, none, .mv (.t 95)⟩]) (
 .ret)))),
 [.t 6]⟩

theorem k_spec_l02Add : cFun Try.prog Try.f158 = some C_spec_l02Add.erase := by kernel_rfl

end Go.Proofs.Ytcgnehacihjnkaa
