/-
  The compiled code of functions of the seat (written by mkcode.py). No condition.
-/
import Derived.Test.YtjncdanegoileaaMgOrderPeakC
import Derived.Test.YtjncdanegoileaaProg
import Derived.KernelRfl
import Derived.Deep.RegionHeld3
import Derived.Deep.Slices
namespace Go.Proofs.Ytjncdanegoileaa
open Go.Lift

def L0_laws_toIntS : C :=
      .seq (
      .seq (
      .reg [⟨some 8, none, .mv (.t 4)⟩,
            ⟨some 9, none, .mv (.t 0)⟩,
            ⟨some 10, none, .len (.t 9)⟩,
            ⟨some 11, none, .bin .lss (.t 8) (.t 10)⟩]) (
      .cond (.t 11) (
        .skip) (
        .exit 0))) (
      .seq (
      .block 1 (
        .reg [⟨some 14, none, .mv (.t 3)⟩,
              ⟨some 15, none, .mv (.t 4)⟩,
              ⟨some 16, none, .mv (.t 0)⟩,
              ⟨some 17, none, .mv (.t 4)⟩,
              ⟨some 18, none, .idx 1 (.t 16) (.t 17)⟩,
              ⟨some 19, none, .ld (.t 18)⟩,
              ⟨some 20, none, .idx 1 (.t 14) (.t 15)⟩,
              ⟨none, none, .st 1 (.t 20) (.t 19)⟩])) (
      .reg [⟨some 12, none, .mv (.t 4)⟩,
            ⟨some 13, none, .bin .add (.t 12) (.c (.d (.int 1)))⟩,
            ⟨some 4, none, .mv (.t 13)⟩]))

def C_laws_toIntS : Fun := ⟨1, 22,
  .seq (
  .reg [⟨some 2, none, .mv (.c (.nil))⟩]) (
  .seq (
  .reg [⟨some 5, none, .mv (.t 0)⟩,
        ⟨some 6, none, .len (.t 5)⟩,
        ⟨some 7, none, .make 1 8 [.d (.int 0)] (.t 6) (.t 6)⟩,
        ⟨some 3, none, .mv (.t 7)⟩]) (
  .seq (
  .seq (
  .reg [⟨some 4, none, .mv (.c (.d (.int 0)))⟩]) (
  .block 0 (
    .loop L0_laws_toIntS))) (
  .seq (
  .reg [⟨some 21, none, .mv (.t 3)⟩,
        ⟨some 2, none, .mv (.t 21)⟩]) (
  .ret)))),
  [.t 2]⟩

theorem k_laws_toIntS : cFun Try.prog Try.f55 = some C_laws_toIntS.erase := by kernel_rfl

def C_laws_toRing : Fun := ⟨1, 14,
  .seq (
  .reg [⟨some 1, none, .box (.t 0)⟩,
        ⟨some 2, none, .zer [.d (.int 0), .d (.int 0), .d (.int 0)]⟩]) (
  .seq (
  .reg [⟨some 3, none, .zer [.d (.int 0), .d (.int 0), .d (.int 0)]⟩]) (
  .seq (
  .reg [⟨some 4, none, .fld 0 (.t 1)⟩,
        ⟨some 5, none, .ld (.t 4)⟩,
        ⟨some 6, none, .fld 0 (.t 3)⟩,
        ⟨none, none, .st 1 (.t 6) (.t 5)⟩]) (
  .seq (
  .reg [⟨some 7, none, .fld 1 (.t 1)⟩,
        ⟨some 8, none, .ld (.t 7)⟩,
        ⟨some 9, none, .fld 1 (.t 3)⟩,
        ⟨none, none, .st 1 (.t 9) (.t 8)⟩]) (
  .seq (
  .reg [⟨some 10, none, .fld 2 (.t 1)⟩,
        ⟨some 11, none, .ld (.t 10)⟩,
        ⟨some 12, none, .fld 2 (.t 3)⟩,
        ⟨none, none, .st 1 (.t 12) (.t 11)⟩]) (
  .seq (
  .reg [⟨some 13, none, .ldn 3 (.t 3)⟩,
        ⟨none, none, .st 3 (.t 2) (.t 13)⟩]) (
  .ret)))))),
  [.cell 2 3]⟩

theorem k_laws_toRing : cFun Try.prog Try.f53 = some C_laws_toRing.erase := by kernel_rfl

def C_laws_toTensor : Fun := ⟨1, 17,
  .seq (
  .reg [⟨some 1, none, .box (.t 0)⟩,
        ⟨some 2, none, .zer [.nil, .nil, .nil]⟩]) (
  .seq (
  .reg [⟨some 3, none, .zer [.nil, .nil, .nil]⟩]) (
  .seq (
  .reg [⟨some 4, none, .fld 0 (.t 1)⟩,
        ⟨some 5, none, .ld (.t 4)⟩,
        ⟨some 6, none, .call 55 [(.t 5)]⟩,
        ⟨some 7, none, .fld 0 (.t 3)⟩,
        ⟨none, none, .st 1 (.t 7) (.t 6)⟩]) (
  .seq (
  .reg [⟨some 8, none, .fld 1 (.t 1)⟩,
        ⟨some 9, none, .ld (.t 8)⟩,
        ⟨some 10, none, .call 55 [(.t 9)]⟩,
        ⟨some 11, none, .fld 1 (.t 3)⟩,
        ⟨none, none, .st 1 (.t 11) (.t 10)⟩]) (
  .seq (
  .reg [⟨some 12, none, .fld 2 (.t 1)⟩,
        ⟨some 13, none, .ld (.t 12)⟩,
        ⟨some 14, none, .call 55 [(.t 13)]⟩,
        ⟨some 15, none, .fld 2 (.t 3)⟩,
        ⟨none, none, .st 1 (.t 15) (.t 14)⟩]) (
  .seq (
  .reg [⟨some 16, none, .ldn 3 (.t 3)⟩,
        ⟨none, none, .st 3 (.t 2) (.t 16)⟩]) (
  .ret)))))),
  [.cell 2 3]⟩

theorem k_laws_toTensor : cFun Try.prog Try.f108 = some C_laws_toTensor.erase := by kernel_rfl

def C_laws_szIntS : Fun := ⟨2, 12,
  .seq (
  .reg [⟨some 4, none, .mv (.c (.d (.int 0)))⟩]) (
  .seq (
  .reg [⟨some 5, none, .mv (.t 1)⟩,
        ⟨some 6, none, .mv (.t 0)⟩,
        ⟨some 7, none, .len (.t 6)⟩,
        ⟨some 8, none, .bin .sub (.t 5) (.t 7)⟩,
        ⟨some 1, none, .mv (.t 8)⟩]) (
  .seq (
  .seq (
  .reg [⟨some 9, none, .mv (.t 1)⟩,
        ⟨some 10, none, .bin .lss (.t 9) (.c (.d (.int 0)))⟩]) (
  .cond (.t 10) (
    .seq (
    .reg [⟨some 4, none, .mv (.c (.d (.int (-1))))⟩]) (
    .ret)) (
    .skip))) (
  .seq (
  .reg [⟨some 11, none, .mv (.t 1)⟩,
        ⟨some 4, none, .mv (.t 11)⟩]) (
  .ret)))),
  [.t 4]⟩

theorem k_laws_szIntS : cFun Try.prog Try.f49 = some C_laws_szIntS.erase := by kernel_rfl

def C_laws_szTensor : Fun := ⟨2, 24,
  .seq (
  .reg [⟨some 2, none, .box (.t 0)⟩,
        ⟨some 4, none, .mv (.c (.d (.int 0)))⟩]) (
  .seq (
  .reg [⟨some 5, none, .fld 0 (.t 2)⟩,
        ⟨some 6, none, .ld (.t 5)⟩,
        ⟨some 7, none, .mv (.t 1)⟩,
        ⟨some 8, none, .call 49 [(.t 6), (.t 7)]⟩,
        ⟨some 1, none, .mv (.t 8)⟩]) (
  .seq (
  .seq (
  .reg [⟨some 9, none, .mv (.t 1)⟩,
        ⟨some 10, none, .bin .lss (.t 9) (.c (.d (.int 0)))⟩]) (
  .cond (.t 10) (
    .seq (
    .reg [⟨some 4, none, .mv (.c (.d (.int (-1))))⟩]) (
    .ret)) (
    .skip))) (
  .seq (
  .reg [⟨some 11, none, .fld 1 (.t 2)⟩,
        ⟨some 12, none, .ld (.t 11)⟩,
        ⟨some 13, none, .mv (.t 1)⟩,
        ⟨some 14, none, .call 49 [(.t 12), (.t 13)]⟩,
        ⟨some 1, none, .mv (.t 14)⟩]) (
  .seq (
  .seq (
  .reg [⟨some 15, none, .mv (.t 1)⟩,
        ⟨some 16, none, .bin .lss (.t 15) (.c (.d (.int 0)))⟩]) (
  .cond (.t 16) (
    .seq (
    .reg [⟨some 4, none, .mv (.c (.d (.int (-1))))⟩]) (
    .ret)) (
    .skip))) (
  .seq (
  .reg [⟨some 17, none, .fld 2 (.t 2)⟩,
        ⟨some 18, none, .ld (.t 17)⟩,
        ⟨some 19, none, .mv (.t 1)⟩,
        ⟨some 20, none, .call 49 [(.t 18), (.t 19)]⟩,
        ⟨some 1, none, .mv (.t 20)⟩]) (
  .seq (
  .seq (
  .reg [⟨some 21, none, .mv (.t 1)⟩,
        ⟨some 22, none, .bin .lss (.t 21) (.c (.d (.int 0)))⟩]) (
  .cond (.t 22) (
    .seq (
    .reg [⟨some 4, none, .mv (.c (.d (.int (-1))))⟩]) (
    .ret)) (
    .skip))) (
  .seq (
  .reg [⟨some 23, none, .mv (.t 1)⟩,
        ⟨some 4, none, .mv (.t 23)⟩]) (
  .ret)))))))),
  [.t 4]⟩

theorem k_laws_szTensor : cFun Try.prog Try.f105 = some C_laws_szTensor.erase := by kernel_rfl

def L0_laws_eqIntS : C :=
      .seq (
      .seq (
      .reg [⟨some 11, none, .mv (.t 5)⟩,
            ⟨some 12, none, .mv (.t 0)⟩,
            ⟨some 13, none, .len (.t 12)⟩,
            ⟨some 14, none, .bin .lss (.t 11) (.t 13)⟩]) (
      .cond (.t 14) (
        .skip) (
        .exit 0))) (
      .seq (
      .block 1 (
        .seq (
        .draw [⟨some 17, none, .mv (.t 0)⟩,
               ⟨some 18, none, .mv (.t 5)⟩,
               ⟨some 19, none, .idx 1 (.t 17) (.t 18)⟩,
               ⟨some 20, none, .ld (.t 19)⟩,
               ⟨some 21, none, .mv (.t 1)⟩,
               ⟨some 22, none, .mv (.t 5)⟩,
               ⟨some 23, none, .idx 1 (.t 21) (.t 22)⟩,
               ⟨some 24, none, .ld (.t 23)⟩]
          [⟨some 25, none, .bin .neq (.t 20) (.t 24)⟩]) (
        .cond (.t 25) (
          .seq (
          .reg [⟨some 4, none, .mv (.c (.d (.bool false)))⟩]) (
          .ret)) (
          .skip)))) (
      .reg [⟨some 15, none, .mv (.t 5)⟩,
            ⟨some 16, none, .bin .add (.t 15) (.c (.d (.int 1)))⟩,
            ⟨some 5, none, .mv (.t 16)⟩]))

def C_laws_eqIntS : Fun := ⟨2, 26,
  .seq (
  .reg [⟨some 4, none, .mv (.c (.d (.bool false)))⟩]) (
  .seq (
  .seq (
  .reg [⟨some 6, none, .mv (.t 0)⟩,
        ⟨some 7, none, .len (.t 6)⟩,
        ⟨some 8, none, .mv (.t 1)⟩,
        ⟨some 9, none, .len (.t 8)⟩,
        ⟨some 10, none, .bin .neq (.t 7) (.t 9)⟩]) (
  .cond (.t 10) (
    .seq (
    .reg [⟨some 4, none, .mv (.c (.d (.bool false)))⟩]) (
    .ret)) (
    .skip))) (
  .seq (
  .seq (
  .reg [⟨some 5, none, .mv (.c (.d (.int 0)))⟩]) (
  .block 0 (
    .loop L0_laws_eqIntS))) (
  .seq (
  .reg [⟨some 4, none, .mv (.c (.d (.bool true)))⟩]) (
  .ret)))),
  [.t 4]⟩

theorem k_laws_eqIntS : cFun Try.prog Try.f64 = some C_laws_eqIntS.erase := by kernel_rfl

def C_laws_eqTensor : Fun := ⟨2, 23,
  .seq (
  .reg [⟨some 2, none, .box (.t 0)⟩,
        ⟨some 3, none, .box (.t 1)⟩,
        ⟨some 4, none, .mv (.c (.d (.bool false)))⟩]) (
  .seq (
  .seq (
  .reg [⟨some 5, none, .fld 0 (.t 2)⟩,
        ⟨some 6, none, .ld (.t 5)⟩,
        ⟨some 7, none, .fld 0 (.t 3)⟩,
        ⟨some 8, none, .ld (.t 7)⟩,
        ⟨some 9, none, .call 64 [(.t 6), (.t 8)]⟩,
        ⟨some 10, none, .not (.t 9)⟩]) (
  .cond (.t 10) (
    .seq (
    .reg [⟨some 4, none, .mv (.c (.d (.bool false)))⟩]) (
    .ret)) (
    .skip))) (
  .seq (
  .seq (
  .reg [⟨some 11, none, .fld 1 (.t 2)⟩,
        ⟨some 12, none, .ld (.t 11)⟩,
        ⟨some 13, none, .fld 1 (.t 3)⟩,
        ⟨some 14, none, .ld (.t 13)⟩,
        ⟨some 15, none, .call 64 [(.t 12), (.t 14)]⟩,
        ⟨some 16, none, .not (.t 15)⟩]) (
  .cond (.t 16) (
    .seq (
    .reg [⟨some 4, none, .mv (.c (.d (.bool false)))⟩]) (
    .ret)) (
    .skip))) (
  .seq (
  .seq (
  .reg [⟨some 17, none, .fld 2 (.t 2)⟩,
        ⟨some 18, none, .ld (.t 17)⟩,
        ⟨some 19, none, .fld 2 (.t 3)⟩,
        ⟨some 20, none, .ld (.t 19)⟩,
        ⟨some 21, none, .call 64 [(.t 18), (.t 20)]⟩,
        ⟨some 22, none, .not (.t 21)⟩]) (
  .cond (.t 22) (
    .seq (
    .reg [⟨some 4, none, .mv (.c (.d (.bool false)))⟩]) (
    .ret)) (
    .skip))) (
  .seq (
  .reg [⟨some 4, none, .mv (.c (.d (.bool true)))⟩]) (
  .ret))))),
  [.t 4]⟩

theorem k_laws_eqTensor : cFun Try.prog Try.f116 = some C_laws_eqTensor.erase := by kernel_rfl

def C_impl_copyInts : Fun := ⟨1, 5,
  .seq (
  .reg [⟨some 2, none, .mv (.c (.nil))⟩]) (
  .seq (
  .reg [⟨some 3, none, .mv (.t 0)⟩,
        ⟨some 4, none, .app 1 8 [.d (.int 0)] (.c (.nil)) (.t 3)⟩,
        ⟨some 2, none, .mv (.t 4)⟩]) (
  .ret)),
  [.t 2]⟩

theorem k_impl_copyInts : cFun Try.prog Try.f85 = some C_impl_copyInts.erase := by kernel_rfl

end Go.Proofs.Ytjncdanegoileaa

/-
  The compiled code of functions of the seat (written by mkcode.py). No condition.
-/
namespace Go.Proofs.Ytjncdanegoileaa
open Go.Lift

def L0_spec_l05Product : C :=
 .seq (
 .reg [⟨some 11, none, .bin .lss (.t 10) (.t 9)⟩]) (
 .seq (
 .cond (.t 11) (
 .skip) (
 .exit 0)) (
 .seq (
 .block 1 (
 .seq (
 .reg [⟨some 12, none, .idx 1 (.t 8) (.t 10)⟩,
 ⟨some 13, none, .ld (.t 12)⟩,
 ⟨some 7, none, .mv (.t 13)⟩]) (
 .reg [⟨some 14, none, .mv (.t 5)⟩,
 ⟨some 15, none, .mv (.t 7)⟩,
 ⟨some 16, none, .bin .mul (.t 14) (.t 15)⟩,
 ⟨some 17, none, .mv (.t 1)⟩,
 ⟨some 18, none, .bin .add (.t 17) (.c (.d (.int 1)))⟩,
 ⟨some 19, none, .mnx false (.t 16) (.t 18)⟩,
 ⟨some 5, none, .mv (.t 19)⟩]))) (
 .reg [⟨some 20, none, .bin .add (.t 10) (.c (.d (.int 1)))⟩,
 ⟨some 10, none, .mv (.t 20)⟩])))

def C_spec_l05Product : Fun := ⟨2, 22,
 .seq (
 .reg [⟨some 4, none, .mv (.c (.d (.int 0)))⟩]) (
 .seq (
 .reg [⟨some 5, none, .mv (.c (.d (.int 1)))⟩]) (
 .seq (
 .seq (
 .reg [⟨some 8, none, .mv (.t 0)⟩,
 ⟨some 9, none, .len (.t 8)⟩,
 ⟨some 10, none, .mv (.c (.d (.int 0)))⟩]) (
 .block 0 (
 .loop L0_spec_l05Product))) (
 .seq (
 .reg [⟨some 21, none, .mv (.t 5)⟩,
 ⟨some 4, none, .mv (.t 21)⟩]) (
 .ret)))),
 [.t 4]⟩

theorem k_spec_l05Product : cFun Try.prog Try.f125 = some C_spec_l05Product.erase := by kernel_rfl

def L0_impl_hasInt : C :=
 .seq (
 .reg [⟨some 10, none, .bin .lss (.t 9) (.t 8)⟩]) (
 .seq (
 .cond (.t 10) (
 .skip) (
 .exit 0)) (
 .seq (
 .block 1 (
 .seq (
 .reg [⟨some 11, none, .idx 1 (.t 7) (.t 9)⟩,
 ⟨some 12, none, .ld (.t 11)⟩,
 ⟨some 6, none, .mv (.t 12)⟩]) (
 .seq (
 .reg [⟨some 13, none, .mv (.t 1)⟩,
 ⟨some 14, none, .mv (.t 6)⟩,
 ⟨some 15, none, .bin .eql (.t 13) (.t 14)⟩]) (
 .cond (.t 15) (
 .seq (
 .reg [⟨some 4, none, .mv (.c (.d (.bool true)))⟩]) (
 .ret)) (
 .skip))))) (
 .reg [⟨some 16, none, .bin .add (.t 9) (.c (.d (.int 1)))⟩,
 ⟨some 9, none, .mv (.t 16)⟩])))

def C_impl_hasInt : Fun := ⟨2, 17,
 .seq (
 .reg [⟨some 4, none, .mv (.c (.d (.bool false)))⟩]) (
 .seq (
 .seq (
 .reg [⟨some 7, none, .mv (.t 0)⟩,
 ⟨some 8, none, .len (.t 7)⟩,
 ⟨some 9, none, .mv (.c (.d (.int 0)))⟩]) (
 .block 0 (
 .loop L0_impl_hasInt))) (
 .seq (
 .reg [⟨some 4, none, .mv (.c (.d (.bool false)))⟩]) (
 .ret))),
 [.t 4]⟩

theorem k_impl_hasInt : cFun Try.prog Try.f84 = some C_impl_hasInt.erase := by kernel_rfl

def L0_spec_l08Join : C :=
 .seq (
 .reg [⟨some 22, none, .bin .lss (.t 21) (.t 20)⟩]) (
 .seq (
 .cond (.t 22) (
 .skip) (
 .exit 0)) (
 .seq (
 .block 1 (
 .seq (
 .reg [⟨some 23, none, .mv (.t 21)⟩,
 ⟨some 24, none, .idx 1 (.t 19) (.t 21)⟩,
 ⟨some 25, none, .ld (.t 24)⟩,
 ⟨some 9, none, .mv (.t 23)⟩,
 ⟨some 10, none, .mv (.t 25)⟩]) (
 .seq (
 .reg [⟨some 26, none, .mv (.t 7)⟩,
 ⟨some 27, none, .mv (.t 10)⟩,
 ⟨some 28, none, .call 88 [(.t 26), (.t 27)]⟩,
 ⟨some 11, none, .mv (.t 28)⟩]) (
 .seq (
 .seq (
 .draw [⟨some 29, none, .mv (.t 11)⟩,
 ⟨some 30, none, .bin .geq (.t 29) (.c (.d (.int 0)))⟩,
 ⟨some 31, none, .mv (.t 30)⟩,
 ⟨some 32, some (31, true), .mv (.t 8)⟩,
 ⟨some 33, some (31, true), .mv (.t 11)⟩,
 ⟨some 34, some (31, true), .idx 1 (.t 32) (.t 33)⟩,
 ⟨some 35, some (31, true), .ld (.t 34)⟩,
 ⟨some 36, some (31, true), .fld 1 (.t 3)⟩,
 ⟨some 37, some (31, true), .ld (.t 36)⟩,
 ⟨some 38, some (31, true), .mv (.t 9)⟩,
 ⟨some 39, some (31, true), .idx 1 (.t 37) (.t 38)⟩,
 ⟨some 40, some (31, true), .ld (.t 39)⟩]
 [⟨some 41, some (31, true), .bin .neq (.t 35) (.t 40)⟩,
 ⟨some 42, none, .pick (.t 31) (.t 41) (.c (.d (.bool false)))⟩]) (
 .cond (.t 42) (
 .seq (
 .reg [⟨some 4, none, .mv (.c (.nil))⟩,
 ⟨some 5, none, .mv (.c (.nil))⟩,
 ⟨some 6, none, .mv (.c (.d (.bool false)))⟩]) (
 .ret)) (
 .skip))) (
 .seq (
 .reg [⟨some 43, none, .mv (.t 11)⟩,
 ⟨some 44, none, .bin .lss (.t 43) (.c (.d (.int 0)))⟩]) (
 .cond (.t 44) (
 .seq (
 .reg [⟨some 45, none, .mv (.t 7)⟩,
 ⟨some 46, none, .mv (.t 10)⟩,
 ⟨some 47, none, .mksl 1 1 [.d (.int 0)] [(0, 1, (.t 46))]⟩,
 ⟨some 48, none, .app 1 8 [.d (.int 0)] (.t 45) (.t 47)⟩,
 ⟨some 7, none, .mv (.t 48)⟩]) (
 .reg [⟨some 49, none, .mv (.t 8)⟩,
 ⟨some 50, none, .fld 1 (.t 3)⟩,
 ⟨some 51, none, .ld (.t 50)⟩,
 ⟨some 52, none, .mv (.t 9)⟩,
 ⟨some 53, none, .idx 1 (.t 51) (.t 52)⟩,
 ⟨some 54, none, .ld (.t 53)⟩,
 ⟨some 55, none, .mksl 1 1 [.d (.int 0)] [(0, 1, (.t 54))]⟩,
 ⟨some 56, none, .app 1 8 [.d (.int 0)] (.t 49) (.t 55)⟩,
 ⟨some 8, none, .mv (.t 56)⟩])) (
 .skip))))))) (
 .reg [⟨some 57, none, .bin .add (.t 21) (.c (.d (.int 1)))⟩,
 ⟨some 21, none, .mv (.t 57)⟩])))

def C_spec_l08Join : Fun := ⟨2, 60,
 .seq (
 .reg [⟨some 2, none, .box (.t 0)⟩,
 ⟨some 3, none, .box (.t 1)⟩,
 ⟨some 4, none, .mv (.c (.nil))⟩,
 ⟨some 5, none, .mv (.c (.nil))⟩,
 ⟨some 6, none, .mv (.c (.d (.bool false)))⟩]) (
 .seq (
 .reg [⟨some 12, none, .fld 0 (.t 2)⟩,
 ⟨some 13, none, .ld (.t 12)⟩,
 ⟨some 14, none, .call 89 [(.t 13)]⟩,
 ⟨some 7, none, .mv (.t 14)⟩]) (
 .seq (
 .reg [⟨some 15, none, .fld 1 (.t 2)⟩,
 ⟨some 16, none, .ld (.t 15)⟩,
 ⟨some 17, none, .call 89 [(.t 16)]⟩,
 ⟨some 8, none, .mv (.t 17)⟩]) (
 .seq (
 .seq (
 .reg [⟨some 18, none, .fld 0 (.t 3)⟩,
 ⟨some 19, none, .ld (.t 18)⟩,
 ⟨some 20, none, .len (.t 19)⟩,
 ⟨some 21, none, .mv (.c (.d (.int 0)))⟩]) (
 .block 0 (
 .loop L0_spec_l08Join))) (
 .seq (
 .reg [⟨some 58, none, .mv (.t 7)⟩,
 ⟨some 59, none, .mv (.t 8)⟩,
 ⟨some 4, none, .mv (.t 58)⟩,
 ⟨some 5, none, .mv (.t 59)⟩,
 ⟨some 6, none, .mv (.c (.d (.bool true)))⟩]) (
 .ret))))),
 [.t 4, .t 5, .t 6]⟩

theorem k_spec_l08Join : cFun Try.prog Try.f121 = some C_spec_l08Join.erase := by kernel_rfl

def L0_spec_l05Find : C :=
 .seq (
 .reg [⟨some 10, none, .bin .lss (.t 9) (.t 8)⟩]) (
 .seq (
 .cond (.t 10) (
 .skip) (
 .exit 0)) (
 .seq (
 .block 1 (
 .seq (
 .reg [⟨some 11, none, .mv (.t 9)⟩,
 ⟨some 12, none, .idx 1 (.t 7) (.t 9)⟩,
 ⟨some 13, none, .ld (.t 12)⟩,
 ⟨some 5, none, .mv (.t 11)⟩,
 ⟨some 6, none, .mv (.t 13)⟩]) (
 .seq (
 .reg [⟨some 14, none, .mv (.t 6)⟩,
 ⟨some 15, none, .mv (.t 1)⟩,
 ⟨some 16, none, .bin .eql (.t 14) (.t 15)⟩]) (
 .cond (.t 16) (
 .seq (
 .reg [⟨some 17, none, .mv (.t 5)⟩,
 ⟨some 4, none, .mv (.t 17)⟩]) (
 .ret)) (
 .skip))))) (
 .reg [⟨some 18, none, .bin .add (.t 9) (.c (.d (.int 1)))⟩,
 ⟨some 9, none, .mv (.t 18)⟩])))

def C_spec_l05Find : Fun := ⟨2, 19,
 .seq (
 .reg [⟨some 4, none, .mv (.c (.d (.int 0)))⟩]) (
 .seq (
 .seq (
 .reg [⟨some 7, none, .mv (.t 0)⟩,
 ⟨some 8, none, .len (.t 7)⟩,
 ⟨some 9, none, .mv (.c (.d (.int 0)))⟩]) (
 .block 0 (
 .loop L0_spec_l05Find))) (
 .seq (
 .reg [⟨some 4, none, .mv (.c (.d (.int (-1))))⟩]) (
 .ret))),
 [.t 4]⟩

theorem k_spec_l05Find : cFun Try.prog Try.f88 = some C_spec_l05Find.erase := by kernel_rfl

def C_spec_l05Ints : Fun := ⟨1, 6,
 .seq (
 .reg [⟨some 2, none, .mv (.c (.nil))⟩]) (
 .seq (
 .reg [⟨some 3, none, .mksl 1 0 [.d (.int 0)] []⟩,
 ⟨some 4, none, .mv (.t 0)⟩,
 ⟨some 5, none, .app 1 8 [.d (.int 0)] (.t 3) (.t 4)⟩,
 ⟨some 2, none, .mv (.t 5)⟩]) (
 .ret)),
 [.t 2]⟩

theorem k_spec_l05Ints : cFun Try.prog Try.f89 = some C_spec_l05Ints.erase := by kernel_rfl

def L0_impl_joinLabels : C :=
 .seq (
 .reg [⟨some 13, none, .bin .lss (.t 12) (.t 11)⟩]) (
 .seq (
 .cond (.t 13) (
 .skip) (
 .exit 0)) (
 .seq (
 .block 1 (
 .seq (
 .reg [⟨some 14, none, .idx 1 (.t 10) (.t 12)⟩,
 ⟨some 15, none, .ld (.t 14)⟩,
 ⟨some 7, none, .mv (.t 15)⟩]) (
 .seq (
 .reg [⟨some 16, none, .mv (.t 0)⟩,
 ⟨some 17, none, .mv (.t 7)⟩,
 ⟨some 18, none, .call 84 [(.t 16), (.t 17)]⟩,
 ⟨some 19, none, .not (.t 18)⟩]) (
 .cond (.t 19) (
 .reg [⟨some 20, none, .mv (.t 5)⟩,
 ⟨some 21, none, .mv (.t 7)⟩,
 ⟨some 22, none, .mksl 1 1 [.d (.int 0)] [(0, 1, (.t 21))]⟩,
 ⟨some 23, none, .app 1 8 [.d (.int 0)] (.t 20) (.t 22)⟩,
 ⟨some 5, none, .mv (.t 23)⟩]) (
 .skip))))) (
 .reg [⟨some 24, none, .bin .add (.t 12) (.c (.d (.int 1)))⟩,
 ⟨some 12, none, .mv (.t 24)⟩])))

def C_impl_joinLabels : Fun := ⟨2, 26,
 .seq (
 .reg [⟨some 4, none, .mv (.c (.nil))⟩]) (
 .seq (
 .reg [⟨some 8, none, .mv (.t 0)⟩,
 ⟨some 9, none, .call 85 [(.t 8)]⟩,
 ⟨some 5, none, .mv (.t 9)⟩]) (
 .seq (
 .seq (
 .reg [⟨some 10, none, .mv (.t 1)⟩,
 ⟨some 11, none, .len (.t 10)⟩,
 ⟨some 12, none, .mv (.c (.d (.int 0)))⟩]) (
 .block 0 (
 .loop L0_impl_joinLabels))) (
 .seq (
 .reg [⟨some 25, none, .mv (.t 5)⟩,
 ⟨some 4, none, .mv (.t 25)⟩]) (
 .ret)))),
 [.t 4]⟩

theorem k_impl_joinLabels : cFun Try.prog Try.f103 = some C_impl_joinLabels.erase := by kernel_rfl

end Go.Proofs.Ytjncdanegoileaa

/-
  Contracts: primes and rings, in the program and in the reference. No condition.
-/
namespace Go.Proofs.Ytjncdanegoileaa
open Go.RowKit Plain

set_option maxHeartbeats 400000 in
theorem iIsPrime_c (n : Int) (W : World) : Calls Try.prog 135 #[.int .i64 n] W fun e w' => e = .returned (.bool (isPrime n)) ∧ W = w' := by
  by_cases h1 : n < 2
  · have hr := Lib.hid (isPrime_lo h1)
    go_enter Try.func135, Try.ntmps135
    go_wp2
    go_ret
    exact ⟨ret_bool hr.out.symm, rfl⟩
  by_cases h2 : 1000003 < n
  · have hr := Lib.hid (isPrime_hi h2)
    go_enter Try.func135, Try.ntmps135
    go_wp2
    go_ret
    exact ⟨ret_bool hr.out.symm, rfl⟩
  go_enter Try.func135, Try.ntmps135
  go_wp2
  go_loop [3] (fun i => ∃ k : Nat, 2 ≤ k ∧ k ≤ 1001 ∧ i = .int .i64 k ∧ ∀ d : Nat, 2 ≤ d → d < k → n % d ≠ 0) (fun i => 1001 - (intOf i).toNat)
  case atStart => exact ⟨2, by omega, by omega, rfl, fun d a b => absurd b (by omega)⟩
  case round =>
    obtain ⟨k, hk1, hk2, rfl, hdv⟩ := hrel
    have HD := Lib.hid hdv
    obtain ⟨q1, q2⟩ := sq_bd hk2
    clear hdv
    by_cases hlt : (k : Int) * k ≤ n
    · have hk3 := sq_le hlt (by omega)
      have hdef := Lib.hid (fun h => @isPrime_div n k hk1 hlt (by omega) h)
      by_cases hm : n % (k : Int) = 0
      · have hr := Lib.hid (hdef.out hm)
        have ht : (n % (k : Int) == 0) = true := beq_iff_eq.2 hm
        clear hm
        go_wp2
        go_ret
        exact ⟨ret_bool hr.out.symm, rfl⟩
      · have ht : (n % (k : Int) == 0) = false := beq_eq_false_iff_ne.2 hm
        have HM := Lib.hid hm
        clear hm
        go_wp2
        go_round
        case rel =>
          refine ⟨k + 1, by omega, by omega, by go_num, fun d a b => ?_⟩
          rcases Nat.lt_or_ge d k with h | h
          · exact HD.out d a h
          · obtain rfl : d = k := by omega
            exact HM.out
        case measure => simp [intOf]; omega
    · have hr := Lib.hid (isPrime_yes (by omega) (by omega) HD.out (by omega))
      go_wp2
      go_ret
      exact ⟨ret_bool hr.out.symm, rfl⟩

set_option maxHeartbeats 400000 in
theorem sIsPrime_c (n : Int) (W : World) : Calls Try.prog 138 #[.int .i64 n] W fun e w' => e = .returned (.bool (isPrime n)) ∧ W = w' := by
  go_enter Try.func138, Try.ntmps138
  go_wp2
  go_loop [3] (fun i => ∃ k : Nat, 2 ≤ k ∧ k ≤ 1001 ∧ i = .int .i64 k ∧ ∀ d : Nat, 2 ≤ d → d < k → n % d ≠ 0) (fun i => 1001 - (intOf i).toNat)
  case atStart => exact ⟨2, by omega, by omega, rfl, fun d a b => absurd b (by omega)⟩
  case round =>
    obtain ⟨k, hk1, hk2, rfl, hdv⟩ := hrel
    have HD := Lib.hid hdv
    obtain ⟨q1, q2⟩ := sq_bd hk2
    clear hdv
    by_cases hlt : (k : Int) * k ≤ n
    · by_cases hn : n ≤ 1000003
      · have hk3 := sq_le hlt (by omega)
        have hdef := Lib.hid (fun h => @isPrime_div n k hk1 hlt (by omega) h)
        by_cases hm : n % (k : Int) = 0
        · have hr := Lib.hid (hdef.out hm)
          have ht : (n % (k : Int) == 0) = true := beq_iff_eq.2 hm
          clear hm
          go_wp2
          go_ret
          exact ⟨ret_bool hr.out.symm, rfl⟩
        · have ht : (n % (k : Int) == 0) = false := beq_eq_false_iff_ne.2 hm
          have HM := Lib.hid hm
          clear hm
          go_wp2
          go_round
          case rel =>
            refine ⟨k + 1, by omega, by omega, by go_num, fun d a b => ?_⟩
            rcases Nat.lt_or_ge d k with h | h
            · exact HD.out d a h
            · obtain rfl : d = k := by omega
              exact HM.out
          case measure => simp [intOf]; omega
      · have hr := Lib.hid (@isPrime_hi n (by omega))
        go_wp2_with (go_at_call 50; refine (l01In_no _ _ _ _ (by omega)).mono ?_; rintro e w' ⟨rfl, rfl⟩)
        go_ret
        exact ⟨ret_bool hr.out.symm, rfl⟩
    · by_cases h2 : 2 ≤ n
      · by_cases hn : n ≤ 1000003
        · have hr := Lib.hid (isPrime_yes h2 hn HD.out (by omega))
          go_wp2_with (go_at_call 50; refine (l01In_yes _ _ _ _ (by omega) (by omega)).mono ?_; rintro e w' ⟨rfl, rfl⟩)
          go_ret
          exact ⟨ret_bool hr.out.symm, rfl⟩
        · have hr := Lib.hid (@isPrime_hi n (by omega))
          go_wp2_with (go_at_call 50; refine (l01In_no _ _ _ _ (by omega)).mono ?_; rintro e w' ⟨rfl, rfl⟩)
          go_ret
          exact ⟨ret_bool hr.out.symm, rfl⟩
      · have hr := Lib.hid (@isPrime_lo n (by omega))
        go_wp2_with (go_at_call 50; refine (l01In_no _ _ _ _ (by omega)).mono ?_; rintro e w' ⟨rfl, rfl⟩)
        go_ret
        exact ⟨ret_bool hr.out.symm, rfl⟩

/-- The value of a ring. -/
abbrev rv (r : Rg) : Value := .agg #[.int .i64 r.k, .int .i64 r.p, .int .i64 r.n]

set_option maxHeartbeats 800000 in
theorem rawWidth_c (k p n : Int) (W : World) : Calls Try.prog 136 #[.agg #[.int .i64 k, .int .i64 p, .int .i64 n]] W (RetV W (.int .i64 (width ⟨k, p, n⟩))) := by
  have st0 := Step.alloc W (.cells #[.int .i64 k, .int .i64 p, .int .i64 n] 24)
  by_cases h7 : k = 7
  · subst h7
    go_enter Try.func136, Try.ntmps136
    go_wp2
    go_ret
    exact ⟨rfl, st0⟩
  by_cases h8 : k = 8
  · subst h8
    go_enter Try.func136, Try.ntmps136
    go_wp2
    go_ret
    exact ⟨rfl, st0⟩
  have e : width ⟨k, p, n⟩ = 1 := by unfold width; rw [if_neg h7, if_neg h8]
  rw [e]
  have t7 : (k == 7) = false := by simpa using h7
  have t8 : (k == 8) = false := by simpa using h8
  clear e h7 h8
  go_enter Try.func136, Try.ntmps136
  go_wp2
  go_ret
  exact ⟨rfl, st0⟩

end Go.Proofs.Ytjncdanegoileaa

/-
  Contracts: what rings are right, their widths and tops, in the program and in the reference. No condition.
-/
namespace Go.Proofs.Ytjncdanegoileaa
open Go.RowKit Plain

set_option maxHeartbeats 800000 in
theorem l02Width_c (k p n : Int) (W : World) : Calls Try.prog 139 #[.agg #[.int .i64 k, .int .i64 p, .int .i64 n]] W (RetV W (.int .i64 (width ⟨k, p, n⟩))) := by
  have st0 := Step.alloc W (.cells #[.int .i64 k, .int .i64 p, .int .i64 n] 24)
  by_cases h7 : k = 7
  · subst h7
    go_enter Try.func139, Try.ntmps139
    go_wp2
    go_ret
    exact ⟨rfl, st0⟩
  by_cases h8 : k = 8
  · subst h8
    go_enter Try.func139, Try.ntmps139
    go_wp2
    go_ret
    exact ⟨rfl, st0⟩
  have e : width ⟨k, p, n⟩ = 1 := by unfold width; rw [if_neg h7, if_neg h8]
  rw [e]
  have t7 : (k == 7) = false := by simpa using h7
  have t8 : (k == 8) = false := by simpa using h8
  clear e h7 h8
  go_enter Try.func139, Try.ntmps139
  go_wp2
  go_ret
  exact ⟨rfl, st0⟩

set_option maxHeartbeats 1600000 in
theorem rawTop_c (k p n : Int) (W : World) (h : ringOk ⟨k, p, n⟩ = true) : Calls Try.prog 148 #[.agg #[.int .i64 k, .int .i64 p, .int .i64 n]] W (RetV W (.int .i64 (top ⟨k, p, n⟩))) := by
  have st0 := Step.alloc W (.cells #[.int .i64 k, .int .i64 p, .int .i64 n] 24)
  rcases ringOk_cases h with ⟨rfl, h1, h2⟩ | ⟨rfl, h1, h2⟩ | ⟨rfl, h1, h2, h3⟩ | ⟨rfl, h1, h2, h3⟩ | ⟨rfl, h1, h2, h3⟩ | ⟨rfl, h1, h2, h3⟩ | ⟨rfl, h1, h2, h3⟩ | ⟨rfl, h1, h2, h3⟩
  · have e : top ⟨1, p, n⟩ = 1 := by simp [top]
    rw [e]
    clear e h h1 h2
    go_enter Try.func148, Try.ntmps148
    go_wp2
    go_ret
    exact ⟨rfl, st0⟩
  · have e : top ⟨2, p, n⟩ = p - 1 := by simp [top]
    rw [e]
    have hq := isPrime_bd h1
    obtain ⟨q1, q2⟩ : 2 ≤ p ∧ p ≤ 1000003 := hq
    clear e h h1 h2
    go_enter Try.func148, Try.ntmps148
    go_wp2
    go_ret
    exact ⟨rfl, st0⟩
  · have e : top ⟨3, p, n⟩ = p := by simp [top]
    rw [e]
    clear e h h1 h2 h3
    go_enter Try.func148, Try.ntmps148
    go_wp2
    go_ret
    exact ⟨rfl, st0⟩
  · have e : top ⟨4, p, n⟩ = p := by simp [top]
    rw [e]
    clear e h h1 h2 h3
    go_enter Try.func148, Try.ntmps148
    go_wp2
    go_ret
    exact ⟨rfl, st0⟩
  · have e : top ⟨5, p, n⟩ = p := by simp [top]
    rw [e]
    clear e h h1 h2 h3
    go_enter Try.func148, Try.ntmps148
    go_wp2
    go_ret
    exact ⟨rfl, st0⟩
  · have hb := pow_bd h2 h3
    obtain ⟨m, hm⟩ : ∃ m : Nat, n = (m : Int) := ⟨n.toNat, by have : (1 : Int) ≤ n := h2; omega⟩
    subst hm
    have hm1 : 1 ≤ m := by have : (1 : Int) ≤ (m : Int) := h2; omega
    have hm2 : m ≤ 20 := by have : (m : Int) ≤ 20 := h3; omega
    have e : top ⟨6, p, (m : Int)⟩ = 2 ^ m - 1 := by simp [top]
    rw [e]
    obtain ⟨q1, q2⟩ : 2 ≤ (2 : Int) ^ m ∧ (2 : Int) ^ m ≤ 1048576 := by simpa using hb
    clear e hb h h1 h2 h3
    go_enter Try.func148, Try.ntmps148
    go_wp2
    go_ret
    exact ⟨rfl, st0⟩
  · have e : top ⟨7, p, n⟩ = p - 1 := by simp [top]
    rw [e]
    have hq := isPrime_bd h1
    obtain ⟨q1, q2⟩ : 2 ≤ p ∧ p ≤ 1000003 := hq
    clear e h h1 h2 h3
    go_enter Try.func148, Try.ntmps148
    go_wp2
    go_ret
    exact ⟨rfl, st0⟩
  · have e : top ⟨8, p, n⟩ = p - 1 := by simp [top]
    rw [e]
    have hq := isPrime_bd h1
    obtain ⟨q1, q2⟩ : 2 ≤ p ∧ p ≤ 1000003 := hq
    clear e h h1 h2 h3
    go_enter Try.func148, Try.ntmps148
    go_wp2
    go_ret
    exact ⟨rfl, st0⟩

set_option maxHeartbeats 1600000 in
theorem l02Top_c (k p n : Int) (W : World) (h : ringOk ⟨k, p, n⟩ = true) : Calls Try.prog 140 #[.agg #[.int .i64 k, .int .i64 p, .int .i64 n]] W (RetV W (.int .i64 (top ⟨k, p, n⟩))) := by
  have st0 := Step.alloc W (.cells #[.int .i64 k, .int .i64 p, .int .i64 n] 24)
  rcases ringOk_cases h with ⟨rfl, h1, h2⟩ | ⟨rfl, h1, h2⟩ | ⟨rfl, h1, h2, h3⟩ | ⟨rfl, h1, h2, h3⟩ | ⟨rfl, h1, h2, h3⟩ | ⟨rfl, h1, h2, h3⟩ | ⟨rfl, h1, h2, h3⟩ | ⟨rfl, h1, h2, h3⟩
  · have e : top ⟨1, p, n⟩ = 1 := by simp [top]
    rw [e]
    clear e h h1 h2
    go_enter Try.func140, Try.ntmps140
    go_wp2
    go_ret
    exact ⟨rfl, st0⟩
  · have e : top ⟨2, p, n⟩ = p - 1 := by simp [top]
    rw [e]
    have hq := isPrime_bd h1
    obtain ⟨q1, q2⟩ : 2 ≤ p ∧ p ≤ 1000003 := hq
    clear e h h1 h2
    go_enter Try.func140, Try.ntmps140
    go_wp2
    go_ret
    exact ⟨rfl, st0⟩
  · have e : top ⟨3, p, n⟩ = p := by simp [top]
    rw [e]
    clear e h h1 h2 h3
    go_enter Try.func140, Try.ntmps140
    go_wp2
    go_ret
    exact ⟨rfl, st0⟩
  · have e : top ⟨4, p, n⟩ = p := by simp [top]
    rw [e]
    clear e h h1 h2 h3
    go_enter Try.func140, Try.ntmps140
    go_wp2
    go_ret
    exact ⟨rfl, st0⟩
  · have e : top ⟨5, p, n⟩ = p := by simp [top]
    rw [e]
    clear e h h1 h2 h3
    go_enter Try.func140, Try.ntmps140
    go_wp2
    go_ret
    exact ⟨rfl, st0⟩
  · have hb := pow_bd h2 h3
    obtain ⟨m, hm⟩ : ∃ m : Nat, n = (m : Int) := ⟨n.toNat, by have : (1 : Int) ≤ n := h2; omega⟩
    subst hm
    have hm1 : 1 ≤ m := by have : (1 : Int) ≤ (m : Int) := h2; omega
    have hm2 : m ≤ 20 := by have : (m : Int) ≤ 20 := h3; omega
    have e : top ⟨6, p, (m : Int)⟩ = 2 ^ m - 1 := by simp [top]
    rw [e]
    obtain ⟨q1, q2⟩ : 2 ≤ (2 : Int) ^ m ∧ (2 : Int) ^ m ≤ 1048576 := by simpa using hb
    clear e hb h h1 h2 h3
    go_enter Try.func140, Try.ntmps140
    go_wp2
    go_ret
    exact ⟨rfl, st0⟩
  · have e : top ⟨7, p, n⟩ = p - 1 := by simp [top]
    rw [e]
    have hq := isPrime_bd h1
    obtain ⟨q1, q2⟩ : 2 ≤ p ∧ p ≤ 1000003 := hq
    clear e h h1 h2 h3
    go_enter Try.func140, Try.ntmps140
    go_wp2
    go_ret
    exact ⟨rfl, st0⟩
  · have e : top ⟨8, p, n⟩ = p - 1 := by simp [top]
    rw [e]
    have hq := isPrime_bd h1
    obtain ⟨q1, q2⟩ : 2 ≤ p ∧ p ≤ 1000003 := hq
    clear e h h1 h2 h3
    go_enter Try.func140, Try.ntmps140
    go_wp2
    go_ret
    exact ⟨rfl, st0⟩

end Go.Proofs.Ytjncdanegoileaa

/-
  Contracts: what rings are right, in the program. No condition.
-/
namespace Go.Proofs.Ytjncdanegoileaa
open Go.RowKit Plain

set_option maxHeartbeats 4000000 in
theorem iRingOk_c (k p n : Int) (W : World) : Calls Try.prog 109 #[.agg #[.int .i64 k, .int .i64 p, .int .i64 n]] W (RetV W (.bool (ringOk ⟨k, p, n⟩))) := by
  have st0 := Step.alloc W (.cells #[.int .i64 k, .int .i64 p, .int .i64 n] 24)
  by_cases h1 : k = 1
  · subst h1
    by_cases g0 : p = 0
    · by_cases g1 : n = 0
      · have HR := Lib.hid (show ringOk ⟨1, p, n⟩ = true by simp [ringOk, g0, g1])
        subst g0
        subst g1
        go_enter Try.func109, Try.ntmps109
        go_wp2_with (first | (go_at_call 135; refine (iIsPrime_c _ _).mono ?_; rintro e w' ⟨rfl, rfl⟩))
        go_ret
        first | exact ⟨ret_bool HR.out.symm, st0⟩ | exact ⟨ret_bool (by rw [HR.out]; simp; omega), st0⟩
      · have HR := Lib.hid (show ringOk ⟨1, p, n⟩ = false by simp [ringOk, g0, g1])
        subst g0
        have bg1 : (n == 0) = false := by simpa using g1
        have cg1 : (n != 0) = true := by simpa using g1
        go_enter Try.func109, Try.ntmps109
        go_wp2_with (first | (go_at_call 135; refine (iIsPrime_c _ _).mono ?_; rintro e w' ⟨rfl, rfl⟩))
        go_ret
        first | exact ⟨ret_bool HR.out.symm, st0⟩ | exact ⟨ret_bool (by rw [HR.out]; simp; omega), st0⟩
    · have HR := Lib.hid (show ringOk ⟨1, p, n⟩ = false by simp [ringOk, g0])
      have bg0 : (p == 0) = false := by simpa using g0
      have cg0 : (p != 0) = true := by simpa using g0
      go_enter Try.func109, Try.ntmps109
      go_wp2_with (first | (go_at_call 135; refine (iIsPrime_c _ _).mono ?_; rintro e w' ⟨rfl, rfl⟩))
      go_ret
      first | exact ⟨ret_bool HR.out.symm, st0⟩ | exact ⟨ret_bool (by rw [HR.out]; simp; omega), st0⟩
  have t1 : (k == 1) = false := by simpa using h1
  by_cases h2 : k = 2
  · subst h2
    have hpb := @isPrime_bd p
    by_cases g0 : isPrime p = true
    · by_cases g1 : n = 0
      · have HR := Lib.hid (show ringOk ⟨2, p, n⟩ = true by simp [ringOk, g0, g1])
        subst g1
        clear hpb
        go_enter Try.func109, Try.ntmps109
        go_wp2_with (first | (go_at_call 135; refine (iIsPrime_c _ _).mono ?_; rintro e w' ⟨rfl, rfl⟩))
        go_ret
        first | exact ⟨ret_bool HR.out.symm, st0⟩ | exact ⟨ret_bool (by rw [HR.out]; simp; omega), st0⟩
      · have HR := Lib.hid (show ringOk ⟨2, p, n⟩ = false by simp [ringOk, g0, g1])
        have bg1 : (n == 0) = false := by simpa using g1
        have cg1 : (n != 0) = true := by simpa using g1
        clear hpb
        go_enter Try.func109, Try.ntmps109
        go_wp2_with (first | (go_at_call 135; refine (iIsPrime_c _ _).mono ?_; rintro e w' ⟨rfl, rfl⟩))
        go_ret
        first | exact ⟨ret_bool HR.out.symm, st0⟩ | exact ⟨ret_bool (by rw [HR.out]; simp; omega), st0⟩
    · have HR := Lib.hid (show ringOk ⟨2, p, n⟩ = false by simp [ringOk, g0])
      replace g0 : isPrime p = false := by simpa using g0
      clear hpb
      go_enter Try.func109, Try.ntmps109
      go_wp2_with (first | (go_at_call 135; refine (iIsPrime_c _ _).mono ?_; rintro e w' ⟨rfl, rfl⟩))
      go_ret
      first | exact ⟨ret_bool HR.out.symm, st0⟩ | exact ⟨ret_bool (by rw [HR.out]; simp; omega), st0⟩
  have t2 : (k == 2) = false := by simpa using h2
  by_cases h3 : k = 3
  · subst h3
    by_cases g0 : 1 ≤ p
    · by_cases g1 : p ≤ 1000000
      · by_cases g2 : n = 0
        · have HR := Lib.hid (show ringOk ⟨3, p, n⟩ = true by simp [ringOk, g0, g1, g2])
          subst g2
          go_enter Try.func109, Try.ntmps109
          go_wp2_with (first | (go_at_call 135; refine (iIsPrime_c _ _).mono ?_; rintro e w' ⟨rfl, rfl⟩))
          go_ret
          first | exact ⟨ret_bool HR.out.symm, st0⟩ | exact ⟨ret_bool (by rw [HR.out]; simp; omega), st0⟩
        · have HR := Lib.hid (show ringOk ⟨3, p, n⟩ = false by simp [ringOk, g0, g1, g2])
          have bg2 : (n == 0) = false := by simpa using g2
          have cg2 : (n != 0) = true := by simpa using g2
          go_enter Try.func109, Try.ntmps109
          go_wp2_with (first | (go_at_call 135; refine (iIsPrime_c _ _).mono ?_; rintro e w' ⟨rfl, rfl⟩))
          go_ret
          first | exact ⟨ret_bool HR.out.symm, st0⟩ | exact ⟨ret_bool (by rw [HR.out]; simp; omega), st0⟩
      · have HR := Lib.hid (show ringOk ⟨3, p, n⟩ = false by simp [ringOk, g0, g1])
        go_enter Try.func109, Try.ntmps109
        go_wp2_with (first | (go_at_call 135; refine (iIsPrime_c _ _).mono ?_; rintro e w' ⟨rfl, rfl⟩))
        go_ret
        first | exact ⟨ret_bool HR.out.symm, st0⟩ | exact ⟨ret_bool (by rw [HR.out]; simp; omega), st0⟩
    · have HR := Lib.hid (show ringOk ⟨3, p, n⟩ = false by simp [ringOk, g0])
      go_enter Try.func109, Try.ntmps109
      go_wp2_with (first | (go_at_call 135; refine (iIsPrime_c _ _).mono ?_; rintro e w' ⟨rfl, rfl⟩))
      go_ret
      first | exact ⟨ret_bool HR.out.symm, st0⟩ | exact ⟨ret_bool (by rw [HR.out]; simp; omega), st0⟩
  have t3 : (k == 3) = false := by simpa using h3
  by_cases h4 : k = 4
  · subst h4
    by_cases g0 : 1 ≤ p
    · by_cases g1 : p ≤ 1000000
      · by_cases g2 : n = 0
        · have HR := Lib.hid (show ringOk ⟨4, p, n⟩ = true by simp [ringOk, g0, g1, g2])
          subst g2
          go_enter Try.func109, Try.ntmps109
          go_wp2_with (first | (go_at_call 135; refine (iIsPrime_c _ _).mono ?_; rintro e w' ⟨rfl, rfl⟩))
          go_ret
          first | exact ⟨ret_bool HR.out.symm, st0⟩ | exact ⟨ret_bool (by rw [HR.out]; simp; omega), st0⟩
        · have HR := Lib.hid (show ringOk ⟨4, p, n⟩ = false by simp [ringOk, g0, g1, g2])
          have bg2 : (n == 0) = false := by simpa using g2
          have cg2 : (n != 0) = true := by simpa using g2
          go_enter Try.func109, Try.ntmps109
          go_wp2_with (first | (go_at_call 135; refine (iIsPrime_c _ _).mono ?_; rintro e w' ⟨rfl, rfl⟩))
          go_ret
          first | exact ⟨ret_bool HR.out.symm, st0⟩ | exact ⟨ret_bool (by rw [HR.out]; simp; omega), st0⟩
      · have HR := Lib.hid (show ringOk ⟨4, p, n⟩ = false by simp [ringOk, g0, g1])
        go_enter Try.func109, Try.ntmps109
        go_wp2_with (first | (go_at_call 135; refine (iIsPrime_c _ _).mono ?_; rintro e w' ⟨rfl, rfl⟩))
        go_ret
        first | exact ⟨ret_bool HR.out.symm, st0⟩ | exact ⟨ret_bool (by rw [HR.out]; simp; omega), st0⟩
    · have HR := Lib.hid (show ringOk ⟨4, p, n⟩ = false by simp [ringOk, g0])
      go_enter Try.func109, Try.ntmps109
      go_wp2_with (first | (go_at_call 135; refine (iIsPrime_c _ _).mono ?_; rintro e w' ⟨rfl, rfl⟩))
      go_ret
      first | exact ⟨ret_bool HR.out.symm, st0⟩ | exact ⟨ret_bool (by rw [HR.out]; simp; omega), st0⟩
  have t4 : (k == 4) = false := by simpa using h4
  by_cases h5 : k = 5
  · subst h5
    by_cases g0 : 1 ≤ p
    · by_cases g1 : p ≤ 1000000
      · by_cases g2 : n = 0
        · have HR := Lib.hid (show ringOk ⟨5, p, n⟩ = true by simp [ringOk, g0, g1, g2])
          subst g2
          go_enter Try.func109, Try.ntmps109
          go_wp2_with (first | (go_at_call 135; refine (iIsPrime_c _ _).mono ?_; rintro e w' ⟨rfl, rfl⟩))
          go_ret
          first | exact ⟨ret_bool HR.out.symm, st0⟩ | exact ⟨ret_bool (by rw [HR.out]; simp; omega), st0⟩
        · have HR := Lib.hid (show ringOk ⟨5, p, n⟩ = false by simp [ringOk, g0, g1, g2])
          have bg2 : (n == 0) = false := by simpa using g2
          have cg2 : (n != 0) = true := by simpa using g2
          go_enter Try.func109, Try.ntmps109
          go_wp2_with (first | (go_at_call 135; refine (iIsPrime_c _ _).mono ?_; rintro e w' ⟨rfl, rfl⟩))
          go_ret
          first | exact ⟨ret_bool HR.out.symm, st0⟩ | exact ⟨ret_bool (by rw [HR.out]; simp; omega), st0⟩
      · have HR := Lib.hid (show ringOk ⟨5, p, n⟩ = false by simp [ringOk, g0, g1])
        go_enter Try.func109, Try.ntmps109
        go_wp2_with (first | (go_at_call 135; refine (iIsPrime_c _ _).mono ?_; rintro e w' ⟨rfl, rfl⟩))
        go_ret
        first | exact ⟨ret_bool HR.out.symm, st0⟩ | exact ⟨ret_bool (by rw [HR.out]; simp; omega), st0⟩
    · have HR := Lib.hid (show ringOk ⟨5, p, n⟩ = false by simp [ringOk, g0])
      go_enter Try.func109, Try.ntmps109
      go_wp2_with (first | (go_at_call 135; refine (iIsPrime_c _ _).mono ?_; rintro e w' ⟨rfl, rfl⟩))
      go_ret
      first | exact ⟨ret_bool HR.out.symm, st0⟩ | exact ⟨ret_bool (by rw [HR.out]; simp; omega), st0⟩
  have t5 : (k == 5) = false := by simpa using h5
  by_cases h6 : k = 6
  · subst h6
    by_cases g0 : p = 0
    · by_cases g1 : 1 ≤ n
      · by_cases g2 : n ≤ 20
        · have HR := Lib.hid (show ringOk ⟨6, p, n⟩ = true by simp [ringOk, g0, g1, g2])
          subst g0
          go_enter Try.func109, Try.ntmps109
          go_wp2_with (first | (go_at_call 135; refine (iIsPrime_c _ _).mono ?_; rintro e w' ⟨rfl, rfl⟩))
          go_ret
          first | exact ⟨ret_bool HR.out.symm, st0⟩ | exact ⟨ret_bool (by rw [HR.out]; simp; omega), st0⟩
        · have HR := Lib.hid (show ringOk ⟨6, p, n⟩ = false by simp [ringOk, g0, g1, g2])
          subst g0
          go_enter Try.func109, Try.ntmps109
          go_wp2_with (first | (go_at_call 135; refine (iIsPrime_c _ _).mono ?_; rintro e w' ⟨rfl, rfl⟩))
          go_ret
          first | exact ⟨ret_bool HR.out.symm, st0⟩ | exact ⟨ret_bool (by rw [HR.out]; simp; omega), st0⟩
      · have HR := Lib.hid (show ringOk ⟨6, p, n⟩ = false by simp [ringOk, g0, g1])
        subst g0
        go_enter Try.func109, Try.ntmps109
        go_wp2_with (first | (go_at_call 135; refine (iIsPrime_c _ _).mono ?_; rintro e w' ⟨rfl, rfl⟩))
        go_ret
        first | exact ⟨ret_bool HR.out.symm, st0⟩ | exact ⟨ret_bool (by rw [HR.out]; simp; omega), st0⟩
    · have HR := Lib.hid (show ringOk ⟨6, p, n⟩ = false by simp [ringOk, g0])
      have bg0 : (p == 0) = false := by simpa using g0
      have cg0 : (p != 0) = true := by simpa using g0
      go_enter Try.func109, Try.ntmps109
      go_wp2_with (first | (go_at_call 135; refine (iIsPrime_c _ _).mono ?_; rintro e w' ⟨rfl, rfl⟩))
      go_ret
      first | exact ⟨ret_bool HR.out.symm, st0⟩ | exact ⟨ret_bool (by rw [HR.out]; simp; omega), st0⟩
  have t6 : (k == 6) = false := by simpa using h6
  by_cases h7 : k = 7
  · subst h7
    have hpb := @isPrime_bd p
    by_cases g0 : isPrime p = true
    · by_cases g1 : 1 ≤ n
      · by_cases g2 : n ≤ 6
        · have HR := Lib.hid (show ringOk ⟨7, p, n⟩ = true by simp [ringOk, g0, g1, g2])
          clear hpb
          go_enter Try.func109, Try.ntmps109
          go_wp2_with (first | (go_at_call 135; refine (iIsPrime_c _ _).mono ?_; rintro e w' ⟨rfl, rfl⟩))
          go_ret
          first | exact ⟨ret_bool HR.out.symm, st0⟩ | exact ⟨ret_bool (by rw [HR.out]; simp; omega), st0⟩
        · have HR := Lib.hid (show ringOk ⟨7, p, n⟩ = false by simp [ringOk, g0, g1, g2])
          clear hpb
          go_enter Try.func109, Try.ntmps109
          go_wp2_with (first | (go_at_call 135; refine (iIsPrime_c _ _).mono ?_; rintro e w' ⟨rfl, rfl⟩))
          go_ret
          first | exact ⟨ret_bool HR.out.symm, st0⟩ | exact ⟨ret_bool (by rw [HR.out]; simp; omega), st0⟩
      · have HR := Lib.hid (show ringOk ⟨7, p, n⟩ = false by simp [ringOk, g0, g1])
        clear hpb
        go_enter Try.func109, Try.ntmps109
        go_wp2_with (first | (go_at_call 135; refine (iIsPrime_c _ _).mono ?_; rintro e w' ⟨rfl, rfl⟩))
        go_ret
        first | exact ⟨ret_bool HR.out.symm, st0⟩ | exact ⟨ret_bool (by rw [HR.out]; simp; omega), st0⟩
    · have HR := Lib.hid (show ringOk ⟨7, p, n⟩ = false by simp [ringOk, g0])
      replace g0 : isPrime p = false := by simpa using g0
      clear hpb
      go_enter Try.func109, Try.ntmps109
      go_wp2_with (first | (go_at_call 135; refine (iIsPrime_c _ _).mono ?_; rintro e w' ⟨rfl, rfl⟩))
      go_ret
      first | exact ⟨ret_bool HR.out.symm, st0⟩ | exact ⟨ret_bool (by rw [HR.out]; simp; omega), st0⟩
  have t7 : (k == 7) = false := by simpa using h7
  by_cases h8 : k = 8
  · subst h8
    have hpb := @isPrime_bd p
    by_cases g0 : isPrime p = true
    · by_cases g1 : p = 2
      · have HR := Lib.hid (show ringOk ⟨8, p, n⟩ = false by simp [ringOk, g1])
        have z3 : p ≤ 2 := by omega
        have z4 : 2 ≤ p := by omega
        have cg1 : (p != 2) = false := by simpa using g1
        clear g1
        clear hpb
        go_enter Try.func109, Try.ntmps109
        go_wp2_with (first | (go_at_call 135; refine (iIsPrime_c _ _).mono ?_; rintro e w' ⟨rfl, rfl⟩))
        go_ret
        first | exact ⟨ret_bool HR.out.symm, st0⟩ | exact ⟨ret_bool (by rw [HR.out]; simp; omega), st0⟩
      · by_cases g2 : n = 0
        · have HR := Lib.hid (show ringOk ⟨8, p, n⟩ = true by simp [ringOk, g0, g1, g2])
          have bg1 : (p == 2) = false := by simpa using g1
          have cg1 : (p != 2) = true := by simpa using g1
          subst g2
          clear hpb
          go_enter Try.func109, Try.ntmps109
          go_wp2_with (first | (go_at_call 135; refine (iIsPrime_c _ _).mono ?_; rintro e w' ⟨rfl, rfl⟩))
          go_ret
          first | exact ⟨ret_bool HR.out.symm, st0⟩ | exact ⟨ret_bool (by rw [HR.out]; simp; omega), st0⟩
        · have HR := Lib.hid (show ringOk ⟨8, p, n⟩ = false by simp [ringOk, g0, g1, g2])
          have bg1 : (p == 2) = false := by simpa using g1
          have cg1 : (p != 2) = true := by simpa using g1
          have bg2 : (n == 0) = false := by simpa using g2
          have cg2 : (n != 0) = true := by simpa using g2
          clear hpb
          go_enter Try.func109, Try.ntmps109
          go_wp2_with (first | (go_at_call 135; refine (iIsPrime_c _ _).mono ?_; rintro e w' ⟨rfl, rfl⟩))
          go_ret
          first | exact ⟨ret_bool HR.out.symm, st0⟩ | exact ⟨ret_bool (by rw [HR.out]; simp; omega), st0⟩
    · have HR := Lib.hid (show ringOk ⟨8, p, n⟩ = false by simp [ringOk, g0])
      replace g0 : isPrime p = false := by simpa using g0
      clear hpb
      go_enter Try.func109, Try.ntmps109
      go_wp2_with (first | (go_at_call 135; refine (iIsPrime_c _ _).mono ?_; rintro e w' ⟨rfl, rfl⟩))
      go_ret
      first | exact ⟨ret_bool HR.out.symm, st0⟩ | exact ⟨ret_bool (by rw [HR.out]; simp; omega), st0⟩
  have t8 : (k == 8) = false := by simpa using h8
  have HR := Lib.hid (show ringOk ⟨k, p, n⟩ = false by simp [ringOk, h1, h2, h3, h4, h5, h6, h7, h8])
  clear h1 h2 h3 h4 h5 h6 h7 h8
  go_enter Try.func109, Try.ntmps109
  go_wp2_with fail
  go_ret
  exact ⟨ret_bool HR.out.symm, st0⟩

end Go.Proofs.Ytjncdanegoileaa

/-
  Contracts: what rings are right, in the reference. No condition.
-/
namespace Go.Proofs.Ytjncdanegoileaa
open Go.RowKit Plain

set_option maxHeartbeats 4000000 in
theorem sRingOk_c (k p n : Int) (W : World) : Calls Try.prog 117 #[.agg #[.int .i64 k, .int .i64 p, .int .i64 n]] W (RetV W (.bool (ringOk ⟨k, p, n⟩))) := by
  have st0 := Step.alloc W (.cells #[.int .i64 k, .int .i64 p, .int .i64 n] 24)
  by_cases h1 : k = 1
  · subst h1
    by_cases g0 : p = 0
    · by_cases g1 : n = 0
      · have HR := Lib.hid (show ringOk ⟨1, p, n⟩ = true by simp [ringOk, g0, g1])
        subst g0
        subst g1
        go_enter Try.func117, Try.ntmps117
        go_wp2_with (first | (go_at_call 138; refine (sIsPrime_c _ _).mono ?_; rintro e w' ⟨rfl, rfl⟩) | (go_at_call 50; first | (refine (l01In_yes _ _ _ _ (by omega) (by omega)).mono ?_; rintro e w' ⟨rfl, rfl⟩) | (refine (l01In_no _ _ _ _ (by omega)).mono ?_; rintro e w' ⟨rfl, rfl⟩)))
        go_ret
        first | exact ⟨ret_bool HR.out.symm, st0⟩ | exact ⟨ret_bool (by rw [HR.out]; simp; omega), st0⟩
      · have HR := Lib.hid (show ringOk ⟨1, p, n⟩ = false by simp [ringOk, g0, g1])
        subst g0
        have bg1 : (n == 0) = false := by simpa using g1
        have cg1 : (n != 0) = true := by simpa using g1
        go_enter Try.func117, Try.ntmps117
        go_wp2_with (first | (go_at_call 138; refine (sIsPrime_c _ _).mono ?_; rintro e w' ⟨rfl, rfl⟩) | (go_at_call 50; first | (refine (l01In_yes _ _ _ _ (by omega) (by omega)).mono ?_; rintro e w' ⟨rfl, rfl⟩) | (refine (l01In_no _ _ _ _ (by omega)).mono ?_; rintro e w' ⟨rfl, rfl⟩)))
        go_ret
        first | exact ⟨ret_bool HR.out.symm, st0⟩ | exact ⟨ret_bool (by rw [HR.out]; simp; omega), st0⟩
    · have HR := Lib.hid (show ringOk ⟨1, p, n⟩ = false by simp [ringOk, g0])
      have bg0 : (p == 0) = false := by simpa using g0
      have cg0 : (p != 0) = true := by simpa using g0
      go_enter Try.func117, Try.ntmps117
      go_wp2_with (first | (go_at_call 138; refine (sIsPrime_c _ _).mono ?_; rintro e w' ⟨rfl, rfl⟩) | (go_at_call 50; first | (refine (l01In_yes _ _ _ _ (by omega) (by omega)).mono ?_; rintro e w' ⟨rfl, rfl⟩) | (refine (l01In_no _ _ _ _ (by omega)).mono ?_; rintro e w' ⟨rfl, rfl⟩)))
      go_ret
      first | exact ⟨ret_bool HR.out.symm, st0⟩ | exact ⟨ret_bool (by rw [HR.out]; simp; omega), st0⟩
  have t1 : (k == 1) = false := by simpa using h1
  by_cases h2 : k = 2
  · subst h2
    have hpb := @isPrime_bd p
    by_cases g0 : isPrime p = true
    · by_cases g1 : n = 0
      · have HR := Lib.hid (show ringOk ⟨2, p, n⟩ = true by simp [ringOk, g0, g1])
        subst g1
        clear hpb
        go_enter Try.func117, Try.ntmps117
        go_wp2_with (first | (go_at_call 138; refine (sIsPrime_c _ _).mono ?_; rintro e w' ⟨rfl, rfl⟩) | (go_at_call 50; first | (refine (l01In_yes _ _ _ _ (by omega) (by omega)).mono ?_; rintro e w' ⟨rfl, rfl⟩) | (refine (l01In_no _ _ _ _ (by omega)).mono ?_; rintro e w' ⟨rfl, rfl⟩)))
        go_ret
        first | exact ⟨ret_bool HR.out.symm, st0⟩ | exact ⟨ret_bool (by rw [HR.out]; simp; omega), st0⟩
      · have HR := Lib.hid (show ringOk ⟨2, p, n⟩ = false by simp [ringOk, g0, g1])
        have bg1 : (n == 0) = false := by simpa using g1
        have cg1 : (n != 0) = true := by simpa using g1
        clear hpb
        go_enter Try.func117, Try.ntmps117
        go_wp2_with (first | (go_at_call 138; refine (sIsPrime_c _ _).mono ?_; rintro e w' ⟨rfl, rfl⟩) | (go_at_call 50; first | (refine (l01In_yes _ _ _ _ (by omega) (by omega)).mono ?_; rintro e w' ⟨rfl, rfl⟩) | (refine (l01In_no _ _ _ _ (by omega)).mono ?_; rintro e w' ⟨rfl, rfl⟩)))
        go_ret
        first | exact ⟨ret_bool HR.out.symm, st0⟩ | exact ⟨ret_bool (by rw [HR.out]; simp; omega), st0⟩
    · have HR := Lib.hid (show ringOk ⟨2, p, n⟩ = false by simp [ringOk, g0])
      replace g0 : isPrime p = false := by simpa using g0
      clear hpb
      go_enter Try.func117, Try.ntmps117
      go_wp2_with (first | (go_at_call 138; refine (sIsPrime_c _ _).mono ?_; rintro e w' ⟨rfl, rfl⟩) | (go_at_call 50; first | (refine (l01In_yes _ _ _ _ (by omega) (by omega)).mono ?_; rintro e w' ⟨rfl, rfl⟩) | (refine (l01In_no _ _ _ _ (by omega)).mono ?_; rintro e w' ⟨rfl, rfl⟩)))
      go_ret
      first | exact ⟨ret_bool HR.out.symm, st0⟩ | exact ⟨ret_bool (by rw [HR.out]; simp; omega), st0⟩
  have t2 : (k == 2) = false := by simpa using h2
  by_cases h3 : k = 3
  · subst h3
    by_cases g0 : 1 ≤ p
    · by_cases g1 : p ≤ 1000000
      · by_cases g2 : n = 0
        · have HR := Lib.hid (show ringOk ⟨3, p, n⟩ = true by simp [ringOk, g0, g1, g2])
          subst g2
          go_enter Try.func117, Try.ntmps117
          go_wp2_with (first | (go_at_call 138; refine (sIsPrime_c _ _).mono ?_; rintro e w' ⟨rfl, rfl⟩) | (go_at_call 50; first | (refine (l01In_yes _ _ _ _ (by omega) (by omega)).mono ?_; rintro e w' ⟨rfl, rfl⟩) | (refine (l01In_no _ _ _ _ (by omega)).mono ?_; rintro e w' ⟨rfl, rfl⟩)))
          go_ret
          first | exact ⟨ret_bool HR.out.symm, st0⟩ | exact ⟨ret_bool (by rw [HR.out]; simp; omega), st0⟩
        · have HR := Lib.hid (show ringOk ⟨3, p, n⟩ = false by simp [ringOk, g0, g1, g2])
          have bg2 : (n == 0) = false := by simpa using g2
          have cg2 : (n != 0) = true := by simpa using g2
          go_enter Try.func117, Try.ntmps117
          go_wp2_with (first | (go_at_call 138; refine (sIsPrime_c _ _).mono ?_; rintro e w' ⟨rfl, rfl⟩) | (go_at_call 50; first | (refine (l01In_yes _ _ _ _ (by omega) (by omega)).mono ?_; rintro e w' ⟨rfl, rfl⟩) | (refine (l01In_no _ _ _ _ (by omega)).mono ?_; rintro e w' ⟨rfl, rfl⟩)))
          go_ret
          first | exact ⟨ret_bool HR.out.symm, st0⟩ | exact ⟨ret_bool (by rw [HR.out]; simp; omega), st0⟩
      · have HR := Lib.hid (show ringOk ⟨3, p, n⟩ = false by simp [ringOk, g0, g1])
        go_enter Try.func117, Try.ntmps117
        go_wp2_with (first | (go_at_call 138; refine (sIsPrime_c _ _).mono ?_; rintro e w' ⟨rfl, rfl⟩) | (go_at_call 50; first | (refine (l01In_yes _ _ _ _ (by omega) (by omega)).mono ?_; rintro e w' ⟨rfl, rfl⟩) | (refine (l01In_no _ _ _ _ (by omega)).mono ?_; rintro e w' ⟨rfl, rfl⟩)))
        go_ret
        first | exact ⟨ret_bool HR.out.symm, st0⟩ | exact ⟨ret_bool (by rw [HR.out]; simp; omega), st0⟩
    · have HR := Lib.hid (show ringOk ⟨3, p, n⟩ = false by simp [ringOk, g0])
      go_enter Try.func117, Try.ntmps117
      go_wp2_with (first | (go_at_call 138; refine (sIsPrime_c _ _).mono ?_; rintro e w' ⟨rfl, rfl⟩) | (go_at_call 50; first | (refine (l01In_yes _ _ _ _ (by omega) (by omega)).mono ?_; rintro e w' ⟨rfl, rfl⟩) | (refine (l01In_no _ _ _ _ (by omega)).mono ?_; rintro e w' ⟨rfl, rfl⟩)))
      go_ret
      first | exact ⟨ret_bool HR.out.symm, st0⟩ | exact ⟨ret_bool (by rw [HR.out]; simp; omega), st0⟩
  have t3 : (k == 3) = false := by simpa using h3
  by_cases h4 : k = 4
  · subst h4
    by_cases g0 : 1 ≤ p
    · by_cases g1 : p ≤ 1000000
      · by_cases g2 : n = 0
        · have HR := Lib.hid (show ringOk ⟨4, p, n⟩ = true by simp [ringOk, g0, g1, g2])
          subst g2
          go_enter Try.func117, Try.ntmps117
          go_wp2_with (first | (go_at_call 138; refine (sIsPrime_c _ _).mono ?_; rintro e w' ⟨rfl, rfl⟩) | (go_at_call 50; first | (refine (l01In_yes _ _ _ _ (by omega) (by omega)).mono ?_; rintro e w' ⟨rfl, rfl⟩) | (refine (l01In_no _ _ _ _ (by omega)).mono ?_; rintro e w' ⟨rfl, rfl⟩)))
          go_ret
          first | exact ⟨ret_bool HR.out.symm, st0⟩ | exact ⟨ret_bool (by rw [HR.out]; simp; omega), st0⟩
        · have HR := Lib.hid (show ringOk ⟨4, p, n⟩ = false by simp [ringOk, g0, g1, g2])
          have bg2 : (n == 0) = false := by simpa using g2
          have cg2 : (n != 0) = true := by simpa using g2
          go_enter Try.func117, Try.ntmps117
          go_wp2_with (first | (go_at_call 138; refine (sIsPrime_c _ _).mono ?_; rintro e w' ⟨rfl, rfl⟩) | (go_at_call 50; first | (refine (l01In_yes _ _ _ _ (by omega) (by omega)).mono ?_; rintro e w' ⟨rfl, rfl⟩) | (refine (l01In_no _ _ _ _ (by omega)).mono ?_; rintro e w' ⟨rfl, rfl⟩)))
          go_ret
          first | exact ⟨ret_bool HR.out.symm, st0⟩ | exact ⟨ret_bool (by rw [HR.out]; simp; omega), st0⟩
      · have HR := Lib.hid (show ringOk ⟨4, p, n⟩ = false by simp [ringOk, g0, g1])
        go_enter Try.func117, Try.ntmps117
        go_wp2_with (first | (go_at_call 138; refine (sIsPrime_c _ _).mono ?_; rintro e w' ⟨rfl, rfl⟩) | (go_at_call 50; first | (refine (l01In_yes _ _ _ _ (by omega) (by omega)).mono ?_; rintro e w' ⟨rfl, rfl⟩) | (refine (l01In_no _ _ _ _ (by omega)).mono ?_; rintro e w' ⟨rfl, rfl⟩)))
        go_ret
        first | exact ⟨ret_bool HR.out.symm, st0⟩ | exact ⟨ret_bool (by rw [HR.out]; simp; omega), st0⟩
    · have HR := Lib.hid (show ringOk ⟨4, p, n⟩ = false by simp [ringOk, g0])
      go_enter Try.func117, Try.ntmps117
      go_wp2_with (first | (go_at_call 138; refine (sIsPrime_c _ _).mono ?_; rintro e w' ⟨rfl, rfl⟩) | (go_at_call 50; first | (refine (l01In_yes _ _ _ _ (by omega) (by omega)).mono ?_; rintro e w' ⟨rfl, rfl⟩) | (refine (l01In_no _ _ _ _ (by omega)).mono ?_; rintro e w' ⟨rfl, rfl⟩)))
      go_ret
      first | exact ⟨ret_bool HR.out.symm, st0⟩ | exact ⟨ret_bool (by rw [HR.out]; simp; omega), st0⟩
  have t4 : (k == 4) = false := by simpa using h4
  by_cases h5 : k = 5
  · subst h5
    by_cases g0 : 1 ≤ p
    · by_cases g1 : p ≤ 1000000
      · by_cases g2 : n = 0
        · have HR := Lib.hid (show ringOk ⟨5, p, n⟩ = true by simp [ringOk, g0, g1, g2])
          subst g2
          go_enter Try.func117, Try.ntmps117
          go_wp2_with (first | (go_at_call 138; refine (sIsPrime_c _ _).mono ?_; rintro e w' ⟨rfl, rfl⟩) | (go_at_call 50; first | (refine (l01In_yes _ _ _ _ (by omega) (by omega)).mono ?_; rintro e w' ⟨rfl, rfl⟩) | (refine (l01In_no _ _ _ _ (by omega)).mono ?_; rintro e w' ⟨rfl, rfl⟩)))
          go_ret
          first | exact ⟨ret_bool HR.out.symm, st0⟩ | exact ⟨ret_bool (by rw [HR.out]; simp; omega), st0⟩
        · have HR := Lib.hid (show ringOk ⟨5, p, n⟩ = false by simp [ringOk, g0, g1, g2])
          have bg2 : (n == 0) = false := by simpa using g2
          have cg2 : (n != 0) = true := by simpa using g2
          go_enter Try.func117, Try.ntmps117
          go_wp2_with (first | (go_at_call 138; refine (sIsPrime_c _ _).mono ?_; rintro e w' ⟨rfl, rfl⟩) | (go_at_call 50; first | (refine (l01In_yes _ _ _ _ (by omega) (by omega)).mono ?_; rintro e w' ⟨rfl, rfl⟩) | (refine (l01In_no _ _ _ _ (by omega)).mono ?_; rintro e w' ⟨rfl, rfl⟩)))
          go_ret
          first | exact ⟨ret_bool HR.out.symm, st0⟩ | exact ⟨ret_bool (by rw [HR.out]; simp; omega), st0⟩
      · have HR := Lib.hid (show ringOk ⟨5, p, n⟩ = false by simp [ringOk, g0, g1])
        go_enter Try.func117, Try.ntmps117
        go_wp2_with (first | (go_at_call 138; refine (sIsPrime_c _ _).mono ?_; rintro e w' ⟨rfl, rfl⟩) | (go_at_call 50; first | (refine (l01In_yes _ _ _ _ (by omega) (by omega)).mono ?_; rintro e w' ⟨rfl, rfl⟩) | (refine (l01In_no _ _ _ _ (by omega)).mono ?_; rintro e w' ⟨rfl, rfl⟩)))
        go_ret
        first | exact ⟨ret_bool HR.out.symm, st0⟩ | exact ⟨ret_bool (by rw [HR.out]; simp; omega), st0⟩
    · have HR := Lib.hid (show ringOk ⟨5, p, n⟩ = false by simp [ringOk, g0])
      go_enter Try.func117, Try.ntmps117
      go_wp2_with (first | (go_at_call 138; refine (sIsPrime_c _ _).mono ?_; rintro e w' ⟨rfl, rfl⟩) | (go_at_call 50; first | (refine (l01In_yes _ _ _ _ (by omega) (by omega)).mono ?_; rintro e w' ⟨rfl, rfl⟩) | (refine (l01In_no _ _ _ _ (by omega)).mono ?_; rintro e w' ⟨rfl, rfl⟩)))
      go_ret
      first | exact ⟨ret_bool HR.out.symm, st0⟩ | exact ⟨ret_bool (by rw [HR.out]; simp; omega), st0⟩
  have t5 : (k == 5) = false := by simpa using h5
  by_cases h6 : k = 6
  · subst h6
    by_cases g0 : p = 0
    · by_cases g1 : 1 ≤ n
      · by_cases g2 : n ≤ 20
        · have HR := Lib.hid (show ringOk ⟨6, p, n⟩ = true by simp [ringOk, g0, g1, g2])
          subst g0
          go_enter Try.func117, Try.ntmps117
          go_wp2_with (first | (go_at_call 138; refine (sIsPrime_c _ _).mono ?_; rintro e w' ⟨rfl, rfl⟩) | (go_at_call 50; first | (refine (l01In_yes _ _ _ _ (by omega) (by omega)).mono ?_; rintro e w' ⟨rfl, rfl⟩) | (refine (l01In_no _ _ _ _ (by omega)).mono ?_; rintro e w' ⟨rfl, rfl⟩)))
          go_ret
          first | exact ⟨ret_bool HR.out.symm, st0⟩ | exact ⟨ret_bool (by rw [HR.out]; simp; omega), st0⟩
        · have HR := Lib.hid (show ringOk ⟨6, p, n⟩ = false by simp [ringOk, g0, g1, g2])
          subst g0
          go_enter Try.func117, Try.ntmps117
          go_wp2_with (first | (go_at_call 138; refine (sIsPrime_c _ _).mono ?_; rintro e w' ⟨rfl, rfl⟩) | (go_at_call 50; first | (refine (l01In_yes _ _ _ _ (by omega) (by omega)).mono ?_; rintro e w' ⟨rfl, rfl⟩) | (refine (l01In_no _ _ _ _ (by omega)).mono ?_; rintro e w' ⟨rfl, rfl⟩)))
          go_ret
          first | exact ⟨ret_bool HR.out.symm, st0⟩ | exact ⟨ret_bool (by rw [HR.out]; simp; omega), st0⟩
      · have HR := Lib.hid (show ringOk ⟨6, p, n⟩ = false by simp [ringOk, g0, g1])
        subst g0
        go_enter Try.func117, Try.ntmps117
        go_wp2_with (first | (go_at_call 138; refine (sIsPrime_c _ _).mono ?_; rintro e w' ⟨rfl, rfl⟩) | (go_at_call 50; first | (refine (l01In_yes _ _ _ _ (by omega) (by omega)).mono ?_; rintro e w' ⟨rfl, rfl⟩) | (refine (l01In_no _ _ _ _ (by omega)).mono ?_; rintro e w' ⟨rfl, rfl⟩)))
        go_ret
        first | exact ⟨ret_bool HR.out.symm, st0⟩ | exact ⟨ret_bool (by rw [HR.out]; simp; omega), st0⟩
    · have HR := Lib.hid (show ringOk ⟨6, p, n⟩ = false by simp [ringOk, g0])
      have bg0 : (p == 0) = false := by simpa using g0
      have cg0 : (p != 0) = true := by simpa using g0
      go_enter Try.func117, Try.ntmps117
      go_wp2_with (first | (go_at_call 138; refine (sIsPrime_c _ _).mono ?_; rintro e w' ⟨rfl, rfl⟩) | (go_at_call 50; first | (refine (l01In_yes _ _ _ _ (by omega) (by omega)).mono ?_; rintro e w' ⟨rfl, rfl⟩) | (refine (l01In_no _ _ _ _ (by omega)).mono ?_; rintro e w' ⟨rfl, rfl⟩)))
      go_ret
      first | exact ⟨ret_bool HR.out.symm, st0⟩ | exact ⟨ret_bool (by rw [HR.out]; simp; omega), st0⟩
  have t6 : (k == 6) = false := by simpa using h6
  by_cases h7 : k = 7
  · subst h7
    have hpb := @isPrime_bd p
    by_cases g0 : isPrime p = true
    · by_cases g1 : 1 ≤ n
      · by_cases g2 : n ≤ 6
        · have HR := Lib.hid (show ringOk ⟨7, p, n⟩ = true by simp [ringOk, g0, g1, g2])
          clear hpb
          go_enter Try.func117, Try.ntmps117
          go_wp2_with (first | (go_at_call 138; refine (sIsPrime_c _ _).mono ?_; rintro e w' ⟨rfl, rfl⟩) | (go_at_call 50; first | (refine (l01In_yes _ _ _ _ (by omega) (by omega)).mono ?_; rintro e w' ⟨rfl, rfl⟩) | (refine (l01In_no _ _ _ _ (by omega)).mono ?_; rintro e w' ⟨rfl, rfl⟩)))
          go_ret
          first | exact ⟨ret_bool HR.out.symm, st0⟩ | exact ⟨ret_bool (by rw [HR.out]; simp; omega), st0⟩
        · have HR := Lib.hid (show ringOk ⟨7, p, n⟩ = false by simp [ringOk, g0, g1, g2])
          clear hpb
          go_enter Try.func117, Try.ntmps117
          go_wp2_with (first | (go_at_call 138; refine (sIsPrime_c _ _).mono ?_; rintro e w' ⟨rfl, rfl⟩) | (go_at_call 50; first | (refine (l01In_yes _ _ _ _ (by omega) (by omega)).mono ?_; rintro e w' ⟨rfl, rfl⟩) | (refine (l01In_no _ _ _ _ (by omega)).mono ?_; rintro e w' ⟨rfl, rfl⟩)))
          go_ret
          first | exact ⟨ret_bool HR.out.symm, st0⟩ | exact ⟨ret_bool (by rw [HR.out]; simp; omega), st0⟩
      · have HR := Lib.hid (show ringOk ⟨7, p, n⟩ = false by simp [ringOk, g0, g1])
        clear hpb
        go_enter Try.func117, Try.ntmps117
        go_wp2_with (first | (go_at_call 138; refine (sIsPrime_c _ _).mono ?_; rintro e w' ⟨rfl, rfl⟩) | (go_at_call 50; first | (refine (l01In_yes _ _ _ _ (by omega) (by omega)).mono ?_; rintro e w' ⟨rfl, rfl⟩) | (refine (l01In_no _ _ _ _ (by omega)).mono ?_; rintro e w' ⟨rfl, rfl⟩)))
        go_ret
        first | exact ⟨ret_bool HR.out.symm, st0⟩ | exact ⟨ret_bool (by rw [HR.out]; simp; omega), st0⟩
    · have HR := Lib.hid (show ringOk ⟨7, p, n⟩ = false by simp [ringOk, g0])
      replace g0 : isPrime p = false := by simpa using g0
      clear hpb
      go_enter Try.func117, Try.ntmps117
      go_wp2_with (first | (go_at_call 138; refine (sIsPrime_c _ _).mono ?_; rintro e w' ⟨rfl, rfl⟩) | (go_at_call 50; first | (refine (l01In_yes _ _ _ _ (by omega) (by omega)).mono ?_; rintro e w' ⟨rfl, rfl⟩) | (refine (l01In_no _ _ _ _ (by omega)).mono ?_; rintro e w' ⟨rfl, rfl⟩)))
      go_ret
      first | exact ⟨ret_bool HR.out.symm, st0⟩ | exact ⟨ret_bool (by rw [HR.out]; simp; omega), st0⟩
  have t7 : (k == 7) = false := by simpa using h7
  by_cases h8 : k = 8
  · subst h8
    have hpb := @isPrime_bd p
    by_cases g0 : isPrime p = true
    · by_cases g1 : p = 2
      · have HR := Lib.hid (show ringOk ⟨8, p, n⟩ = false by simp [ringOk, g1])
        have z3 : p ≤ 2 := by omega
        have z4 : 2 ≤ p := by omega
        have cg1 : (p != 2) = false := by simpa using g1
        clear g1
        obtain ⟨z1, z2⟩ := hpb (by assumption)
        clear hpb
        go_enter Try.func117, Try.ntmps117
        go_wp2_with (first | (go_at_call 138; refine (sIsPrime_c _ _).mono ?_; rintro e w' ⟨rfl, rfl⟩) | (go_at_call 50; first | (refine (l01In_yes _ _ _ _ (by omega) (by omega)).mono ?_; rintro e w' ⟨rfl, rfl⟩) | (refine (l01In_no _ _ _ _ (by omega)).mono ?_; rintro e w' ⟨rfl, rfl⟩)))
        go_ret
        first | exact ⟨ret_bool HR.out.symm, st0⟩ | exact ⟨ret_bool (by rw [HR.out]; simp; omega), st0⟩
      · by_cases g2 : n = 0
        · have HR := Lib.hid (show ringOk ⟨8, p, n⟩ = true by simp [ringOk, g0, g1, g2])
          have bg1 : (p == 2) = false := by simpa using g1
          have cg1 : (p != 2) = true := by simpa using g1
          subst g2
          obtain ⟨z1, z2⟩ := hpb (by assumption)
          have z3 : 2 < p := by omega
          clear hpb
          go_enter Try.func117, Try.ntmps117
          go_wp2_with (first | (go_at_call 138; refine (sIsPrime_c _ _).mono ?_; rintro e w' ⟨rfl, rfl⟩) | (go_at_call 50; first | (refine (l01In_yes _ _ _ _ (by omega) (by omega)).mono ?_; rintro e w' ⟨rfl, rfl⟩) | (refine (l01In_no _ _ _ _ (by omega)).mono ?_; rintro e w' ⟨rfl, rfl⟩)))
          go_ret
          first | exact ⟨ret_bool HR.out.symm, st0⟩ | exact ⟨ret_bool (by rw [HR.out]; simp; omega), st0⟩
        · have HR := Lib.hid (show ringOk ⟨8, p, n⟩ = false by simp [ringOk, g0, g1, g2])
          have bg1 : (p == 2) = false := by simpa using g1
          have cg1 : (p != 2) = true := by simpa using g1
          have bg2 : (n == 0) = false := by simpa using g2
          have cg2 : (n != 0) = true := by simpa using g2
          obtain ⟨z1, z2⟩ := hpb (by assumption)
          have z3 : 2 < p := by omega
          clear hpb
          go_enter Try.func117, Try.ntmps117
          go_wp2_with (first | (go_at_call 138; refine (sIsPrime_c _ _).mono ?_; rintro e w' ⟨rfl, rfl⟩) | (go_at_call 50; first | (refine (l01In_yes _ _ _ _ (by omega) (by omega)).mono ?_; rintro e w' ⟨rfl, rfl⟩) | (refine (l01In_no _ _ _ _ (by omega)).mono ?_; rintro e w' ⟨rfl, rfl⟩)))
          go_ret
          first | exact ⟨ret_bool HR.out.symm, st0⟩ | exact ⟨ret_bool (by rw [HR.out]; simp; omega), st0⟩
    · have HR := Lib.hid (show ringOk ⟨8, p, n⟩ = false by simp [ringOk, g0])
      replace g0 : isPrime p = false := by simpa using g0
      clear hpb
      go_enter Try.func117, Try.ntmps117
      go_wp2_with (first | (go_at_call 138; refine (sIsPrime_c _ _).mono ?_; rintro e w' ⟨rfl, rfl⟩) | (go_at_call 50; first | (refine (l01In_yes _ _ _ _ (by omega) (by omega)).mono ?_; rintro e w' ⟨rfl, rfl⟩) | (refine (l01In_no _ _ _ _ (by omega)).mono ?_; rintro e w' ⟨rfl, rfl⟩)))
      go_ret
      first | exact ⟨ret_bool HR.out.symm, st0⟩ | exact ⟨ret_bool (by rw [HR.out]; simp; omega), st0⟩
  have t8 : (k == 8) = false := by simpa using h8
  have HR := Lib.hid (show ringOk ⟨k, p, n⟩ = false by simp [ringOk, h1, h2, h3, h4, h5, h6, h7, h8])
  clear h1 h2 h3 h4 h5 h6 h7 h8
  go_enter Try.func117, Try.ntmps117
  go_wp2_with fail
  go_ret
  exact ⟨ret_bool HR.out.symm, st0⟩

end Go.Proofs.Ytjncdanegoileaa

/-
  Contracts: elements and tensors that are right, in the program and in the reference. No condition.
-/
namespace Go.Proofs.Ytjncdanegoileaa
open Go.RowKit Plain

section
variable {W : World} {k p n : Int} {A : Option Addr} {m c : Nat} {xs : List Int}

set_option maxHeartbeats 800000 in
theorem inRing_c (hr : ringOk ⟨k, p, n⟩ = true) (hx : SlOk W A m c xs) :
    Calls Try.prog 137 #[.agg #[.int .i64 k, .int .i64 p, .int .i64 n], .slice A m c] W (RetV W (.bool (fitsB ⟨k, p, n⟩ xs))) := by
  have st0 := Step.alloc W (.cells #[.int .i64 k, .int .i64 p, .int .i64 n] 24)
  have hlx := Lib.hid hx.at_.len
  have hmn := hx.len
  obtain ⟨tp, htp⟩ : ∃ tp, tp = top ⟨k, p, n⟩ := ⟨_, rfl⟩
  have HTP := Lib.hid htp
  obtain ⟨b1, b2⟩ := top_bd hr
  rw [← htp] at b1 b2
  clear htp
  go_enter Try.func137, Try.ntmps137
  go_wp2_with fail
  refine (rawTop_c k p n _ hr).mono ?_
  rintro e w1 ⟨rfl, st1⟩
  rw [← HTP.out]
  have hx1 := ((hx.step st0).step st1).at_
  clear hx hr
  go_wp2_with fail
  go_loop [12] (fun i => ∃ j : Nat, j ≤ m ∧ i = .int .i64 j ∧ ∀ q, q < j → 0 ≤ xs.getD q 0 ∧ xs.getD q 0 ≤ tp) (fun i => m - (intOf i).toNat)
  case atStart => exact ⟨0, Nat.zero_le _, rfl, fun q hq => absurd hq (by omega)⟩
  case round =>
    obtain ⟨j, hj, rfl, hq⟩ := hrel
    have HQ := Lib.hid hq
    clear hq
    by_cases hlt : j < m
    · obtain ⟨b, off, rfl, hb, hc⟩ := hx1.at_ (by omega)
      have hck := hc j hlt
      have hbad := Lib.hid (fun h => @fitsB_no ⟨k, p, n⟩ xs j (by rw [hlx.out]; exact hlt) h)
      rw [← HTP.out] at hbad
      have hok : ∀ z, z = xs.getD j 0 → (0 ≤ z ∧ z ≤ tp) → ∀ q, q < j + 1 → 0 ≤ xs.getD q 0 ∧ xs.getD q 0 ≤ tp := by
        intro z hz hzz q hq
        rcases Nat.lt_or_ge q j with h1 | h1
        · exact HQ.out q h1
        · obtain rfl : q = j := by omega
          rw [← hz]; exact hzz
      have HOK := Lib.hid hok
      clear hok
      generalize hz : xs.getD j 0 = z at hck hbad HOK
      have hji : (j : Int) < (m : Int) := by omega
      clear hc hz hx1
      by_cases hg : 0 ≤ z ∧ z ≤ tp
      · obtain ⟨g1, g2⟩ := hg
        go_wp2
        go_round
        case rel => exact ⟨j + 1, by omega, by go_num, HOK.out z rfl ⟨g1, g2⟩⟩
        case measure => simp [intOf]; omega
      · have hr := Lib.hid (hbad.out hg)
        by_cases g1 : z < 0
        · clear hg
          go_wp2
          go_ret
          exact ⟨ret_bool hr.out.symm, st0.trans st1⟩
        · have g2 : tp < z := by omega
          clear hg
          go_wp2
          go_ret
          exact ⟨ret_bool hr.out.symm, st0.trans st1⟩
    · go_wp2
      go_ret
      obtain rfl : j = m := by omega
      have hq := HQ.out
      rw [HTP.out] at hq
      exact ⟨ret_bool (fitsB_yes (by rw [hlx.out]; exact hq)).symm, st0.trans st1⟩

end

end Go.Proofs.Ytjncdanegoileaa

/-
  Regions that draw their order, operation by operation: taking first what yields, and passing over all whose guard says no. No condition.
-/
namespace Go.Proofs.Ytjncdanegoileaa
open Go.RowKit

section
variable {P : Program} {l : List Oper} {Q : Exit → Act → World → Prop} {md : Region.Mode} {S : World → Prop} {fuel : Nat} {listed : Array Bool} {a : Act} {w : World}

/-- The operation number i is carried out first. -/
theorem takeL (i : Nat) {oi : Oper} {v : Value} (hi : l[i]? = some oi) (hs : Region.noSelect l.toArray = true) (hf : Region.free md l.toArray listed i = true) (hr : (Region.ready md l.toArray listed).contains i = true)
    (hQ : ∀ c a w, Q (.panic c) (a.put oi.dst v) w → Q (.panic c) a w) (hw : Region.wanted oi (yielded l.toArray a.tmps) = true) (hy : ∀ w, S w → (execOp a.eval oi).run P w = .ok (.value v) w) (hS : S w)
    (h : wpAnyH P md l.toArray Q S fuel (listed.setIfInBounds i true) (a.put oi.dst v) w) : wpAnyH P md l.toArray Q S (fuel + 1) listed a w :=
  wpAnyH_take (by simpa using hi) hs hf hr hQ (.inl ⟨hw, hy⟩) hS h

/-- May these operations be passed over, one behind the other: each is ready, waits for nobody, and its guard says no? -/
def deadOk (md : Region.Mode) (l : List Oper) : List Nat → Array Bool → Array Value → Bool
  | [], _, _ => true
  | i :: is, listed, tmps =>
    match l[i]? with
    | none => false
    | some o => Region.free md l.toArray listed i && (Region.ready md l.toArray listed).contains i && !(Region.wanted o (yielded l.toArray tmps)) &&
        deadOk md l is (listed.setIfInBounds i true) (match o.dst with | some d => tmps.setIfInBounds d undef | none => tmps)
def deadListed : List Nat → Array Bool → Array Bool
  | [], listed => listed
  | i :: is, listed => deadListed is (listed.setIfInBounds i true)
def deadTmps (l : List Oper) : List Nat → Array Value → Array Value
  | [], tmps => tmps
  | i :: is, tmps => deadTmps l is (match (l[i]?).bind (·.dst) with | some d => tmps.setIfInBounds d undef | none => tmps)

theorem passL (hs : Region.noSelect l.toArray = true) (hQ : ∀ c ts ts' ds w, Q (.panic c) ⟨ts', ds⟩ w → Q (.panic c) ⟨ts, ds⟩ w) (hS : S w) :
    ∀ (is : List Nat) (listed : Array Bool) (tmps : Array Value) (ds : List Deferred), deadOk md l is listed tmps = true →
      wpAnyH P md l.toArray Q S fuel (deadListed is listed) ⟨deadTmps l is tmps, ds⟩ w → wpAnyH P md l.toArray Q S (fuel + is.length) listed ⟨tmps, ds⟩ w := by
  intro is
  induction is with
  | nil => intro listed tmps ds _ h; exact h
  | cons i is ih =>
    intro listed tmps ds hok h
    unfold deadOk at hok
    split at hok
    · cases hok
    · rename_i o ho
      simp only [Bool.and_eq_true, Bool.not_eq_true'] at hok
      obtain ⟨⟨⟨h1, h2⟩, h3⟩, h4⟩ := hok
      have e : deadTmps l (i :: is) tmps = deadTmps l is (match o.dst with | some d => tmps.setIfInBounds d undef | none => tmps) := by
        show deadTmps l is _ = _
        rw [ho]; rfl
      rw [e] at h
      have h5 := ih _ _ ds h4 h
      refine wpAnyH_take (i := i) (oi := o) (v := undef) (by simpa using ho) hs h1 h2 (fun c a w h => by
        obtain ⟨ts, d0⟩ := a
        refine hQ c ts (Act.put ⟨ts, d0⟩ o.dst undef).tmps d0 w ?_
        have e3 : Act.put ⟨ts, d0⟩ o.dst undef = ⟨(Act.put ⟨ts, d0⟩ o.dst undef).tmps, d0⟩ := by unfold Act.put; cases o.dst <;> rfl
        rw [e3] at h
        exact h) (.inr ⟨h3, rfl⟩) hS ?_
      have e2 : (⟨tmps, ds⟩ : Act).put o.dst undef = ⟨(match o.dst with | some d => tmps.setIfInBounds d undef | none => tmps), ds⟩ := by
        unfold Act.put; cases o.dst <;> rfl
      rw [e2]
      exact h5

/-- The one operation that may come up now is number i: a call. -/
theorem callL (i : Nat) {oi : Oper} (hi : l[i]? = some oi) (hr : Region.ready md l.toArray listed = [i])
    (h : ∀ K' : Act → World → Prop, Shut (∀ a w, S w → (S w → wpAnyH P md l.toArray Q S fuel (listed.setIfInBounds i true) a w) → K' a w) → if Region.wanted oi (yielded l.toArray a.tmps) = true then Oper.wp P oi a w K' Q else K' (a.put oi.dst undef) w) :
    wpAnyH P md l.toArray Q S (fuel + 1) listed a w :=
  wpAnyH_ready hr (by simp) (AllReadyH.cons (by simpa using hi) h AllReadyH.nil)
end

end Go.Proofs.Ytjncdanegoileaa

/-
  Contracts: TensorOk, in the program and in the reference. No condition.
-/
namespace Go.Proofs.Ytjncdanegoileaa
open Go.RowKit Plain

theorem tensorOk_no1 {r : Rg} {ls ds xs : List Int} (h : ringOk r = false) : tensorOk r ls ds xs = false := by simp [tensorOk, h]
theorem tensorOk_no2 {r : Rg} {ls ds xs : List Int} (h : tsize ls ds = -1) : tensorOk r ls ds xs = false := by simp [tensorOk, h]
theorem tensorOk_no3 {r : Rg} {ls ds xs : List Int} (h : ¬ (xs.length : Int) = tsize ls ds * width r) : tensorOk r ls ds xs = false := by simp [tensorOk, h]
theorem tensorOk_yes {r : Rg} {ls ds xs : List Int} (h : ringOk r = true) (h1 : tsize ls ds ≠ -1) (h2 : (xs.length : Int) = tsize ls ds * width r) : tensorOk r ls ds xs = fitsB r xs := by simp [tensorOk, h, h1, h2]

section
variable {W : World} {k p n : Int} {A0 : Option Addr} {n0 c0 : Nat} {A1 : Option Addr} {n1 c1 : Nat} {A2 : Option Addr} {n2 c2 : Nat} {t : Ten}

set_option maxHeartbeats 1600000 in
theorem iTensorOk_c (_ : I64 k) (_ : I64 p) (_ : I64 n) (h : TnOk W A0 n0 c0 A1 n1 c1 A2 n2 c2 t) :
    Calls Try.prog 110 #[.agg #[.int .i64 k, .int .i64 p, .int .i64 n], .agg #[.slice A0 n0 c0, .slice A1 n1 c1, .slice A2 n2 c2]] W (RetV W (.bool (tensorOk ⟨k, p, n⟩ t.labels t.dims t.data))) := by
  have st0 := (Step.alloc W (.cells #[.int .i64 k, .int .i64 p, .int .i64 n] 24)).trans (Step.alloc (W.alloc (.cells #[.int .i64 k, .int .i64 p, .int .i64 n] 24)) (.cells #[.slice A0 n0 c0, .slice A1 n1 c1, .slice A2 n2 c2] 82))
  have hl2 := Lib.hid h.x.at_.len
  have hx2 := h.x.len
  go_enter Try.func110, Try.ntmps110
  go_wp2_with fail
  refine (iRingOk_c k p n _).mono ?_
  rintro e w1 ⟨rfl, st1⟩
  have hs1 : W.heap.size + 2 ≤ w1.heap.size := by have := Below.size st1; simpa using this
  obtain ⟨hc1, _⟩ := bcell (Below.mono st1 (B' := W.heap.size + 2) (by simp))
  rcases Bool.eq_false_or_eq_true (ringOk ⟨k, p, n⟩) with hr | hr
  case inr =>
    have HE := Lib.hid (tensorOk_no1 (ls := t.labels) (ds := t.dims) (xs := t.data) hr)
    rw [hr]
    clear hr
    go_wp2_with fail
    go_ret
    exact ⟨ret_bool HE.out.symm, st0.trans st1⟩
  have HR := Lib.hid hr
  rw [hr]
  clear hr
  go_wp2_with fail
  refine (iTensorSize_c ((h.step st0).step st1)).mono ?_
  rintro e w2 ⟨rfl, st2⟩
  have hs2 : w1.heap.size ≤ w2.heap.size := Below.size st2
  obtain ⟨hc2, _⟩ := bcell (Below.mono st2 (B' := W.heap.size + 2) (by omega))
  have m0 : w2.cell? ⟨W.heap.size, 0, none⟩ = some (.int .i64 k) := by rw [hc2 _ _ (by omega), hc1 _ _ (by omega)]; simp
  have m1 : w2.cell? ⟨W.heap.size, 1, none⟩ = some (.int .i64 p) := by rw [hc2 _ _ (by omega), hc1 _ _ (by omega)]; simp
  have m2 : w2.cell? ⟨W.heap.size, 2, none⟩ = some (.int .i64 n) := by rw [hc2 _ _ (by omega), hc1 _ _ (by omega)]; simp
  have m3 : w2.cell? ⟨W.heap.size + 1, 2, none⟩ = some (.slice A2 n2 c2) := by rw [hc2 _ _ (by omega), hc1 _ _ (by omega)]; simp
  clear hc1 hc2
  have st02 : Step W w2 := (st0.trans st1).trans st2
  have hx := ((h.x.step st0).step st1).step st2
  clear h st0 st1 st2 hs1
  by_cases hts : tsize t.labels t.dims = -1
  · have HE := Lib.hid (tensorOk_no2 (r := ⟨k, p, n⟩) (xs := t.data) hts)
    rw [hts]
    clear hts
    go_wp2_with fail
    go_quiet (fail)
    go_wp2_with fail
    go_ret
    exact ⟨ret_bool HE.out.symm, st02.trans (below_drewN (Below.refl _ _) _)⟩
  have hbt : (tsize t.labels t.dims == -1) = false := by simpa using hts
  have hbt2 : (tsize t.labels t.dims != -1) = true := by simpa using hts
  have HT := Lib.hid hts
  rcases tsize_cases t.labels t.dims with hs | ⟨_, hp, hs, hp1⟩
  · exact absurd hs hts
  rw [← hs] at hp hp1
  obtain ⟨b1, b2⟩ := width_bd HR.out
  have hw1 : 1 ≤ tsize t.labels t.dims * width ⟨k, p, n⟩ := by have := Int.mul_pos (a := tsize t.labels t.dims) (b := width ⟨k, p, n⟩) (by omega) (by omega); omega
  have hw2 : tsize t.labels t.dims * width ⟨k, p, n⟩ ≤ 24576 := by have := Int.mul_le_mul (a := tsize t.labels t.dims) (b := width ⟨k, p, n⟩) (c := 4096) (d := 6) hp b2 (by omega) (by omega); omega
  clear hs hts
  by_cases hw : (n2 : Int) = tsize t.labels t.dims * width ⟨k, p, n⟩
  · have hb : ((n2 : Int) == tsize t.labels t.dims * width ⟨k, p, n⟩) = true := by simpa using hw
    have HE := Lib.hid (tensorOk_yes HR.out HT.out (by rw [hl2.out]; exact hw))
    clear hw
    have hwr : IntKind.i64.wrap (tsize t.labels t.dims * width ⟨k, p, n⟩) = tsize t.labels t.dims * width ⟨k, p, n⟩ := IntWalk.i64_in _ (by omega)
    generalize tsize t.labels t.dims = s at *
    go_wp2_with fail
    refine wp_region_held_drew (S := (fun W' => W'.cell? ⟨W.heap.size, 0, none⟩ = some (.int .i64 k) ∧ W'.cell? ⟨W.heap.size, 1, none⟩ = some (.int .i64 p) ∧ W'.cell? ⟨W.heap.size, 2, none⟩ = some (.int .i64 n) ∧ W'.cell? ⟨W.heap.size + 1, 2, none⟩ = some (.slice A2 n2 c2))) (by kernel_rfl) ?_ (fun hHeld => ?_)
    · exact ⟨m0, m1, m2, m3⟩
    refine takeL (fuel := 18) (v := ?_) 0 rfl (by kernel_rfl) (by kernel_rfl) (by kernel_rfl) (fun _ _ _ h => h) (by rfl) ?_ hHeld ?_
    rotate_left
    · intro w hSw; (try dsimp only at hSw); (first | (go_simp; done) | (go_simp; with_reducible rfl))
    simp only [Act.put, List.setIfInBounds_toArray, List.set_cons_zero, List.set_cons_succ]
    refine takeL (fuel := 17) (v := ?_) 1 rfl (by kernel_rfl) (by kernel_rfl) (by kernel_rfl) (fun _ _ _ h => h) (by rfl) ?_ hHeld ?_
    rotate_left
    · intro w hSw; (try dsimp only at hSw); (first | (go_simp; done) | (go_simp; with_reducible rfl))
    simp only [Act.put, List.setIfInBounds_toArray, List.set_cons_zero, List.set_cons_succ]
    refine takeL (fuel := 16) (v := ?_) 2 rfl (by kernel_rfl) (by kernel_rfl) (by kernel_rfl) (fun _ _ _ h => h) (by rfl) ?_ hHeld ?_
    rotate_left
    · intro w hSw; (try dsimp only at hSw); (first | (go_simp; done) | (go_simp; with_reducible rfl))
    simp only [Act.put, List.setIfInBounds_toArray, List.set_cons_zero, List.set_cons_succ]
    refine takeL (fuel := 15) (v := ?_) 3 rfl (by kernel_rfl) (by kernel_rfl) (by kernel_rfl) (fun _ _ _ h => h) (by rfl) ?_ hHeld ?_
    rotate_left
    · intro w hSw; (try dsimp only at hSw); (first | (go_simp; done) | (go_simp; with_reducible rfl))
    simp only [Act.put, List.setIfInBounds_toArray, List.set_cons_zero, List.set_cons_succ]
    refine takeL (fuel := 14) (v := ?_) 4 rfl (by kernel_rfl) (by kernel_rfl) (by kernel_rfl) (fun _ _ _ h => h) (by rfl) ?_ hHeld ?_
    rotate_left
    · intro w hSw; (try dsimp only at hSw); (first | (go_simp; done) | (go_simp; with_reducible rfl))
    simp only [Act.put, List.setIfInBounds_toArray, List.set_cons_zero, List.set_cons_succ]
    refine takeL (fuel := 13) (v := ?_) 5 rfl (by kernel_rfl) (by kernel_rfl) (by kernel_rfl) (fun _ _ _ h => h) (by rfl) ?_ hHeld ?_
    rotate_left
    · intro w hSw; (try dsimp only at hSw); (first | (go_simp; done) | (go_simp; with_reducible rfl))
    simp only [Act.put, List.setIfInBounds_toArray, List.set_cons_zero, List.set_cons_succ]
    refine takeL (fuel := 12) (v := ?_) 6 rfl (by kernel_rfl) (by kernel_rfl) (by kernel_rfl) (fun _ _ _ h => h) (by rfl) ?_ hHeld ?_
    rotate_left
    · intro w hSw; (try dsimp only at hSw); (first | (go_simp; done) | (go_simp; with_reducible rfl))
    simp only [Act.put, List.setIfInBounds_toArray, List.set_cons_zero, List.set_cons_succ]
    refine takeL (fuel := 11) (v := ?_) 7 rfl (by kernel_rfl) (by kernel_rfl) (by kernel_rfl) (fun _ _ _ h => h) (by rfl) ?_ hHeld ?_
    rotate_left
    · intro w hSw; (try dsimp only at hSw); (first | (go_simp; done) | (go_simp; with_reducible rfl))
    simp only [Act.put, List.setIfInBounds_toArray, List.set_cons_zero, List.set_cons_succ]
    refine callL (fuel := 10) 8 rfl (by kernel_rfl) (fun K hK => ?_)
    go_simp
    refine (rawWidth_c k p n _).mono ?_
    rintro e w3 ⟨rfl, st3⟩
    have st3' : Step _ _ := st3
    try simp only []
    refine hK.out _ _ ?_ (fun hHeld => ?_)
    · (first | exact ⟨m0, m1, m2, m3⟩ | (refine ⟨?_, ?_, ?_, ?_⟩ <;> (focus (repeat (first | assumption | refine cell_step (by assumption) ?_ | refine cell_step (Step.drew _) ?_)))))
    clear hK K
    try simp only [Act.put, List.setIfInBounds_toArray, List.set_cons_zero, List.set_cons_succ]
    refine takeL (fuel := 9) (v := ?_) 9 rfl (by kernel_rfl) (by kernel_rfl) (by kernel_rfl) (fun _ _ _ h => h) (by rfl) ?_ hHeld ?_
    rotate_left
    · intro w hSw; (try dsimp only at hSw); (first | (go_simp; done) | (go_simp; with_reducible rfl))
    simp only [Act.put, List.setIfInBounds_toArray, List.set_cons_zero, List.set_cons_succ]
    refine takeL (fuel := 8) (v := ?_) 10 rfl (by kernel_rfl) (by kernel_rfl) (by kernel_rfl) (fun _ _ _ h => h) (by rfl) ?_ hHeld ?_
    rotate_left
    · intro w hSw; (try dsimp only at hSw); (first | (go_simp; done) | (go_simp; with_reducible rfl))
    simp only [Act.put, List.setIfInBounds_toArray, List.set_cons_zero, List.set_cons_succ]
    refine takeL (fuel := 7) (v := ?_) 11 rfl (by kernel_rfl) (by kernel_rfl) (by kernel_rfl) (fun _ _ _ h => h) (by rfl) ?_ hHeld ?_
    rotate_left
    · intro w hSw; (try dsimp only at hSw); (first | (go_simp; done) | (go_simp; with_reducible rfl))
    simp only [Act.put, List.setIfInBounds_toArray, List.set_cons_zero, List.set_cons_succ]
    refine takeL (fuel := 6) (v := ?_) 12 rfl (by kernel_rfl) (by kernel_rfl) (by kernel_rfl) (fun _ _ _ h => h) (by rfl) ?_ hHeld ?_
    rotate_left
    · intro w hSw; (try dsimp only at hSw); (first | (go_simp; done) | (go_simp; with_reducible rfl))
    simp only [Act.put, List.setIfInBounds_toArray, List.set_cons_zero, List.set_cons_succ]
    refine takeL (fuel := 5) (v := ?_) 13 rfl (by kernel_rfl) (by kernel_rfl) (by kernel_rfl) (fun _ _ _ h => h) (by rfl) ?_ hHeld ?_
    rotate_left
    · intro w hSw; (try dsimp only at hSw); (first | (go_simp; done) | (go_simp; with_reducible rfl))
    simp only [Act.put, List.setIfInBounds_toArray, List.set_cons_zero, List.set_cons_succ]
    refine takeL (fuel := 4) (v := ?_) 14 rfl (by kernel_rfl) (by kernel_rfl) (by kernel_rfl) (fun _ _ _ h => h) (by rfl) ?_ hHeld ?_
    rotate_left
    · intro w hSw; (try dsimp only at hSw); (first | (go_simp; done) | (go_simp; with_reducible rfl))
    simp only [Act.put, List.setIfInBounds_toArray, List.set_cons_zero, List.set_cons_succ]
    refine takeL (fuel := 3) (v := ?_) 15 rfl (by kernel_rfl) (by kernel_rfl) (by kernel_rfl) (fun _ _ _ h => h) (by rfl) ?_ hHeld ?_
    rotate_left
    · intro w hSw; (try dsimp only at hSw); (first | (go_simp; done) | (go_simp; with_reducible rfl))
    simp only [Act.put, List.setIfInBounds_toArray, List.set_cons_zero, List.set_cons_succ]
    refine callL (fuel := 2) 16 rfl (by kernel_rfl) (fun K hK => ?_)
    go_simp
    refine (inRing_c HR.out ((hx.step (Step.drew _)).step st3')).mono ?_
    rintro e w4 ⟨rfl, st4⟩
    have st4' : Step _ _ := st4
    try simp only []
    refine hK.out _ _ ?_ (fun hHeld => ?_)
    · (first | exact ⟨m0, m1, m2, m3⟩ | (refine ⟨?_, ?_, ?_, ?_⟩ <;> (focus (repeat (first | assumption | refine cell_step (by assumption) ?_ | refine cell_step (Step.drew _) ?_)))))
    clear hK K
    try simp only [Act.put, List.setIfInBounds_toArray, List.set_cons_zero, List.set_cons_succ]
    refine takeL (fuel := 1) (v := ?_) 17 rfl (by kernel_rfl) (by kernel_rfl) (by kernel_rfl) (fun _ _ _ h => h) (by rfl) ?_ hHeld ?_
    rotate_left
    · intro w hSw; (try dsimp only at hSw); (first | (go_simp; done) | (go_simp; with_reducible rfl))
    simp only [Act.put, List.setIfInBounds_toArray, List.set_cons_zero, List.set_cons_succ]
    refine takeL (fuel := 0) (v := ?_) 18 rfl (by kernel_rfl) (by kernel_rfl) (by kernel_rfl) (fun _ _ _ h => h) (by rfl) ?_ hHeld ?_
    rotate_left
    · intro w hSw; (try dsimp only at hSw); (first | (go_simp; done) | (go_simp; with_reducible rfl))
    simp only [Act.put, List.setIfInBounds_toArray, List.set_cons_zero, List.set_cons_succ]
    refine wpAnyH_done (by kernel_rfl) ?_ _
    go_wp2_with fail
    go_ret
    exact ⟨ret_bool HE.out.symm, (st02.trans (Step.of_drew st3')).trans st4'⟩
  · have hb : ((n2 : Int) == tsize t.labels t.dims * width ⟨k, p, n⟩) = false := by simpa using hw
    have HE := Lib.hid (tensorOk_no3 (r := ⟨k, p, n⟩) (by rw [hl2.out]; exact hw))
    clear hw
    have hwr : IntKind.i64.wrap (tsize t.labels t.dims * width ⟨k, p, n⟩) = tsize t.labels t.dims * width ⟨k, p, n⟩ := IntWalk.i64_in _ (by omega)
    generalize tsize t.labels t.dims = s at *
    go_wp2_with fail
    refine wp_region_held_drew (S := (fun W' => W'.cell? ⟨W.heap.size, 0, none⟩ = some (.int .i64 k) ∧ W'.cell? ⟨W.heap.size, 1, none⟩ = some (.int .i64 p) ∧ W'.cell? ⟨W.heap.size, 2, none⟩ = some (.int .i64 n) ∧ W'.cell? ⟨W.heap.size + 1, 2, none⟩ = some (.slice A2 n2 c2))) (by kernel_rfl) ?_ (fun hHeld => ?_)
    · exact ⟨m0, m1, m2, m3⟩
    refine takeL (fuel := 18) (v := ?_) 0 rfl (by kernel_rfl) (by kernel_rfl) (by kernel_rfl) (fun _ _ _ h => h) (by rfl) ?_ hHeld ?_
    rotate_left
    · intro w hSw; (try dsimp only at hSw); (first | (go_simp; done) | (go_simp; with_reducible rfl))
    simp only [Act.put, List.setIfInBounds_toArray, List.set_cons_zero, List.set_cons_succ]
    refine takeL (fuel := 17) (v := ?_) 1 rfl (by kernel_rfl) (by kernel_rfl) (by kernel_rfl) (fun _ _ _ h => h) (by rfl) ?_ hHeld ?_
    rotate_left
    · intro w hSw; (try dsimp only at hSw); (first | (go_simp; done) | (go_simp; with_reducible rfl))
    simp only [Act.put, List.setIfInBounds_toArray, List.set_cons_zero, List.set_cons_succ]
    refine takeL (fuel := 16) (v := ?_) 2 rfl (by kernel_rfl) (by kernel_rfl) (by kernel_rfl) (fun _ _ _ h => h) (by rfl) ?_ hHeld ?_
    rotate_left
    · intro w hSw; (try dsimp only at hSw); (first | (go_simp; done) | (go_simp; with_reducible rfl))
    simp only [Act.put, List.setIfInBounds_toArray, List.set_cons_zero, List.set_cons_succ]
    refine takeL (fuel := 15) (v := ?_) 3 rfl (by kernel_rfl) (by kernel_rfl) (by kernel_rfl) (fun _ _ _ h => h) (by rfl) ?_ hHeld ?_
    rotate_left
    · intro w hSw; (try dsimp only at hSw); (first | (go_simp; done) | (go_simp; with_reducible rfl))
    simp only [Act.put, List.setIfInBounds_toArray, List.set_cons_zero, List.set_cons_succ]
    refine takeL (fuel := 14) (v := ?_) 4 rfl (by kernel_rfl) (by kernel_rfl) (by kernel_rfl) (fun _ _ _ h => h) (by rfl) ?_ hHeld ?_
    rotate_left
    · intro w hSw; (try dsimp only at hSw); (first | (go_simp; done) | (go_simp; with_reducible rfl))
    simp only [Act.put, List.setIfInBounds_toArray, List.set_cons_zero, List.set_cons_succ]
    refine takeL (fuel := 13) (v := ?_) 5 rfl (by kernel_rfl) (by kernel_rfl) (by kernel_rfl) (fun _ _ _ h => h) (by rfl) ?_ hHeld ?_
    rotate_left
    · intro w hSw; (try dsimp only at hSw); (first | (go_simp; done) | (go_simp; with_reducible rfl))
    simp only [Act.put, List.setIfInBounds_toArray, List.set_cons_zero, List.set_cons_succ]
    refine takeL (fuel := 12) (v := ?_) 6 rfl (by kernel_rfl) (by kernel_rfl) (by kernel_rfl) (fun _ _ _ h => h) (by rfl) ?_ hHeld ?_
    rotate_left
    · intro w hSw; (try dsimp only at hSw); (first | (go_simp; done) | (go_simp; with_reducible rfl))
    simp only [Act.put, List.setIfInBounds_toArray, List.set_cons_zero, List.set_cons_succ]
    refine takeL (fuel := 11) (v := ?_) 7 rfl (by kernel_rfl) (by kernel_rfl) (by kernel_rfl) (fun _ _ _ h => h) (by rfl) ?_ hHeld ?_
    rotate_left
    · intro w hSw; (try dsimp only at hSw); (first | (go_simp; done) | (go_simp; with_reducible rfl))
    simp only [Act.put, List.setIfInBounds_toArray, List.set_cons_zero, List.set_cons_succ]
    refine callL (fuel := 10) 8 rfl (by kernel_rfl) (fun K hK => ?_)
    go_simp
    refine (rawWidth_c k p n _).mono ?_
    rintro e w3 ⟨rfl, st3⟩
    have st3' : Step _ _ := st3
    try simp only []
    refine hK.out _ _ ?_ (fun hHeld => ?_)
    · (first | exact ⟨m0, m1, m2, m3⟩ | (refine ⟨?_, ?_, ?_, ?_⟩ <;> (focus (repeat (first | assumption | refine cell_step (by assumption) ?_ | refine cell_step (Step.drew _) ?_)))))
    clear hK K
    try simp only [Act.put, List.setIfInBounds_toArray, List.set_cons_zero, List.set_cons_succ]
    refine takeL (fuel := 9) (v := ?_) 9 rfl (by kernel_rfl) (by kernel_rfl) (by kernel_rfl) (fun _ _ _ h => h) (by rfl) ?_ hHeld ?_
    rotate_left
    · intro w hSw; (try dsimp only at hSw); (first | (go_simp; done) | (go_simp; with_reducible rfl))
    simp only [Act.put, List.setIfInBounds_toArray, List.set_cons_zero, List.set_cons_succ]
    refine takeL (fuel := 8) (v := ?_) 10 rfl (by kernel_rfl) (by kernel_rfl) (by kernel_rfl) (fun _ _ _ h => h) (by rfl) ?_ hHeld ?_
    rotate_left
    · intro w hSw; (try dsimp only at hSw); (first | (go_simp; done) | (go_simp; with_reducible rfl))
    simp only [Act.put, List.setIfInBounds_toArray, List.set_cons_zero, List.set_cons_succ]
    refine takeL (fuel := 7) (v := ?_) 11 rfl (by kernel_rfl) (by kernel_rfl) (by kernel_rfl) (fun _ _ _ h => h) (by rfl) ?_ hHeld ?_
    rotate_left
    · intro w hSw; (try dsimp only at hSw); (first | (go_simp; done) | (go_simp; with_reducible rfl))
    simp only [Act.put, List.setIfInBounds_toArray, List.set_cons_zero, List.set_cons_succ]
    refine takeL (fuel := 6) (v := ?_) 12 rfl (by kernel_rfl) (by kernel_rfl) (by kernel_rfl) (fun _ _ _ h => h) (by rfl) ?_ hHeld ?_
    rotate_left
    · intro w hSw; (try dsimp only at hSw); (first | (go_simp; done) | (go_simp; with_reducible rfl))
    simp only [Act.put, List.setIfInBounds_toArray, List.set_cons_zero, List.set_cons_succ]
    refine passL (fuel := 2) (by kernel_rfl) (fun _ _ _ _ _ h => h) hHeld [13, 14, 15, 16] _ _ _ (by kernel_rfl) ?_
    simp only [deadListed, deadTmps, List.getElem?_cons_succ, List.getElem?_cons_zero, Option.bind_some, List.setIfInBounds_toArray, List.set_cons_zero, List.set_cons_succ]
    refine takeL (fuel := 1) (v := ?_) 17 rfl (by kernel_rfl) (by kernel_rfl) (by kernel_rfl) (fun _ _ _ h => h) (by rfl) ?_ hHeld ?_
    rotate_left
    · intro w hSw; (try dsimp only at hSw); (first | (go_simp; done) | (go_simp; with_reducible rfl))
    simp only [Act.put, List.setIfInBounds_toArray, List.set_cons_zero, List.set_cons_succ]
    refine takeL (fuel := 0) (v := ?_) 18 rfl (by kernel_rfl) (by kernel_rfl) (by kernel_rfl) (fun _ _ _ h => h) (by rfl) ?_ hHeld ?_
    rotate_left
    · intro w hSw; (try dsimp only at hSw); (first | (go_simp; done) | (go_simp; with_reducible rfl))
    simp only [Act.put, List.setIfInBounds_toArray, List.set_cons_zero, List.set_cons_succ]
    refine wpAnyH_done (by kernel_rfl) ?_ _
    go_wp2_with fail
    go_ret
    exact ⟨ret_bool HE.out.symm, st02.trans (Step.of_drew st3')⟩
end

end Go.Proofs.Ytjncdanegoileaa

/-
  Contracts: TensorOk in the reference. No condition.
-/
namespace Go.Proofs.Ytjncdanegoileaa
open Go.RowKit Plain

section
variable {W : World} {k p n : Int} {A0 : Option Addr} {n0 c0 : Nat} {A1 : Option Addr} {n1 c1 : Nat} {A2 : Option Addr} {n2 c2 : Nat} {t : Ten}

set_option maxHeartbeats 1600000 in
theorem sTensorOk_c (_ : I64 k) (_ : I64 p) (_ : I64 n) (h : TnOk W A0 n0 c0 A1 n1 c1 A2 n2 c2 t) :
    Calls Try.prog 118 #[.agg #[.int .i64 k, .int .i64 p, .int .i64 n], .agg #[.slice A0 n0 c0, .slice A1 n1 c1, .slice A2 n2 c2]] W (RetV W (.bool (tensorOk ⟨k, p, n⟩ t.labels t.dims t.data))) := by
  have st0 := (Step.alloc W (.cells #[.int .i64 k, .int .i64 p, .int .i64 n] 24)).trans (Step.alloc (W.alloc (.cells #[.int .i64 k, .int .i64 p, .int .i64 n] 24)) (.cells #[.slice A0 n0 c0, .slice A1 n1 c1, .slice A2 n2 c2] 82))
  have hl2 := Lib.hid h.x.at_.len
  have hx2 := h.x.len
  go_enter Try.func118, Try.ntmps118
  go_wp2_with fail
  refine (sTensorSize_c (h.step st0)).mono ?_
  rintro e w2 ⟨rfl, st2⟩
  have hs2 : W.heap.size + 2 ≤ w2.heap.size := by have := Below.size st2; simpa using this
  obtain ⟨hc2, _⟩ := bcell (Below.mono st2 (B' := W.heap.size + 2) (by simp))
  have m0 : w2.cell? ⟨W.heap.size, 0, none⟩ = some (.int .i64 k) := by rw [hc2 _ _ (by omega)]; simp
  have m1 : w2.cell? ⟨W.heap.size, 1, none⟩ = some (.int .i64 p) := by rw [hc2 _ _ (by omega)]; simp
  have m2 : w2.cell? ⟨W.heap.size, 2, none⟩ = some (.int .i64 n) := by rw [hc2 _ _ (by omega)]; simp
  have m3 : w2.cell? ⟨W.heap.size + 1, 2, none⟩ = some (.slice A2 n2 c2) := by rw [hc2 _ _ (by omega)]; simp
  clear hc2
  have st02 : Step W w2 := st0.trans st2
  have hx := (h.x.step st0).step st2
  clear h st0 st2
  rcases Bool.eq_false_or_eq_true (ringOk ⟨k, p, n⟩) with hr | hr
  case inr =>
    have HE := Lib.hid (tensorOk_no1 (ls := t.labels) (ds := t.dims) (xs := t.data) hr)
    have HR := Lib.hid hr
    clear hr
    go_wp2_with fail
    refine wp_region_held_drew (S := (fun W' => W'.cell? ⟨W.heap.size, 0, none⟩ = some (.int .i64 k) ∧ W'.cell? ⟨W.heap.size, 1, none⟩ = some (.int .i64 p) ∧ W'.cell? ⟨W.heap.size, 2, none⟩ = some (.int .i64 n) ∧ W'.cell? ⟨W.heap.size + 1, 2, none⟩ = some (.slice A2 n2 c2))) (by kernel_rfl) ?_ (fun hHeld => ?_)
    · exact ⟨m0, m1, m2, m3⟩
    refine takeL (fuel := 16) (v := ?_) 0 rfl (by kernel_rfl) (by kernel_rfl) (by kernel_rfl) (fun _ _ _ h => h) (by rfl) ?_ hHeld ?_
    rotate_left
    · intro w hSw; (try dsimp only at hSw); (first | (go_simp; done) | (go_simp; with_reducible rfl))
    simp only [Act.put, List.setIfInBounds_toArray, List.set_cons_zero, List.set_cons_succ]
    refine callL (fuel := 15) 1 rfl (by kernel_rfl) (fun K hK => ?_)
    go_simp
    refine (sRingOk_c k p n _).mono ?_
    rintro e w3 ⟨rfl, st3⟩
    rw [HR.out]
    have st3' : Step _ _ := st3
    try simp only []
    refine hK.out _ _ ?_ (fun hHeld => ?_)
    · (first | exact ⟨m0, m1, m2, m3⟩ | (refine ⟨?_, ?_, ?_, ?_⟩ <;> (focus (repeat (first | assumption | refine cell_step (by assumption) ?_ | refine cell_step (Step.drew _) ?_)))))
    clear hK K
    try simp only [Act.put, List.setIfInBounds_toArray, List.set_cons_zero, List.set_cons_succ]
    refine takeL (fuel := 14) (v := ?_) 2 rfl (by kernel_rfl) (by kernel_rfl) (by kernel_rfl) (fun _ _ _ h => h) (by rfl) ?_ hHeld ?_
    rotate_left
    · intro w hSw; (try dsimp only at hSw); (first | (go_simp; done) | (go_simp; with_reducible rfl))
    simp only [Act.put, List.setIfInBounds_toArray, List.set_cons_zero, List.set_cons_succ]
    refine takeL (fuel := 13) (v := ?_) 3 rfl (by kernel_rfl) (by kernel_rfl) (by kernel_rfl) (fun _ _ _ h => h) (by rfl) ?_ hHeld ?_
    rotate_left
    · intro w hSw; (try dsimp only at hSw); (first | (go_simp; done) | (go_simp; with_reducible rfl))
    simp only [Act.put, List.setIfInBounds_toArray, List.set_cons_zero, List.set_cons_succ]
    refine passL (fuel := 11) (by kernel_rfl) (fun _ _ _ _ _ h => h) hHeld [4, 5] _ _ _ (by kernel_rfl) ?_
    simp only [deadListed, deadTmps, List.getElem?_cons_succ, List.getElem?_cons_zero, Option.bind_some, List.setIfInBounds_toArray, List.set_cons_zero, List.set_cons_succ]
    refine takeL (fuel := 10) (v := ?_) 6 rfl (by kernel_rfl) (by kernel_rfl) (by kernel_rfl) (fun _ _ _ h => h) (by rfl) ?_ hHeld ?_
    rotate_left
    · intro w hSw; (try dsimp only at hSw); (first | (go_simp; done) | (go_simp; with_reducible rfl))
    simp only [Act.put, List.setIfInBounds_toArray, List.set_cons_zero, List.set_cons_succ]
    refine takeL (fuel := 9) (v := ?_) 7 rfl (by kernel_rfl) (by kernel_rfl) (by kernel_rfl) (fun _ _ _ h => h) (by rfl) ?_ hHeld ?_
    rotate_left
    · intro w hSw; (try dsimp only at hSw); (first | (go_simp; done) | (go_simp; with_reducible rfl))
    simp only [Act.put, List.setIfInBounds_toArray, List.set_cons_zero, List.set_cons_succ]
    refine passL (fuel := 1) (by kernel_rfl) (fun _ _ _ _ _ h => h) hHeld [8, 9, 10, 11, 12, 13, 14, 15] _ _ _ (by kernel_rfl) ?_
    simp only [deadListed, deadTmps, List.getElem?_cons_succ, List.getElem?_cons_zero, Option.bind_some, List.setIfInBounds_toArray, List.set_cons_zero, List.set_cons_succ]
    refine takeL (fuel := 0) (v := ?_) 16 rfl (by kernel_rfl) (by kernel_rfl) (by kernel_rfl) (fun _ _ _ h => h) (by rfl) ?_ hHeld ?_
    rotate_left
    · intro w hSw; (try dsimp only at hSw); (first | (go_simp; done) | (go_simp; with_reducible rfl))
    simp only [Act.put, List.setIfInBounds_toArray, List.set_cons_zero, List.set_cons_succ]
    refine wpAnyH_done (by kernel_rfl) ?_ _
    go_wp2_with fail
    go_ret
    exact ⟨ret_bool HE.out.symm, st02.trans (Step.of_drew st3')⟩
  have HR := Lib.hid hr
  clear hr
  by_cases hts : tsize t.labels t.dims = -1
  · have HE := Lib.hid (tensorOk_no2 (r := ⟨k, p, n⟩) (xs := t.data) hts)
    rw [hts]
    clear hts
    go_wp2_with fail
    refine wp_region_held_drew (S := (fun W' => W'.cell? ⟨W.heap.size, 0, none⟩ = some (.int .i64 k) ∧ W'.cell? ⟨W.heap.size, 1, none⟩ = some (.int .i64 p) ∧ W'.cell? ⟨W.heap.size, 2, none⟩ = some (.int .i64 n) ∧ W'.cell? ⟨W.heap.size + 1, 2, none⟩ = some (.slice A2 n2 c2))) (by kernel_rfl) ?_ (fun hHeld => ?_)
    · exact ⟨m0, m1, m2, m3⟩
    refine takeL (fuel := 16) (v := ?_) 0 rfl (by kernel_rfl) (by kernel_rfl) (by kernel_rfl) (fun _ _ _ h => h) (by rfl) ?_ hHeld ?_
    rotate_left
    · intro w hSw; (try dsimp only at hSw); (first | (go_simp; done) | (go_simp; with_reducible rfl))
    simp only [Act.put, List.setIfInBounds_toArray, List.set_cons_zero, List.set_cons_succ]
    refine callL (fuel := 15) 1 rfl (by kernel_rfl) (fun K hK => ?_)
    go_simp
    refine (sRingOk_c k p n _).mono ?_
    rintro e w3 ⟨rfl, st3⟩
    rw [HR.out]
    have st3' : Step _ _ := st3
    try simp only []
    refine hK.out _ _ ?_ (fun hHeld => ?_)
    · (first | exact ⟨m0, m1, m2, m3⟩ | (refine ⟨?_, ?_, ?_, ?_⟩ <;> (focus (repeat (first | assumption | refine cell_step (by assumption) ?_ | refine cell_step (Step.drew _) ?_)))))
    clear hK K
    try simp only [Act.put, List.setIfInBounds_toArray, List.set_cons_zero, List.set_cons_succ]
    refine takeL (fuel := 14) (v := ?_) 2 rfl (by kernel_rfl) (by kernel_rfl) (by kernel_rfl) (fun _ _ _ h => h) (by rfl) ?_ hHeld ?_
    rotate_left
    · intro w hSw; (try dsimp only at hSw); (first | (go_simp; done) | (go_simp; with_reducible rfl))
    simp only [Act.put, List.setIfInBounds_toArray, List.set_cons_zero, List.set_cons_succ]
    refine takeL (fuel := 13) (v := ?_) 3 rfl (by kernel_rfl) (by kernel_rfl) (by kernel_rfl) (fun _ _ _ h => h) (by rfl) ?_ hHeld ?_
    rotate_left
    · intro w hSw; (try dsimp only at hSw); (first | (go_simp; done) | (go_simp; with_reducible rfl))
    simp only [Act.put, List.setIfInBounds_toArray, List.set_cons_zero, List.set_cons_succ]
    refine takeL (fuel := 12) (v := ?_) 4 rfl (by kernel_rfl) (by kernel_rfl) (by kernel_rfl) (fun _ _ _ h => h) (by rfl) ?_ hHeld ?_
    rotate_left
    · intro w hSw; (try dsimp only at hSw); (first | (go_simp; done) | (go_simp; with_reducible rfl))
    simp only [Act.put, List.setIfInBounds_toArray, List.set_cons_zero, List.set_cons_succ]
    refine takeL (fuel := 11) (v := ?_) 5 rfl (by kernel_rfl) (by kernel_rfl) (by kernel_rfl) (fun _ _ _ h => h) (by rfl) ?_ hHeld ?_
    rotate_left
    · intro w hSw; (try dsimp only at hSw); (first | (go_simp; done) | (go_simp; with_reducible rfl))
    simp only [Act.put, List.setIfInBounds_toArray, List.set_cons_zero, List.set_cons_succ]
    refine takeL (fuel := 10) (v := ?_) 6 rfl (by kernel_rfl) (by kernel_rfl) (by kernel_rfl) (fun _ _ _ h => h) (by rfl) ?_ hHeld ?_
    rotate_left
    · intro w hSw; (try dsimp only at hSw); (first | (go_simp; done) | (go_simp; with_reducible rfl))
    simp only [Act.put, List.setIfInBounds_toArray, List.set_cons_zero, List.set_cons_succ]
    refine takeL (fuel := 9) (v := ?_) 7 rfl (by kernel_rfl) (by kernel_rfl) (by kernel_rfl) (fun _ _ _ h => h) (by rfl) ?_ hHeld ?_
    rotate_left
    · intro w hSw; (try dsimp only at hSw); (first | (go_simp; done) | (go_simp; with_reducible rfl))
    simp only [Act.put, List.setIfInBounds_toArray, List.set_cons_zero, List.set_cons_succ]
    refine passL (fuel := 1) (by kernel_rfl) (fun _ _ _ _ _ h => h) hHeld [8, 9, 10, 11, 12, 13, 14, 15] _ _ _ (by kernel_rfl) ?_
    simp only [deadListed, deadTmps, List.getElem?_cons_succ, List.getElem?_cons_zero, Option.bind_some, List.setIfInBounds_toArray, List.set_cons_zero, List.set_cons_succ]
    refine takeL (fuel := 0) (v := ?_) 16 rfl (by kernel_rfl) (by kernel_rfl) (by kernel_rfl) (fun _ _ _ h => h) (by rfl) ?_ hHeld ?_
    rotate_left
    · intro w hSw; (try dsimp only at hSw); (first | (go_simp; done) | (go_simp; with_reducible rfl))
    simp only [Act.put, List.setIfInBounds_toArray, List.set_cons_zero, List.set_cons_succ]
    refine wpAnyH_done (by kernel_rfl) ?_ _
    go_wp2_with fail
    go_ret
    exact ⟨ret_bool HE.out.symm, st02.trans (Step.of_drew st3')⟩
  have HT := Lib.hid hts
  rcases tsize_cases t.labels t.dims with hs | ⟨_, hp, hs, hp1⟩
  · exact absurd hs hts
  rw [← hs] at hp hp1
  obtain ⟨b1, b2⟩ := width_bd HR.out
  have hw1 : 1 ≤ tsize t.labels t.dims * width ⟨k, p, n⟩ := by have := Int.mul_pos (a := tsize t.labels t.dims) (b := width ⟨k, p, n⟩) (by omega) (by omega); omega
  have hw2 : tsize t.labels t.dims * width ⟨k, p, n⟩ ≤ 24576 := by have := Int.mul_le_mul (a := tsize t.labels t.dims) (b := width ⟨k, p, n⟩) (c := 4096) (d := 6) hp b2 (by omega) (by omega); omega
  clear hs hts
  have hwr : IntKind.i64.wrap (tsize t.labels t.dims * width ⟨k, p, n⟩) = tsize t.labels t.dims * width ⟨k, p, n⟩ := IntWalk.i64_in _ (by omega)
  have hE3 := Lib.hid (fun h => @tensorOk_no3 ⟨k, p, n⟩ t.labels t.dims t.data h)
  have hE4 := Lib.hid (fun h => @tensorOk_yes ⟨k, p, n⟩ t.labels t.dims t.data HR.out HT.out h)
  generalize tsize t.labels t.dims = s at *
  have hneg : decide (s < 0) = false := decide_eq_false (by omega)
  have keyed : ∀ bb : Bool, ((n2 : Int) != s * width ⟨k, p, n⟩) = bb → True := fun _ _ => trivial
  go_wp2_with fail
  obtain ⟨bb, hbb⟩ : ∃ bb, ((n2 : Int) != s * width ⟨k, p, n⟩) = bb := ⟨_, rfl⟩
  clear keyed
  refine wp_region_held_drew (S := (fun W' => W'.cell? ⟨W.heap.size, 0, none⟩ = some (.int .i64 k) ∧ W'.cell? ⟨W.heap.size, 1, none⟩ = some (.int .i64 p) ∧ W'.cell? ⟨W.heap.size, 2, none⟩ = some (.int .i64 n) ∧ W'.cell? ⟨W.heap.size + 1, 2, none⟩ = some (.slice A2 n2 c2))) (by kernel_rfl) ?_ (fun hHeld => ?_)
  · exact ⟨m0, m1, m2, m3⟩
  refine takeL (fuel := 16) (v := ?_) 0 rfl (by kernel_rfl) (by kernel_rfl) (by kernel_rfl) (fun _ _ _ h => h) (by rfl) ?_ hHeld ?_
  rotate_left
  · intro w hSw; (try dsimp only at hSw); (first | (go_simp; done) | (go_simp; with_reducible rfl))
  simp only [Act.put, List.setIfInBounds_toArray, List.set_cons_zero, List.set_cons_succ]
  refine callL (fuel := 15) 1 rfl (by kernel_rfl) (fun K hK => ?_)
  go_simp
  refine (sRingOk_c k p n _).mono ?_
  rintro e w3 ⟨rfl, st3⟩
  rw [HR.out]
  have st3' : Step _ _ := st3
  try simp only []
  refine hK.out _ _ ?_ (fun hHeld => ?_)
  · (first | exact ⟨m0, m1, m2, m3⟩ | (refine ⟨?_, ?_, ?_, ?_⟩ <;> (focus (repeat (first | assumption | refine cell_step (by assumption) ?_ | refine cell_step (Step.drew _) ?_)))))
  clear hK K
  try simp only [Act.put, List.setIfInBounds_toArray, List.set_cons_zero, List.set_cons_succ]
  refine takeL (fuel := 14) (v := ?_) 2 rfl (by kernel_rfl) (by kernel_rfl) (by kernel_rfl) (fun _ _ _ h => h) (by rfl) ?_ hHeld ?_
  rotate_left
  · intro w hSw; (try dsimp only at hSw); (first | (go_simp; done) | (go_simp; with_reducible rfl))
  simp only [Act.put, List.setIfInBounds_toArray, List.set_cons_zero, List.set_cons_succ]
  refine takeL (fuel := 13) (v := ?_) 3 rfl (by kernel_rfl) (by kernel_rfl) (by kernel_rfl) (fun _ _ _ h => h) (by rfl) ?_ hHeld ?_
  rotate_left
  · intro w hSw; (try dsimp only at hSw); (first | (go_simp; done) | (go_simp; with_reducible rfl))
  simp only [Act.put, List.setIfInBounds_toArray, List.set_cons_zero, List.set_cons_succ]
  refine takeL (fuel := 12) (v := ?_) 4 rfl (by kernel_rfl) (by kernel_rfl) (by kernel_rfl) (fun _ _ _ h => h) (by rfl) ?_ hHeld ?_
  rotate_left
  · intro w hSw; (try dsimp only at hSw); (first | (go_simp; done) | (go_simp; with_reducible rfl))
  simp only [Act.put, List.setIfInBounds_toArray, List.set_cons_zero, List.set_cons_succ]
  refine takeL (fuel := 11) (v := ?_) 5 rfl (by kernel_rfl) (by kernel_rfl) (by kernel_rfl) (fun _ _ _ h => h) (by rfl) ?_ hHeld ?_
  rotate_left
  · intro w hSw; (try dsimp only at hSw); (first | (go_simp; done) | (go_simp; with_reducible rfl))
  simp only [Act.put, List.setIfInBounds_toArray, List.set_cons_zero, List.set_cons_succ]
  refine takeL (fuel := 10) (v := ?_) 6 rfl (by kernel_rfl) (by kernel_rfl) (by kernel_rfl) (fun _ _ _ h => h) (by rfl) ?_ hHeld ?_
  rotate_left
  · intro w hSw; (try dsimp only at hSw); (first | (go_simp; done) | (go_simp; with_reducible rfl))
  simp only [Act.put, List.setIfInBounds_toArray, List.set_cons_zero, List.set_cons_succ]
  refine takeL (fuel := 9) (v := ?_) 7 rfl (by kernel_rfl) (by kernel_rfl) (by kernel_rfl) (fun _ _ _ h => h) (by rfl) ?_ hHeld ?_
  rotate_left
  · intro w hSw; (try dsimp only at hSw); (first | (go_simp; done) | (go_simp; with_reducible rfl))
  simp only [Act.put, List.setIfInBounds_toArray, List.set_cons_zero, List.set_cons_succ]
  refine takeL (fuel := 8) (v := ?_) 8 rfl (by kernel_rfl) (by kernel_rfl) (by kernel_rfl) (fun _ _ _ h => h) (by rfl) ?_ hHeld ?_
  rotate_left
  · intro w hSw; (try dsimp only at hSw); (first | (go_simp; done) | (go_simp; with_reducible rfl))
  simp only [Act.put, List.setIfInBounds_toArray, List.set_cons_zero, List.set_cons_succ]
  refine takeL (fuel := 7) (v := ?_) 9 rfl (by kernel_rfl) (by kernel_rfl) (by kernel_rfl) (fun _ _ _ h => h) (by rfl) ?_ hHeld ?_
  rotate_left
  · intro w hSw; (try dsimp only at hSw); (first | (go_simp; done) | (go_simp; with_reducible rfl))
  simp only [Act.put, List.setIfInBounds_toArray, List.set_cons_zero, List.set_cons_succ]
  refine takeL (fuel := 6) (v := ?_) 10 rfl (by kernel_rfl) (by kernel_rfl) (by kernel_rfl) (fun _ _ _ h => h) (by rfl) ?_ hHeld ?_
  rotate_left
  · intro w hSw; (try dsimp only at hSw); (first | (go_simp; done) | (go_simp; with_reducible rfl))
  simp only [Act.put, List.setIfInBounds_toArray, List.set_cons_zero, List.set_cons_succ]
  refine takeL (fuel := 5) (v := ?_) 11 rfl (by kernel_rfl) (by kernel_rfl) (by kernel_rfl) (fun _ _ _ h => h) (by rfl) ?_ hHeld ?_
  rotate_left
  · intro w hSw; (try dsimp only at hSw); (first | (go_simp; done) | (go_simp; with_reducible rfl))
  simp only [Act.put, List.setIfInBounds_toArray, List.set_cons_zero, List.set_cons_succ]
  refine takeL (fuel := 4) (v := ?_) 12 rfl (by kernel_rfl) (by kernel_rfl) (by kernel_rfl) (fun _ _ _ h => h) (by rfl) ?_ hHeld ?_
  rotate_left
  · intro w hSw; (try dsimp only at hSw); (first | (go_simp; done) | (go_simp; with_reducible rfl))
  simp only [Act.put, List.setIfInBounds_toArray, List.set_cons_zero, List.set_cons_succ]
  refine callL (fuel := 3) 13 rfl (by kernel_rfl) (fun K hK => ?_)
  go_simp
  refine (l02Width_c k p n _).mono ?_
  rintro e w4 ⟨rfl, st4⟩
  have st4' : Step _ _ := st4
  try simp only []
  refine hK.out _ _ ?_ (fun hHeld => ?_)
  · (first | exact ⟨m0, m1, m2, m3⟩ | (refine ⟨?_, ?_, ?_, ?_⟩ <;> (focus (repeat (first | assumption | refine cell_step (by assumption) ?_ | refine cell_step (Step.drew _) ?_)))))
  clear hK K
  try simp only [Act.put, List.setIfInBounds_toArray, List.set_cons_zero, List.set_cons_succ]
  refine takeL (fuel := 2) (v := ?_) 14 rfl (by kernel_rfl) (by kernel_rfl) (by kernel_rfl) (fun _ _ _ h => h) (by rfl) ?_ hHeld ?_
  rotate_left
  · intro w hSw; (try dsimp only at hSw); (first | (go_simp; done) | (go_simp; with_reducible rfl))
  simp only [Act.put, List.setIfInBounds_toArray, List.set_cons_zero, List.set_cons_succ]
  refine takeL (fuel := 1) (v := ?_) 15 rfl (by kernel_rfl) (by kernel_rfl) (by kernel_rfl) (fun _ _ _ h => h) (by rfl) ?_ hHeld ?_
  rotate_left
  · intro w hSw; (try dsimp only at hSw); (first | (go_simp; done) | (go_simp; with_reducible rfl))
  simp only [Act.put, List.setIfInBounds_toArray, List.set_cons_zero, List.set_cons_succ]
  refine takeL (fuel := 0) (v := ?_) 16 rfl (by kernel_rfl) (by kernel_rfl) (by kernel_rfl) (fun _ _ _ h => h) (by rfl) ?_ hHeld ?_
  rotate_left
  · intro w hSw; (try dsimp only at hSw); (first | (go_simp; done) | (go_simp; with_reducible rfl))
  simp only [Act.put, List.setIfInBounds_toArray, List.set_cons_zero, List.set_cons_succ]
  refine wpAnyH_done (by kernel_rfl) ?_ _
  have st4 : Step w2 w4 := (Step.of_drew st3').trans st4'
  have hx4 := hx.step st4
  replace m0 := cell_step st4 m0
  replace m1 := cell_step st4 m1
  replace m2 := cell_step st4 m2
  replace m3 := cell_step st4 m3
  have st := st02.trans st4
  clear hx hs2 st4 st3 st3' st4' st02 hwr hneg
  rcases bb with _ | _
  case true =>
    have hE := Lib.hid (hE3.out (by rw [hl2.out]; simpa using hbb))
    clear hbb hE3 hE4
    go_wp2_with fail
    go_ret
    exact ⟨ret_bool hE.out.symm, st⟩
  have hE := Lib.hid (hE4.out (by rw [hl2.out]; simpa using hbb))
  clear hbb hE3 hE4
  obtain ⟨tp, htp⟩ : ∃ tp, tp = top ⟨k, p, n⟩ := ⟨_, rfl⟩
  have HTP := Lib.hid htp
  have b3 := top_bd HR.out
  rw [← htp] at b3
  obtain ⟨b3, b4⟩ := b3
  clear htp
  go_wp2_with fail
  go_loopw [30] (fun i wr => ∃ j : Nat, j ≤ n2 ∧ i = .int .i64 j ∧ Step w4 wr ∧ ∀ q, q < j → 0 ≤ t.data.getD q 0 ∧ t.data.getD q 0 ≤ tp) (fun i _ => n2 - (intOf i).toNat)
  case atStart => exact ⟨0, Nat.zero_le _, rfl, Below.refl _ _, fun q hq => absurd hq (by omega)⟩
  case round =>
    obtain ⟨j, hj, rfl, st1, hq⟩ := hrel
    have HQ := Lib.hid hq
    have hx1 := (hx4.step st1).at_
    replace m0 := cell_step st1 m0
    replace m1 := cell_step st1 m1
    replace m2 := cell_step st1 m2
    clear hq hx4 m3
    by_cases hlt : j < n2
    · obtain ⟨b, off, rfl, hb, hc⟩ := hx1.at_ (by omega)
      have hck := hc j hlt
      have hbad := Lib.hid (fun h => @fitsB_no ⟨k, p, n⟩ t.data j (by rw [hl2.out]; exact hlt) h)
      rw [← HTP.out] at hbad
      have hok : ∀ z, z = t.data.getD j 0 → (0 ≤ z ∧ z ≤ tp) → ∀ q, q < j + 1 → 0 ≤ t.data.getD q 0 ∧ t.data.getD q 0 ≤ tp := by
        intro z hz hzz q hq
        rcases Nat.lt_or_ge q j with h1 | h1
        · exact HQ.out q h1
        · obtain rfl : q = j := by omega
          rw [← hz]; exact hzz
      have HOK := Lib.hid hok
      clear hok
      generalize hz : t.data.getD j 0 = z at hck hbad HOK
      have hji : (j : Int) < (n2 : Int) := by omega
      clear hc hz hx1
      go_wp2_with fail
      refine (l02Top_c k p n _ HR.out).mono ?_
      rintro e w5 ⟨rfl, st5⟩
      rw [← HTP.out]
      by_cases hg : 0 ≤ z ∧ z ≤ tp
      · obtain ⟨g1, g2⟩ := hg
        go_wp2_with (go_at_call 50; refine (l01In_yes _ _ _ _ (by omega) (by omega)).mono ?_; rintro e w' ⟨rfl, rfl⟩)
        go_roundw
        case rel => exact ⟨j + 1, by omega, by go_num, st1.trans st5, HOK.out z rfl ⟨g1, g2⟩⟩
        case measure => simp [intOf]; omega
      · have hr := Lib.hid (hbad.out hg)
        have HG := Lib.hid hg
        clear hg
        go_wp2_with (go_at_call 50; refine (l01In_no _ _ _ _ HG.out).mono ?_; rintro e w' ⟨rfl, rfl⟩)
        go_ret
        exact ⟨ret_bool (by rw [hE.out, hr.out]), (st.trans st1).trans st5⟩
    · obtain rfl : j = n2 := by omega
      have hq := HQ.out
      rw [HTP.out] at hq
      have hf := Lib.hid (fitsB_yes (r := ⟨k, p, n⟩) (by rw [hl2.out]; exact hq))
      clear hq hx1
      go_wp2_with fail
      go_ret
      exact ⟨ret_bool (by rw [hE.out, hf.out]), st.trans st1⟩
end

end Go.Proofs.Ytjncdanegoileaa

/-
  Contracts: indices and offsets, in the program and in the reference. No condition but bounds on lengths.
-/
namespace Go.Proofs.Ytjncdanegoileaa
open Go.RowKit Plain

section
variable {W : World} {A : Option Addr} {n c : Nat} {ds : List Int} {A' : Option Addr} {n' c' : Nat} {is : List Int}

end

end Go.Proofs.Ytjncdanegoileaa

/-
  Contracts: OffsetOf and IndexAt, in the program and in the reference. No condition but bounds on lengths.
-/
namespace Go.Proofs.Ytjncdanegoileaa
open Go.RowKit Plain

section
variable {W : World} {A0 : Option Addr} {n0 c0 : Nat} {A1 : Option Addr} {n1 c1 : Nat} {A2 : Option Addr} {n2 c2 : Nat} {t : Ten} {A : Option Addr} {n c : Nat} {is : List Int} {x : Int}

set_option maxHeartbeats 400000 in
theorem indexIn_c (hd : SlOk W A n c is) (hx0 : 0 ≤ x) (hx1 : x ≤ 1099511627776) (hn : n ≤ 1048576) (hdm : ∀ d ∈ is, 1 ≤ d ∧ d ≤ 8) :
    Calls Try.prog 130 #[.slice A n c, .int .i64 x] W (RetI W (digits is x)) := by
  have hld := Lib.hid hd.at_.len
  have hdl := Lib.hid (digits_len is x)
  have HDM := Lib.hid hdm
  have hmk := run_make_ints n n (Nat.le_refl _) (by omega)
  have hown := OwnI.zeros_ (w := W) (lo := W.heap.size) n (Nat.le_refl _) (by omega)
  have hb0 : Below W.heap.size W (W.alloc (.cells (zeros n) 3)) := (Below.refl _ _).alloc (Nat.le_refl _) _
  clear hdm
  go_enter Try.func130, Try.ntmps130
  go_wp2_with fail
  generalize W.alloc (.cells (zeros n) 3) = w1 at *
  go_loopw [1, 6] (fun s i wr => ∃ k : Nat, k ≤ n ∧ i = .int .i64 ((k : Int) - 1) ∧ s = .int .i64 (x / prodI (is.drop k)) ∧ OwnI wr W.heap.size (W.heap.size + 1) (some ⟨W.heap.size, 0, none⟩) n n (List.replicate k 0 ++ (digits is x).drop k) ∧ Below W.heap.size W wr) (fun _ i _ => (intOf i + 1).toNat)
  case atStart => exact ⟨n, Nat.le_refl _, rfl, by rw [List.drop_of_length_le (by rw [hld.out]; exact Nat.le_refl _)]; simp [prodI], by rw [List.drop_of_length_le (by rw [hdl.out, hld.out]; exact Nat.le_refl _), List.append_nil]; exact hown, hb0⟩
  case round =>
    clear hmk hown hb0
    obtain ⟨k, hk, rfl, rfl, hown, hb⟩ := hrel
    rcases k with _ | j
    · go_wp2
      go_ret
      have hn' : n = (digits is x).length := by rw [hdl.out, hld.out]
      rw [List.replicate_zero, List.nil_append, List.drop_zero] at hown
      obtain ⟨D, hD⟩ : ∃ D, D = digits is x := ⟨_, rfl⟩
      rw [← hD] at hown hn' ⊢
      subst hn'
      exact ⟨_, _, rfl, hown.top, hb⟩
    · have e1 : ((j + 1 : Nat) : Int) - 1 = (j : Int) := by omega
      rw [e1]
      obtain ⟨b, off, rfl, hbB, hc⟩ := (hd.at_.below hb (Nat.le_refl _)).at_ (by omega)
      have hjn : j < n := by omega
      have hck := hc j hjn
      have hcell := hown.cell hjn
      have hfr := hown.frozen j
      obtain ⟨d1, d2⟩ := HDM.out _ (mem_of_get is j (by rw [hld.out]; omega))
      have hq := Lib.hid (quot_step is x j (by rw [hld.out]; omega) (fun d hx => (HDM.out d hx).1))
      have hpos := prodI_pos (is.drop (j + 1)) (fun d hx => (HDM.out d (List.mem_of_mem_drop hx)).1)
      have hdig := Lib.hid (show digit is x j = (x / prodI (is.drop (j + 1))) % is.getD j 0 from rfl)
      have hset := Lib.hid (set_rep_drop (digits is x) j n (by rw [hdl.out, hld.out]) hjn)
      rw [digits_get is x j (by rw [hld.out]; omega)] at hset
      have hq0 : 0 ≤ x / prodI (is.drop (j + 1)) := Int.ediv_nonneg hx0 (by omega)
      have hq1 : x / prodI (is.drop (j + 1)) ≤ x := Int.ediv_le_self _ hx0
      have hst := hown.set j (digit is x j)
      have hb' := hb.setCell (p := ⟨W.heap.size, j, none⟩) (Nat.le_refl _) (.int .i64 (digit is x j))
      rw [hdig.out] at hst hb'
      generalize x / prodI (is.drop (j + 1)) = q at *
      generalize hy : is.getD j 0 = y at *
      have hji : (j : Int) < (n : Int) := by omega
      have hwr : W.heap.size ≤ wr.heap.size := hb.size
      generalize (List.replicate (j + 1) 0 ++ List.drop (j + 1) (digits is x)).getD j 0 = u at hcell
      have hne : b ≠ W.heap.size := by omega
      have hck2 := World.cell?_setCell_other wr ⟨W.heap.size, j, none⟩ ⟨b, off + j, none⟩ (.int .i64 (q % y)) (fun e => hne (by injection e with e1; exact e1.symm))
      rw [hck] at hck2
      clear hc hown hb hy e1
      go_wp2
      refine ⟨⟨j, by omega, by go_num, by rw [hq.out], ?_, hb'⟩, by simp [intOf]⟩
      rw [← hset.out, hdig.out]
      exact hst.1

set_option maxHeartbeats 400000 in
theorem l05Index_c (hd : SlOk W A n c is) (hx0 : 0 ≤ x) (hx1 : x ≤ 1099511627776) (hn : n ≤ 1048576) (hdm : ∀ d ∈ is, 1 ≤ d ∧ d ≤ 8) :
    Calls Try.prog 146 #[.slice A n c, .int .i64 x] W (RetI W (digits is x)) := by
  have hld := Lib.hid hd.at_.len
  have hdl := Lib.hid (digits_len is x)
  have HDM := Lib.hid hdm
  have hmk := run_make_ints n n (Nat.le_refl _) (by omega)
  have hown := OwnI.zeros_ (w := W) (lo := W.heap.size) n (Nat.le_refl _) (by omega)
  have hb0 : Below W.heap.size W (W.alloc (.cells (zeros n) 3)) := (Below.refl _ _).alloc (Nat.le_refl _) _
  clear hdm
  go_enter Try.func146, Try.ntmps146
  go_wp2_with fail
  generalize W.alloc (.cells (zeros n) 3) = w1 at *
  go_loopw [1, 6] (fun s i wr => ∃ k : Nat, k ≤ n ∧ i = .int .i64 ((k : Int) - 1) ∧ s = .int .i64 (x / prodI (is.drop k)) ∧ OwnI wr W.heap.size (W.heap.size + 1) (some ⟨W.heap.size, 0, none⟩) n n (List.replicate k 0 ++ (digits is x).drop k) ∧ Below W.heap.size W wr) (fun _ i _ => (intOf i + 1).toNat)
  case atStart => exact ⟨n, Nat.le_refl _, rfl, by rw [List.drop_of_length_le (by rw [hld.out]; exact Nat.le_refl _)]; simp [prodI], by rw [List.drop_of_length_le (by rw [hdl.out, hld.out]; exact Nat.le_refl _), List.append_nil]; exact hown, hb0⟩
  case round =>
    clear hmk hown hb0
    obtain ⟨k, hk, rfl, rfl, hown, hb⟩ := hrel
    rcases k with _ | j
    · go_wp2
      go_ret
      have hn' : n = (digits is x).length := by rw [hdl.out, hld.out]
      rw [List.replicate_zero, List.nil_append, List.drop_zero] at hown
      obtain ⟨D, hD⟩ : ∃ D, D = digits is x := ⟨_, rfl⟩
      rw [← hD] at hown hn' ⊢
      subst hn'
      exact ⟨_, _, rfl, hown.top, hb⟩
    · have e1 : ((j + 1 : Nat) : Int) - 1 = (j : Int) := by omega
      rw [e1]
      obtain ⟨b, off, rfl, hbB, hc⟩ := (hd.at_.below hb (Nat.le_refl _)).at_ (by omega)
      have hjn : j < n := by omega
      have hck := hc j hjn
      have hcell := hown.cell hjn
      have hfr := hown.frozen j
      obtain ⟨d1, d2⟩ := HDM.out _ (mem_of_get is j (by rw [hld.out]; omega))
      have hq := Lib.hid (quot_step is x j (by rw [hld.out]; omega) (fun d hx => (HDM.out d hx).1))
      have hpos := prodI_pos (is.drop (j + 1)) (fun d hx => (HDM.out d (List.mem_of_mem_drop hx)).1)
      have hdig := Lib.hid (show digit is x j = (x / prodI (is.drop (j + 1))) % is.getD j 0 from rfl)
      have hset := Lib.hid (set_rep_drop (digits is x) j n (by rw [hdl.out, hld.out]) hjn)
      rw [digits_get is x j (by rw [hld.out]; omega)] at hset
      have hq0 : 0 ≤ x / prodI (is.drop (j + 1)) := Int.ediv_nonneg hx0 (by omega)
      have hq1 : x / prodI (is.drop (j + 1)) ≤ x := Int.ediv_le_self _ hx0
      have hst := hown.set j (digit is x j)
      have hb' := hb.setCell (p := ⟨W.heap.size, j, none⟩) (Nat.le_refl _) (.int .i64 (digit is x j))
      rw [hdig.out] at hst hb'
      generalize x / prodI (is.drop (j + 1)) = q at *
      generalize hy : is.getD j 0 = y at *
      have hji : (j : Int) < (n : Int) := by omega
      have hwr : W.heap.size ≤ wr.heap.size := hb.size
      generalize (List.replicate (j + 1) 0 ++ List.drop (j + 1) (digits is x)).getD j 0 = u at hcell
      have hne : b ≠ W.heap.size := by omega
      have hck2 := World.cell?_setCell_other wr ⟨W.heap.size, j, none⟩ ⟨b, off + j, none⟩ (.int .i64 (q % y)) (fun e => hne (by injection e with e1; exact e1.symm))
      rw [hck] at hck2
      clear hc hown hb hy e1
      go_wp2
      refine ⟨⟨j, by omega, by go_num, by rw [hq.out], ?_, hb'⟩, by simp [intOf]⟩
      rw [← hset.out, hdig.out]
      exact hst.1

end

end Go.Proofs.Ytjncdanegoileaa

/-
  Contracts: IndexAt, in the program and in the reference. No condition but bounds on lengths.
-/
namespace Go.Proofs.Ytjncdanegoileaa
open Go.RowKit Plain

section
variable {W : World} {A0 : Option Addr} {n0 c0 : Nat} {A1 : Option Addr} {n1 c1 : Nat} {A2 : Option Addr} {n2 c2 : Nat} {t : Ten} {x : Int}

end

end Go.Proofs.Ytjncdanegoileaa

/-
  LIFT, part 29: what the hand-made walks showed, as contracts on data. No condition.
-/
namespace Go.Proofs.Ytjncdanegoileaa
open Go.RowKit Go.Lift Plain

theorem iTensorSize_d {t : Ten} (h : TSz 1099511627776 t) : Does Try.prog 111 [tenA t] [] (.d (.int (tsize t.labels t.dims))) [] :=
  Does.of_calls (rv_int _) fun w γ φ vals hr => by
    obtain ⟨_, rfl, h0⟩ := rel1 hr
    obtain ⟨A0, c0, A1, c1, A2, c2, rfl, o⟩ := rel_ten h0 h
    exact iTensorSize_c o
theorem sTensorSize_d {t : Ten} (h : TSz 1099511627776 t) : Does Try.prog 119 [tenA t] [] (.d (.int (tsize t.labels t.dims))) [] :=
  Does.of_calls (rv_int _) fun w γ φ vals hr => by
    obtain ⟨_, rfl, h0⟩ := rel1 hr
    obtain ⟨A0, c0, A1, c1, A2, c2, rfl, o⟩ := rel_ten h0 h
    exact sTensorSize_c o
theorem iTensorOk_d {k p n : Int} {t : Ten} (a : I64 k) (b : I64 p) (c : I64 n) (h : TSz 1099511627776 t) : Does Try.prog 110 [ringA k p n, tenA t] [] (.d (.bool (tensorOk ⟨k, p, n⟩ t.labels t.dims t.data))) [] :=
  Does.of_calls (rv_bool _) fun w γ φ vals hr => by
    obtain ⟨_, _, rfl, h0, h1⟩ := rel2 hr
    obtain rfl := rel_ring h0
    obtain ⟨A0, c0, A1, c1, A2, c2, rfl, o⟩ := rel_ten h1 h
    exact iTensorOk_c a b c o
theorem sTensorOk_d {k p n : Int} {t : Ten} (a : I64 k) (b : I64 p) (c : I64 n) (h : TSz 1099511627776 t) : Does Try.prog 118 [ringA k p n, tenA t] [] (.d (.bool (tensorOk ⟨k, p, n⟩ t.labels t.dims t.data))) [] :=
  Does.of_calls (rv_bool _) fun w γ φ vals hr => by
    obtain ⟨_, _, rfl, h0, h1⟩ := rel2 hr
    obtain rfl := rel_ring h0
    obtain ⟨A0, c0, A1, c1, A2, c2, rfl, o⟩ := rel_ten h1 h
    exact sTensorOk_c a b c o
theorem iRingOk_d (k p n : Int) : Does Try.prog 109 [ringA k p n] [] (.d (.bool (ringOk ⟨k, p, n⟩))) [] :=
  Does.of_calls (rv_bool _) fun w γ φ vals hr => by
    obtain ⟨_, rfl, h0⟩ := rel1 hr
    obtain rfl := rel_ring h0
    exact iRingOk_c k p n w
theorem sRingOk_d (k p n : Int) : Does Try.prog 117 [ringA k p n] [] (.d (.bool (ringOk ⟨k, p, n⟩))) [] :=
  Does.of_calls (rv_bool _) fun w γ φ vals hr => by
    obtain ⟨_, rfl, h0⟩ := rel1 hr
    obtain rfl := rel_ring h0
    exact sRingOk_c k p n w
end Go.Proofs.Ytjncdanegoileaa

/-
  Contracts of the helpers of the laws: copies, sizes, comparisons, marks. No condition.
-/
namespace Go.Proofs.Ytjncdanegoileaa
open Go.RowKit Go.Lift Plain
set_option linter.unusedSimpArgs false
set_option linter.unusedVariables false

theorem toIntS_d {xs : List Int} (h : xs.length ≤ 1099511627776) : Does Try.prog 55 [.d (ints xs)] [] (.own 0 0 xs.length) [some ⟨1, true, iv xs⟩] := by
  (refine spec_of (by kernel_rfl) Try.func55 k_laws_toIntS (fnOk (Nat.le_of_ble_eq_true rfl) ?_); unfold C_laws_toIntS)
  simp (disch := omega) only [go_sem, seval, reduceCtorEq, List.replicate]
  refine ⟨by omega, ?_⟩
  refine wpN_upto xs.length (fun k => (ch (.d (ints xs)) (.any) (.nil) (.own 0 0 xs.length) (.d (.int k)) (.any) (.any) (.any) (.any) (.any) (.any) (.any) (.any) (.any) (.any) (.any) [.any, .any, .any, .any, .any, .any])) (fun k => [some ⟨1, true, iv (mix xs (List.replicate xs.length 0) k)⟩]) (Wk.kept' [0, 2, 3, 4] 1 (Nat.zero_le _) rfl (by simp only [go_sem, seval, reduceCtorEq, mix_zero])) fun k hk => ?_
  unfold L0_laws_toIntS
  by_cases hlt : k < xs.length
  · have h1 : (k : Int) < xs.length := by omega
    have hx : xs[k]? = some xs[k] := List.getElem?_eq_getElem hlt
    simp (disch := omega) only [go_sem, seval, reduceCtorEq, h1, hx]
    refine ⟨by rw [mix_len (by simp)]; omega, Next.mk hlt (Wk.kept' [0, 2, 3, 4] 1 (Nat.zero_le _) rfl ?_)⟩
    simp only [go_sem, seval, reduceCtorEq, mix_next (show xs.length = (List.replicate xs.length (0 : Int)).length by simp) hx]
  · have h1 : ¬ (k : Int) < xs.length := by omega
    simp (disch := omega) only [go_sem, seval, reduceCtorEq, h1]
    (refine FnEnd.mk (Nat.le_of_ble_eq_true rfl) rfl (of_decide_eq_true rfl) ?_ ?_ <;> try simp only [go_sem, seval, reduceCtorEq])
    rw [mix_full (by simp; omega) (by omega)]
theorem toRing_d (k p n : Int) : Does Try.prog 53 [ringA k p n] [] (ringA k p n) [] := by
  refine spec_of (by kernel_rfl) Try.func53 k_laws_toRing (fnOk (Nat.le_of_ble_eq_true rfl) ?_)
  unfold C_laws_toRing
  simp only [go_sem, seval, List.replicate]
  (refine FnEnd.mk (Nat.le_of_ble_eq_true rfl) rfl (of_decide_eq_true rfl) ?_ ?_ <;> try simp only [go_sem, seval, reduceCtorEq])
theorem toTensor_d {t : Ten} (h : TSz 1099511627776 t) : Does Try.prog 108 [tenA t] [] (ownT 0 t) (stoT t) := by
  refine spec_of (by kernel_rfl) Try.func108 k_laws_toTensor (fnOk (Nat.le_of_ble_eq_true rfl) ?_)
  unfold C_laws_toTensor
  simp only [go_sem, seval, List.replicate]
  (refine ti_call (toIntS_d h.l.len) ?_ ?_ ?_; (focus (simp only [go_sem, seval, reduceCtorEq]; done)); (first | rfl | (focus (simp only [go_sem]; done))))
  simp only [go_sem, seval]
  (refine ti_call (toIntS_d h.d.len) ?_ ?_ ?_; (focus (simp only [go_sem, seval, reduceCtorEq]; done)); (first | rfl | (focus (simp only [go_sem]; done))))
  simp only [go_sem, seval]
  (refine ti_call (toIntS_d h.x.len) ?_ ?_ ?_; (focus (simp only [go_sem, seval, reduceCtorEq]; done)); (first | rfl | (focus (simp only [go_sem]; done))))
  simp only [go_sem, seval]
  (refine FnEnd.mk (Nat.le_of_ble_eq_true rfl) rfl (of_decide_eq_true rfl) ?_ ?_ <;> try simp only [go_sem, seval, reduceCtorEq])
theorem szIntS_d {xs : List Int} {left : Int} (h : xs.length ≤ 9223372036854775807) (h0 : 0 ≤ left ∧ left ≤ 1099511627776) : Does Try.prog 49 [.d (ints xs), .d (.int left)] [] (.d (.int (if left < xs.length then -1 else left - xs.length))) [] := by
  refine spec_of (by kernel_rfl) Try.func49 k_laws_szIntS (fnOk (Nat.le_of_ble_eq_true rfl) ?_)
  unfold C_laws_szIntS ints
  by_cases hl : left < xs.length
  · have h1 : left - xs.length < 0 := by omega
    simp (disch := omega) only [go_sem, seval, List.replicate, h1, hl]
    (refine FnEnd.mk (Nat.le_of_ble_eq_true rfl) rfl (of_decide_eq_true rfl) ?_ ?_ <;> try simp only [go_sem, seval, reduceCtorEq])
  · have h1 : ¬ left - xs.length < 0 := by omega
    simp (disch := omega) only [go_sem, seval, List.replicate, h1, hl]
    (refine FnEnd.mk (Nat.le_of_ble_eq_true rfl) rfl (of_decide_eq_true rfl) ?_ ?_ <;> try simp only [go_sem, seval, reduceCtorEq])
def szTen (t : Ten) (left : Int) : Int := if left < t.labels.length + t.dims.length + t.data.length then -1 else left - (t.labels.length + t.dims.length + t.data.length)
theorem szTensor_d {t : Ten} {left : Int} (h1 : t.labels.length ≤ 9223372036854775807) (h2 : t.dims.length ≤ 9223372036854775807) (h3 : t.data.length ≤ 9223372036854775807) (h0 : 0 ≤ left ∧ left ≤ 1099511627776) :
    Does Try.prog 105 [tenA t, .d (.int left)] [] (.d (.int (szTen t left))) [] := by
  refine spec_of (by kernel_rfl) Try.func105 k_laws_szTensor (fnOk (Nat.le_of_ble_eq_true rfl) ?_)
  unfold C_laws_szTensor
  simp only [go_sem, seval, List.replicate]
  (refine ti_call (szIntS_d h1 h0) ?_ ?_ ?_; (focus (simp only [go_sem, seval, reduceCtorEq]; done)); (first | rfl | (focus (simp only [go_sem]; done))))
  by_cases a1 : left < t.labels.length
  · have e : szTen t left = -1 := by unfold szTen; rw [if_pos (by omega)]
    rw [e]
    simp only [go_sem, seval, a1, Int.reduceLT]
    (refine FnEnd.mk (Nat.le_of_ble_eq_true rfl) rfl (of_decide_eq_true rfl) ?_ ?_ <;> try simp only [go_sem, seval, reduceCtorEq])
  · have b1 : ¬ left - (t.labels.length : Int) < 0 := by omega
    simp only [go_sem, seval, a1, b1]
    (refine ti_call (szIntS_d (left := left - t.labels.length) h2 (by omega)) ?_ ?_ ?_; (focus (simp only [go_sem, seval, reduceCtorEq]; done)); (first | rfl | (focus (simp only [go_sem]; done))))
    by_cases a2 : left - t.labels.length < t.dims.length
    · have e : szTen t left = -1 := by unfold szTen; rw [if_pos (by omega)]
      rw [e]
      simp only [go_sem, seval, a2, Int.reduceLT]
      (refine FnEnd.mk (Nat.le_of_ble_eq_true rfl) rfl (of_decide_eq_true rfl) ?_ ?_ <;> try simp only [go_sem, seval, reduceCtorEq])
    · have b2 : ¬ left - (t.labels.length : Int) - t.dims.length < 0 := by omega
      simp only [go_sem, seval, a2, b2]
      (refine ti_call (szIntS_d (left := left - t.labels.length - t.dims.length) h3 (by omega)) ?_ ?_ ?_; (focus (simp only [go_sem, seval, reduceCtorEq]; done)); (first | rfl | (focus (simp only [go_sem]; done))))
      by_cases a3 : left - t.labels.length - t.dims.length < t.data.length
      · have e : szTen t left = -1 := by unfold szTen; rw [if_pos (by omega)]
        rw [e]
        simp only [go_sem, seval, a3, Int.reduceLT]
        (refine FnEnd.mk (Nat.le_of_ble_eq_true rfl) rfl (of_decide_eq_true rfl) ?_ ?_ <;> try simp only [go_sem, seval, reduceCtorEq])
      · have e : szTen t left = left - t.labels.length - t.dims.length - t.data.length := by unfold szTen; rw [if_neg (by omega)]; omega
        have b3 : ¬ left - (t.labels.length : Int) - t.dims.length - t.data.length < 0 := by omega
        rw [e]
        simp only [go_sem, seval, a3, b3]
        (refine FnEnd.mk (Nat.le_of_ble_eq_true rfl) rfl (of_decide_eq_true rfl) ?_ ?_ <;> try simp only [go_sem, seval, reduceCtorEq])
theorem eqIntS_d {xs ys : List Int} (h : xs.length ≤ 1099511627776) : Does Try.prog 64 [.d (ints xs), .d (ints ys)] [] (.d (.bool (decide (xs = ys)))) [] := by
  refine spec_of (by kernel_rfl) Try.func64 k_laws_eqIntS (fnOk (Nat.le_of_ble_eq_true rfl) ?_)
  unfold C_laws_eqIntS ints
  by_cases hl : xs.length = ys.length
  · have hl' : ((xs.length : Int) != ys.length) = false := by simp [hl]
    simp only [go_sem, seval, List.replicate, hl']
    refine wpN_uptoI xs.length (fun k => xs.take k = ys.take k) (fun k => (ch (.d (.sl xs.length (dv xs))) (.d (.sl ys.length (dv ys))) (.any) (.any) (.any) (.d (.int k)) (.any) (.any) (.any) (.any) (.any) (.any) (.any) (.any) (.any) (.any) [.any, .any, .any, .any, .any, .any, .any, .any, .any, .any])) (fun _ => []) rfl (Wk.kept' [0, 1, 5] 0 (Nat.zero_le _) rfl rfl) fun k hk hi => ?_
    unfold L0_laws_eqIntS
    by_cases hlt : k < xs.length
    · have h1 : (k : Int) < xs.length := by omega
      have h2 : (k : Int) < ys.length := by omega
      have hlt' : k < ys.length := by omega
      have hx : xs[k]? = some xs[k] := List.getElem?_eq_getElem hlt
      have hy : ys[k]? = some ys[k] := List.getElem?_eq_getElem hlt'
      by_cases he : xs[k] = ys[k]
      · have he' : (xs[k] != ys[k]) = false := by simp [he]
        simp (disch := omega) only [go_sem, seval, iv_len, h1, h2, hx, hy, he']
        refine NextI.mk hlt ?_ (Wk.kept' [0, 1, 5] 0 (Nat.zero_le _) rfl rfl)
        rw [List.take_succ_eq_append_getElem hlt, List.take_succ_eq_append_getElem hlt', hi, he]
      · have he' : (xs[k] != ys[k]) = true := by simp [he]
        have e : decide (xs = ys) = false := decide_eq_false fun e => he (by subst e; rfl)
        rw [e]
        simp (disch := omega) only [go_sem, seval, iv_len, h1, h2, hx, hy, he']
        (refine FnEnd.mk (Nat.le_of_ble_eq_true rfl) rfl (of_decide_eq_true rfl) ?_ ?_ <;> try simp only [go_sem, seval, reduceCtorEq])
    · have h1 : ¬ (k : Int) < xs.length := by omega
      have e : decide (xs = ys) = true := decide_eq_true (by rw [List.take_of_length_le (by omega), List.take_of_length_le (by omega)] at hi; exact hi)
      rw [e]
      simp (disch := omega) only [go_sem, seval, iv_len, h1]
      (refine FnEnd.mk (Nat.le_of_ble_eq_true rfl) rfl (of_decide_eq_true rfl) ?_ ?_ <;> try simp only [go_sem, seval, reduceCtorEq])
  · have hl' : ((xs.length : Int) != ys.length) = true := by simp; omega
    have e : decide (xs = ys) = false := decide_eq_false fun e => hl (by rw [e])
    rw [e]
    simp only [go_sem, seval, List.replicate, hl']
    (refine FnEnd.mk (Nat.le_of_ble_eq_true rfl) rfl (of_decide_eq_true rfl) ?_ ?_ <;> try simp only [go_sem, seval, reduceCtorEq])
end Go.Proofs.Ytjncdanegoileaa

/-
  Contracts: comparing and marking tensors, an element of a tensor. No condition.
-/
namespace Go.Proofs.Ytjncdanegoileaa
open Go.RowKit Go.Lift Plain
set_option linter.unusedSimpArgs false
set_option linter.unusedVariables false

def eqTb (t u : Ten) : Bool := decide (t.labels = u.labels) && decide (t.dims = u.dims) && decide (t.data = u.data)
theorem eqTb_self (t : Ten) : eqTb t t = true := by simp [eqTb]
theorem eqTensor_d {t u : Ten} (h : TSz 1099511627776 t) : Does Try.prog 116 [tenA t, tenA u] [] (.d (.bool (eqTb t u))) [] := by
  refine spec_of (by kernel_rfl) Try.func116 k_laws_eqTensor (fnOk (Nat.le_of_ble_eq_true rfl) ?_)
  unfold C_laws_eqTensor
  simp only [go_sem, seval, List.replicate]
  (refine ti_call (eqIntS_d (ys := u.labels) h.l.len) ?_ ?_ ?_; (focus (simp only [go_sem, seval, reduceCtorEq]; done)); (first | rfl | (focus (simp only [go_sem]; done))))
  by_cases e1 : t.labels = u.labels
  · simp only [go_sem, seval, e1, decide_true]
    (refine ti_call (eqIntS_d (ys := u.dims) h.d.len) ?_ ?_ ?_; (focus (simp only [go_sem, seval, reduceCtorEq]; done)); (first | rfl | (focus (simp only [go_sem]; done))))
    by_cases e2 : t.dims = u.dims
    · simp only [go_sem, seval, e2, decide_true]
      (refine ti_call (eqIntS_d (ys := u.data) h.x.len) ?_ ?_ ?_; (focus (simp only [go_sem, seval, reduceCtorEq]; done)); (first | rfl | (focus (simp only [go_sem]; done))))
      by_cases e3 : t.data = u.data
      · have e : eqTb t u = true := by simp [eqTb, e1, e2, e3]
        rw [e]
        simp only [go_sem, seval, e3, decide_true]
        (refine FnEnd.mk (Nat.le_of_ble_eq_true rfl) rfl (of_decide_eq_true rfl) ?_ ?_ <;> try simp only [go_sem, seval, reduceCtorEq])
      · have e : eqTb t u = false := by simp [eqTb, e3]
        rw [e]
        simp only [go_sem, seval, e3, decide_false]
        (refine FnEnd.mk (Nat.le_of_ble_eq_true rfl) rfl (of_decide_eq_true rfl) ?_ ?_ <;> try simp only [go_sem, seval, reduceCtorEq])
    · have e : eqTb t u = false := by simp [eqTb, e2]
      rw [e]
      simp only [go_sem, seval, e2, decide_false]
      (refine FnEnd.mk (Nat.le_of_ble_eq_true rfl) rfl (of_decide_eq_true rfl) ?_ ?_ <;> try simp only [go_sem, seval, reduceCtorEq])
  · have e : eqTb t u = false := by simp [eqTb, e1]
    rw [e]
    simp only [go_sem, seval, e1, decide_false]
    (refine FnEnd.mk (Nat.le_of_ble_eq_true rfl) rfl (of_decide_eq_true rfl) ?_ ?_ <;> try simp only [go_sem, seval, reduceCtorEq])
theorem copyInts_d {xs : List Int} (h : xs.length ≤ 1099511627776) : Does Try.prog 85 [.d (ints xs)] [] (.own 0 0 xs.length) [some ⟨1, true, iv xs⟩] := by
  refine spec_of (by kernel_rfl) Try.func85 k_impl_copyInts (fnOk (Nat.le_of_ble_eq_true rfl) ?_)
  unfold C_impl_copyInts ints
  simp only [go_sem, seval, iv_len, List.replicate]
  refine ⟨by omega, ?_⟩
  (refine FnEnd.mk (Nat.le_of_ble_eq_true rfl) rfl (of_decide_eq_true rfl) ?_ ?_ <;> try simp only [go_sem, seval, reduceCtorEq])
theorem tensorOk_facts {r : Rg} {ls ds xs : List Int} (h : tensorOk r ls ds xs = true) : ringOk r = true ∧ axOk ls ds ∧ prodI ds ≤ 4096 ∧ 1 ≤ prodI ds ∧ tsize ls ds = prodI ds ∧ (xs.length : Int) = prodI ds * width r := by
  simp only [tensorOk, Bool.and_eq_true, decide_eq_true_eq] at h
  obtain ⟨⟨h1, h2, h3⟩, h4⟩ := h
  rcases tsize_cases ls ds with h5 | ⟨h5, h6, h7, h8⟩
  · exact absurd h5 h2
  · exact ⟨h1, h5, h6, h8, h7, by rw [h3, h7]⟩
end Go.Proofs.Ytjncdanegoileaa

/-
  Contracts of the helpers: members, places, products. No condition.
-/
namespace Go.Proofs.Ytjncdanegoileaa
open Go.RowKit Go.Lift Plain
set_option linter.unusedSimpArgs false
set_option linter.unusedVariables false
set_option maxRecDepth 100000

theorem hasInt_d {xs : List Int} {x : Int} (h : xs.length ≤ 1099511627776) : Does Try.prog 84 [.d (ints xs), .d (.int x)] [] (.d (.bool (has xs x))) [] := by
  (refine spec_of (by kernel_rfl) Try.func84 k_impl_hasInt (fnOk (Nat.le_of_ble_eq_true rfl) ?_); unfold C_impl_hasInt)
  (simp only [Nat.reduceSub, List.length_cons, List.length_nil, Nat.reduceAdd, ch_init1, ch_init2, ch_init3, ch_init4, ch_init5, ch_init6, ch_init7, ch_init8]; try simp only [ch_rep]); (simp only [go_sem, seval, reduceCtorEq, List.replicate])
  refine wpN_uptoI (xs.length) (fun k => x ∉ xs.take k) (fun k => (ch (.any) (.d (.int x)) (.any) (.any) (.any) (.any) (.any) (.d (ints xs)) (.d (.int xs.length)) (.d (.int k)) (.any) (.any) (.any) (.any) (.any) (.any) [.any])) (fun k => []) (by simp) (Wk.kept' [1, 7, 8, 9] 0 (Nat.le_of_ble_eq_true rfl) (by first | rfl | simp only [go_sem, seval, reduceCtorEq, keepE, keepF_ch, keepG_ch, keepF, keepG, cut, List.contains_cons, List.contains_nil, Nat.reduceBEq, Int.natCast_zero, Int.natCast_add, Int.natCast_one]) (by first | rfl | simp only [go_sem, seval, reduceCtorEq, keepE, keepF_ch, keepG_ch, keepF, keepG, cut, List.contains_cons, List.contains_nil, Nat.reduceBEq, Int.natCast_zero, Int.natCast_add, Int.natCast_one])) fun k hk hi => ?_
  unfold L0_impl_hasInt
  by_cases hlt : k < xs.length
  · have h1 : (k : Int) < xs.length := by omega
    have hx : xs[k]? = some xs[k] := List.getElem?_eq_getElem hlt
    by_cases he : x = xs[k]
    · have he' : (x == xs[k]) = true := by simp [he]
      have e : has xs x = true := has_true.2 (by rw [he]; exact List.getElem_mem _)
      simp (disch := omega) only [go_sem, seval, reduceCtorEq, h1, hx, he', e]
      (refine FnEnd.mk (Nat.le_of_ble_eq_true rfl) rfl (of_decide_eq_true rfl) ?_ ?_ <;> try simp only [go_sem, seval, reduceCtorEq])
    · have he' : (x == xs[k]) = false := by simp [he]
      simp (disch := omega) only [go_sem, seval, reduceCtorEq, h1, hx, he']
      (refine NextI.mk hlt (not_mem_take hlt hi he) (Wk.kept' [1, 7, 8, 9] 0 (Nat.le_of_ble_eq_true rfl) ?_ ?_) <;> first | rfl | (simp only [go_sem, seval, reduceCtorEq, keepE, keepF_ch, keepG_ch, keepF, keepG, cut, List.contains_cons, List.contains_nil, Nat.reduceBEq, Int.natCast_zero, Int.natCast_add, Int.natCast_one]; done) | skip)
  · have h1 : ¬ (k : Int) < xs.length := by omega
    have e : has xs x = false := has_false.2 (by rw [List.take_of_length_le (by omega)] at hi; exact hi)
    simp (disch := omega) only [go_sem, seval, reduceCtorEq, h1, e]
    (refine FnEnd.mk (Nat.le_of_ble_eq_true rfl) rfl (of_decide_eq_true rfl) ?_ ?_ <;> try simp only [go_sem, seval, reduceCtorEq])

theorem l05Find_d {xs : List Int} {x : Int} (h : xs.length ≤ 1099511627776) : Does Try.prog 88 [.d (ints xs), .d (.int x)] [] (.d (.int (place xs x))) [] := by
  (refine spec_of (by kernel_rfl) Try.func88 k_spec_l05Find (fnOk (Nat.le_of_ble_eq_true rfl) ?_); unfold C_spec_l05Find)
  (simp only [Nat.reduceSub, List.length_cons, List.length_nil, Nat.reduceAdd, ch_init1, ch_init2, ch_init3, ch_init4, ch_init5, ch_init6, ch_init7, ch_init8]; try simp only [ch_rep]); (simp only [go_sem, seval, reduceCtorEq, List.replicate])
  refine wpN_uptoI (xs.length) (fun k => x ∉ xs.take k) (fun k => (ch (.any) (.d (.int x)) (.any) (.any) (.any) (.any) (.any) (.d (ints xs)) (.d (.int xs.length)) (.d (.int k)) (.any) (.any) (.any) (.any) (.any) (.any) [.any, .any, .any])) (fun k => []) (by simp) (Wk.kept' [1, 7, 8, 9] 0 (Nat.le_of_ble_eq_true rfl) (by first | rfl | simp only [go_sem, seval, reduceCtorEq, keepE, keepF_ch, keepG_ch, keepF, keepG, cut, List.contains_cons, List.contains_nil, Nat.reduceBEq, Int.natCast_zero, Int.natCast_add, Int.natCast_one]) (by first | rfl | simp only [go_sem, seval, reduceCtorEq, keepE, keepF_ch, keepG_ch, keepF, keepG, cut, List.contains_cons, List.contains_nil, Nat.reduceBEq, Int.natCast_zero, Int.natCast_add, Int.natCast_one])) fun k hk hi => ?_
  unfold L0_spec_l05Find
  by_cases hlt : k < xs.length
  · have h1 : (k : Int) < xs.length := by omega
    have hx : xs[k]? = some xs[k] := List.getElem?_eq_getElem hlt
    by_cases he : xs[k] = x
    · have he' : (xs[k] == x) = true := by simp [he]
      have e : place xs x = k := by rw [← he]; exact place_at hlt (by rw [he]; exact hi)
      simp (disch := omega) only [go_sem, seval, reduceCtorEq, h1, hx, he', e]
      (refine FnEnd.mk (Nat.le_of_ble_eq_true rfl) rfl (of_decide_eq_true rfl) ?_ ?_ <;> try simp only [go_sem, seval, reduceCtorEq])
    · have he' : (xs[k] == x) = false := by simp [he]
      simp (disch := omega) only [go_sem, seval, reduceCtorEq, h1, hx, he']
      (refine NextI.mk hlt (not_mem_take hlt hi (fun e => he e.symm)) (Wk.kept' [1, 7, 8, 9] 0 (Nat.le_of_ble_eq_true rfl) ?_ ?_) <;> first | rfl | (simp only [go_sem, seval, reduceCtorEq, keepE, keepF_ch, keepG_ch, keepF, keepG, cut, List.contains_cons, List.contains_nil, Nat.reduceBEq, Int.natCast_zero, Int.natCast_add, Int.natCast_one]; done) | skip)
  · have h1 : ¬ (k : Int) < xs.length := by omega
    have e : place xs x = -1 := place_no (by rw [List.take_of_length_le (by omega)] at hi; exact hi)
    simp (disch := omega) only [go_sem, seval, reduceCtorEq, h1, e]
    (refine FnEnd.mk (Nat.le_of_ble_eq_true rfl) rfl (of_decide_eq_true rfl) ?_ ?_ <;> try simp only [go_sem, seval, reduceCtorEq])
def ren1 (x : Int) (fs ts : List Int) : Int := if x ∈ fs then ts.getD (place fs x).toNat 0 else x
theorem l05Product_d {ds : List Int} {lim : Int} (h : ds.length ≤ 1099511627776) (hd : ∀ d ∈ ds, 1 ≤ d ∧ d ≤ 100) (hl : 1 ≤ lim ∧ lim ≤ 1000000000) : Does Try.prog 125 [.d (ints ds), .d (.int lim)] [] (.d (.int (min (prodI ds) (lim + 1)))) [] := by
  (refine spec_of (by kernel_rfl) Try.func125 k_spec_l05Product (fnOk (Nat.le_of_ble_eq_true rfl) ?_); unfold C_spec_l05Product)
  (simp only [Nat.reduceSub, List.length_cons, List.length_nil, Nat.reduceAdd, ch_init1, ch_init2, ch_init3, ch_init4, ch_init5, ch_init6, ch_init7, ch_init8]; try simp only [ch_rep]); (simp only [go_sem, seval, reduceCtorEq, List.replicate])
  have e0 : min (prodI []) (lim + 1) = 1 := by rw [prodI_nil]; omega
  refine wpN_upto (ds.length) (fun k => (ch (.any) (.d (.int lim)) (.any) (.any) (.any) (.d (.int (min (prodI (ds.take k)) (lim + 1)))) (.any) (.any) (.d (ints ds)) (.d (.int ds.length)) (.d (.int k)) (.any) (.any) (.any) (.any) (.any) [.any, .any, .any, .any, .any, .any])) (fun k => []) (Wk.kept' [1, 5, 8, 9, 10] 0 (Nat.le_of_ble_eq_true rfl) (by first | rfl | simp only [go_sem, seval, reduceCtorEq, keepE, keepF_ch, keepG_ch, keepF, keepG, cut, List.contains_cons, List.contains_nil, Nat.reduceBEq, Int.natCast_zero, Int.natCast_add, Int.natCast_one, e0]) (by first | rfl | simp only [go_sem, seval, reduceCtorEq, keepE, keepF_ch, keepG_ch, keepF, keepG, cut, List.contains_cons, List.contains_nil, Nat.reduceBEq, Int.natCast_zero, Int.natCast_add, Int.natCast_one, e0])) fun k hk => ?_
  unfold L0_spec_l05Product
  by_cases hlt : k < ds.length
  · have h1 : (k : Int) < ds.length := by omega
    have hx : ds[k]? = some ds[k] := List.getElem?_eq_getElem hlt
    have e := prodI_take_succ ds k hlt
    rw [getD_of hlt] at e
    have hb := hd ds[k] (List.getElem_mem _)
    have b1 := prodI_pos (ds.take k) (fun d hd' => (hd d (List.mem_of_mem_take hd')).1)
    have e2 := min_mul (prodI (ds.take k)) ds[k] (lim + 1) hb.1 (by omega)
    rw [← e] at e2
    have b3 : 0 ≤ min (prodI (ds.take k)) (lim + 1) * ds[k] := Int.mul_nonneg (by omega) (by omega)
    have b4 : min (prodI (ds.take k)) (lim + 1) * ds[k] ≤ (lim + 1) * 100 := Int.mul_le_mul (by omega) hb.2 (by omega) (by omega)
    simp (disch := omega) only [go_sem, seval, reduceCtorEq, h1, hx]
    (refine Next.mk hlt (Wk.kept' [1, 5, 8, 9, 10] 0 (Nat.le_of_ble_eq_true rfl) ?_ ?_) <;> first | rfl | (simp only [go_sem, seval, reduceCtorEq, keepE, keepF_ch, keepG_ch, keepF, keepG, cut, List.contains_cons, List.contains_nil, Nat.reduceBEq, Int.natCast_zero, Int.natCast_add, Int.natCast_one, e2]; done) | skip)
  · have h1 : ¬ (k : Int) < ds.length := by omega
    simp (disch := omega) only [go_sem, seval, reduceCtorEq, h1]
    (refine FnEnd.mk (Nat.le_of_ble_eq_true rfl) rfl (of_decide_eq_true rfl) ?_ ?_ <;> try simp only [go_sem, seval, reduceCtorEq])
    rw [List.take_of_length_le (by omega)]
end Go.Proofs.Ytjncdanegoileaa

/-
  LIFT, part 31: loops whose environment is the one before them, but for some slots; loops over states of any kind. No condition.
-/
namespace Go.Lift
open Go.RowKit

/-- The slots that are marked are forgotten, and the roots from m on. -/
def dropF (m : Nat) : List Bool → List AV → List AV
  | _, [] => []
  | [], x :: l => rn (cut m) x :: dropF m [] l
  | b :: bs, x :: l => (bif b then .any else rn (cut m) x) :: dropF m bs l
theorem dropF_len (m : Nat) : ∀ (bs : List Bool) (l : List AV), (dropF m bs l).length = l.length
  | [], [] => rfl
  | _ :: _, [] => rfl
  | [], x :: l => by simp [dropF, dropF_len m [] l]
  | b :: bs, x :: l => by simp [dropF, dropF_len m bs l]
theorem dropF_get (m : Nat) : ∀ (bs : List Bool) (l : List AV) (j : Nat), (dropF m bs l)[j]? = (l[j]?).map fun x => bif bs.getD j false then .any else rn (cut m) x
  | [], [], _ => by simp [dropF]
  | _ :: _, [], _ => by simp [dropF]
  | [], x :: l, 0 => by simp [dropF]
  | [], x :: l, j + 1 => by
    simp only [dropF, List.getElem?_cons_succ]
    rw [dropF_get m [] l j]
    simp
  | b :: bs, x :: l, 0 => by simp [dropF]
  | b :: bs, x :: l, j + 1 => by
    simp only [dropF, List.getElem?_cons_succ]
    rw [dropF_get m bs l j]
    simp
theorem Wk.drop {m0 : Nat} (dead : List Bool) (m : Nat) {e e' : List AV} {σ σ' : Sto} (hn : m0 ≤ m) (h1 : dropF m dead e = e') (h2 : keepS m σ = σ') : Wk m0 e σ e' σ' := by
  subst h1 h2
  intro γ φ w vs hS hE
  obtain ⟨hK', hS'⟩ := hS.rn (ren_cut m σ φ)
  refine ⟨_, φ, hK', hS', RelL.of_get ?_ fun i x hx => ?_, fun k R hk hR hg => ?_⟩
  · have := hE.len; simpa [dropF_len] using this
  · rw [dropF_get] at hx
    simp only [Option.map_eq_some_iff] at hx
    obtain ⟨y, hy, rfl⟩ := hx
    obtain ⟨v, hv, hr⟩ := hE.get hy
    refine ⟨v, hv, ?_⟩
    cases dead.getD i false
    · exact Rel.rn (ren_cut m σ φ) y v hr
    · simp [Rel]
  · have hk' : k < m := by omega
    exact ⟨⟨rfl, fun hl => by simp [hl, Lab.rn, cut, hk']⟩, { R with cells := rnL (cut m) R.cells }, by rw [at_keepS, if_pos hk', hR]; rfl, hg⟩

/-- The roots in ks grow no more. -/
def nogS (ks : List Nat) : Nat → Sto → Sto
  | _, [] => []
  | i, x :: l => (if ks.contains i then x.map fun R => { R with g := false } else x) :: nogS ks (i + 1) l
theorem nogS_len (ks : List Nat) : ∀ (σ : Sto) (i : Nat), (nogS ks i σ).length = σ.length
  | [], _ => rfl
  | x :: l, i => by simp [nogS, nogS_len ks l]
theorem nogS_get (ks : List Nat) : ∀ (σ : Sto) (i j : Nat), (nogS ks i σ)[j]? = (σ[j]?).map fun x => if ks.contains (i + j) then x.map fun R => { R with g := false } else x
  | [], _, _ => by simp [nogS]
  | x :: l, i, 0 => by simp [nogS]
  | x :: l, i, j + 1 => by
    simp only [nogS, List.getElem?_cons_succ]
    rw [nogS_get ks l (i + 1) j, show i + 1 + j = i + (j + 1) by omega]
theorem at_nogS (ks : List Nat) (σ : Sto) (k : Nat) : at_ (nogS ks 0 σ) k = (at_ σ k).map fun R => if ks.contains k then { R with g := false } else R := by
  simp only [at_, nogS_get, Nat.zero_add]
  cases σ[k]? with
  | none => rfl
  | some x =>
    simp only [Option.map_some, Option.join_some]
    split <;> cases x <;> simp_all
theorem nog_live (w : World) (γ : Labels) (φ : Nat → Nat) (ks : List Nat) (σ : Sto) : Live w γ φ (at_ σ) w γ φ (at_ (nogS ks 0 σ)) := by
  intro k R hk
  refine ⟨rfl, _, by rw [at_nogS, hk]; rfl, ?_, ?_, id, fun j x hx => ⟨⟨x, ?_⟩, fun cur cur' T f T' f' h h' => ?_⟩⟩
  · split <;> rfl
  · split
    · intro h; cases h
    · exact id
  · split <;> exact hx
  · rw [h] at h'
    simp at h'
    rw [h'.1]
theorem nog_sim {w : World} {γ : Labels} {φ : Nat → Nat} {σ : Sto} (ks : List Nat) (h : Sim γ φ (at_ σ) w) : Sim γ φ (at_ (nogS ks 0 σ)) w := by
  refine ⟨h.bound, fun k R hk => ?_⟩
  rw [at_nogS] at hk
  simp only [Option.map_eq_some_iff] at hk
  obtain ⟨R0, h0, rfl⟩ := hk
  have hc : (if ks.contains k then { R0 with g := false } else R0).cells = R0.cells := by split <;> rfl
  rw [hc]
  rcases h.root k R0 h0 with h1 | ⟨cur, T, h1, h2, h3, h4⟩
  · exact .inl h1
  · refine .inr ⟨cur, T, h1, h2, h3, fun j av hav => ?_⟩
    obtain ⟨v, hv, hr⟩ := h4 j av hav
    exact ⟨v, hv, CRel.mono (Kst.refl _ _) (nog_live w γ φ ks σ) (fun _ _ h => h) (fun _ _ _ _ => rfl) hr⟩
theorem Wk.nog {m0 : Nat} (ks : List Nat) {e : List AV} {σ σ' : Sto} (h : nogS ks 0 σ = σ') : Wk m0 e σ e σ' := by
  subst h
  intro γ φ w vs hS hE
  refine ⟨γ, φ, Kst.refl _ _, nog_sim ks hS, RelL.mono (Kst.refl _ _) (nog_live w γ φ ks σ) _ _ hE, fun k R hk hR hg => ⟨Stay.refl, ?_⟩⟩
  refine ⟨_, by rw [at_nogS, hR]; rfl, ?_⟩
  split
  · rfl
  · exact hg
def nogA : Sto → Sto
  | [] => []
  | x :: l => x.map (fun R => { R with g := false }) :: nogA l
theorem nogA_eq (σ : Sto) : nogA σ = nogS (List.range σ.length) 0 σ := by
  refine List.ext_getElem? fun j => ?_
  rw [nogS_get]
  have h : ∀ (σ : Sto) (j : Nat), (nogA σ)[j]? = (σ[j]?).map fun x => x.map fun R => { R with g := false } := by
    intro σ
    induction σ with
    | nil => intro j; simp [nogA]
    | cons x l ih => intro j; cases j with
      | zero => simp [nogA]
      | succ j => simpa [nogA] using ih j
  rw [h]
  by_cases hj : j < σ.length
  · rw [List.getElem?_eq_getElem hj]
    simp [hj]
  · rw [List.getElem?_eq_none (by omega)]
    rfl
theorem Wk.nogA {m0 : Nat} {e : List AV} {σ : Sto} : Wk m0 e σ e (nogA σ) := Wk.nog _ (nogA_eq σ).symm
/-- What comes back grows no more. -/
theorem Does.nog {P : Program} {f : FuncId} {args : List AV} {σ0 σ1 σ2 : Sto} {res : AV} (ks : List Nat) (h : Does P f args σ0 res σ1) (h2 : nogS ks 0 σ1 = σ2) : Does P f args σ0 res σ2 := by
  subst h2
  intro γ φ w vals hS hr
  refine (h γ φ w vals hS hr).mono fun en w' hq => ?_
  obtain ⟨v, γ', φ', rfl, hK, h1, h2, h3⟩ := hq
  exact ⟨v, γ', φ', rfl, hK, h1, nog_sim ks h2, Rel.mono (Kst.refl _ _) (nog_live w' γ' φ' ks σ1) _ _ h3⟩

/-- Slots that are laid anew. -/
def setE : List AV → List (Nat × AV) → List AV
  | e, [] => e
  | e, (i, v) :: l => setE (e.set i v) l
/-- The cells of a root laid anew. -/
def setC : Sto → Nat → List AV → Sto
  | [], _, _ => []
  | x :: l, 0, c => x.map (fun R => { R with cells := c }) :: l
  | x :: l, k + 1, c => x :: setC l k c
def setS : Sto → List (Nat × List AV) → Sto
  | σ, [] => σ
  | σ, (k, c) :: l => setS (setC σ k c) l
section
variable {e : List AV} {σ : Sto} {i k z : Nat} {cs : List AV} {g0 : Bool}
theorem nogA_nil : nogA [] = [] := nr rfl
theorem nogA_none : nogA (none :: σ) = none :: nogA σ := nr rfl
theorem nogA_some : nogA (some ⟨z, g0, cs⟩ :: σ) = some ⟨z, false, cs⟩ :: nogA σ := nr rfl
end
section
variable {e : List AV} {σ : Sto} {i k z : Nat} {v : AV} {l : List (Nat × AV)} {c c' : List AV} {g : Bool} {r : List (Nat × List AV)} {x : Option Root}
theorem setE_nil : setE e [] = e := nr rfl
theorem setE_cons : setE e ((i, v) :: l) = setE (e.set i v) l := nr rfl
theorem setC_zero : setC (some ⟨z, g, c⟩ :: σ) 0 c' = some ⟨z, g, c'⟩ :: σ := nr rfl
theorem setC_succ : setC (x :: σ) (k + 1) c' = x :: setC σ k c' := nr rfl
theorem setS_nil : setS σ [] = σ := nr rfl
theorem setS_cons : setS σ ((k, c) :: r) = setS (setC σ k c) r := nr rfl
end
section
variable {a0 a1 a2 a3 a4 a5 a6 a7 a8 a9 a10 a11 a12 a13 a14 a15 : AV} {l : List AV}
theorem dropF_ch (m : Nat) {b0 b1 b2 b3 b4 b5 b6 b7 b8 b9 b10 b11 b12 b13 b14 b15 : Bool} {bs : List Bool} : dropF m (b0 :: b1 :: b2 :: b3 :: b4 :: b5 :: b6 :: b7 :: b8 :: b9 :: b10 :: b11 :: b12 :: b13 :: b14 :: b15 :: bs) (ch a0 a1 a2 a3 a4 a5 a6 a7 a8 a9 a10 a11 a12 a13 a14 a15 l) = ch (bif b0 then .any else rn (cut m) a0) (bif b1 then .any else rn (cut m) a1) (bif b2 then .any else rn (cut m) a2) (bif b3 then .any else rn (cut m) a3) (bif b4 then .any else rn (cut m) a4) (bif b5 then .any else rn (cut m) a5) (bif b6 then .any else rn (cut m) a6) (bif b7 then .any else rn (cut m) a7) (bif b8 then .any else rn (cut m) a8) (bif b9 then .any else rn (cut m) a9) (bif b10 then .any else rn (cut m) a10) (bif b11 then .any else rn (cut m) a11) (bif b12 then .any else rn (cut m) a12) (bif b13 then .any else rn (cut m) a13) (bif b14 then .any else rn (cut m) a14) (bif b15 then .any else rn (cut m) a15) (dropF m bs l) := nr rfl
theorem dropF_cons (m : Nat) {b : Bool} {bs : List Bool} : dropF m (b :: bs) (a0 :: l) = (bif b then .any else rn (cut m) a0) :: dropF m bs l := nr rfl
theorem dropF_nil (m : Nat) : dropF m [] [] = [] := nr rfl
end

section
variable {P : Program} {m0 : Nat} {N : List AV → Sto → Prop} {X : Nat → List AV → Sto → Prop} {R : List AV → Sto → Prop} {e : List AV} {σ : Sto}
/-- The state before a loop, seen otherwise. -/
theorem wpN_lwk {b : C} {e' : List AV} {σ' : Sto} (h : Wk m0 e σ e' σ') (h2 : wpN P m0 (.loop b) N X R e' σ') : wpN P m0 (.loop b) N X R e σ := by
  unfold wpN at *
  rw [wpC] at *
  obtain ⟨J, ⟨m, e2, σ2, h3, h4⟩, h5⟩ := h2
  exact ⟨J, ⟨m, e2, σ2, h.trans h3, h4⟩, h5⟩
/-- n rounds; at the head of round k the state is the one before the loop, but for the slots and roots that are said. -/
theorem wpN_lp {b : C} (n : Nat) (dead : List Bool) (ov : Nat → List (Nat × AV)) (so : Nat → List (Nat × List AV)) {E : Nat → List AV} {S : Nat → Sto}
    (hE : ∀ k, setE (dropF σ.length dead e) (ov k) = E k) (hS : ∀ k, setS (keepS σ.length σ) (so k) = S k) (hm : m0 ≤ σ.length) (h1 : dropF σ.length dead e = E 0) (h2 : keepS σ.length σ = S 0)
    (hr : ∀ k, k ≤ n → wpN P m0 b (Next m0 n E S k) X R (E k) (S k)) : wpN P m0 (.loop b) N X R e σ := wpN_upto n E S (Wk.drop dead _ hm h1 h2) hr
theorem wpN_lpI {b : C} (n : Nat) (dead : List Bool) (I : Nat → Prop) (ov : Nat → List (Nat × AV)) (so : Nat → List (Nat × List AV)) {E : Nat → List AV} {S : Nat → Sto}
    (hE : ∀ k, setE (dropF σ.length dead e) (ov k) = E k) (hS : ∀ k, setS (keepS σ.length σ) (so k) = S k) (hi : I 0) (hm : m0 ≤ σ.length) (h1 : dropF σ.length dead e = E 0) (h2 : keepS σ.length σ = S 0)
    (hr : ∀ k, k ≤ n → I k → wpN P m0 b (NextI m0 n I E S k) X R (E k) (S k)) : wpN P m0 (.loop b) N X R e σ := wpN_uptoI n I E S hi (Wk.drop dead _ hm h1 h2) hr
theorem Next.drop {n k : Nat} {E : Nat → List AV} {S : Nat → Sto} (dead : List Bool) (h : k < n) (hm : m0 ≤ (S (k + 1)).length) (h1 : dropF (S (k + 1)).length dead e = E (k + 1)) (h2 : keepS (S (k + 1)).length σ = S (k + 1)) : Next m0 n E S k e σ := Next.mk h (Wk.drop dead _ hm h1 h2)
theorem NextI.drop {n k : Nat} {I : Nat → Prop} {E : Nat → List AV} {S : Nat → Sto} (dead : List Bool) (h : k < n) (hi : I (k + 1)) (hm : m0 ≤ (S (k + 1)).length) (h1 : dropF (S (k + 1)).length dead e = E (k + 1)) (h2 : keepS (S (k + 1)).length σ = S (k + 1)) : NextI m0 n I E S k e σ := NextI.mk h hi (Wk.drop dead _ hm h1 h2)
/-- Rounds over states: a measure falls. -/
def NextS {α : Type} (m0 : Nat) (μ : α → Nat) (I : α → Prop) (E : α → List AV) (S : α → Sto) (s : α) (e : List AV) (σ : Sto) : Prop :=
  ∃ s', μ s' < μ s ∧ I s' ∧ Wk m0 e σ (E s') (S s')
theorem NextS.mk {α : Type} {μ : α → Nat} {I : α → Prop} {E : α → List AV} {S : α → Sto} {s : α} (s' : α) (h : μ s' < μ s) (hi : I s') (hw : Wk m0 e σ (E s') (S s')) : NextS m0 μ I E S s e σ := ⟨s', h, hi, hw⟩
theorem NextS.drop {α : Type} {μ : α → Nat} {I : α → Prop} {E : α → List AV} {S : α → Sto} {s : α} (dead : List Bool) (s' : α) (h : μ s' < μ s) (hi : I s') (hm : m0 ≤ (S s').length) (h1 : dropF (S s').length dead e = E s') (h2 : keepS (S s').length σ = S s') : NextS m0 μ I E S s e σ := .mk s' h hi (Wk.drop dead _ hm h1 h2)
theorem wpN_lpS {α : Type} {b : C} (s0 : α) (μ : α → Nat) (dead : List Bool) (I : α → Prop) (ov : α → List (Nat × AV)) (so : α → List (Nat × List AV)) {E : α → List AV} {S : α → Sto}
    (hE : ∀ s, setE (dropF σ.length dead e) (ov s) = E s) (hS : ∀ s, setS (keepS σ.length σ) (so s) = S s) (hi : I s0) (hm : m0 ≤ σ.length) (h1 : dropF σ.length dead e = E s0) (h2 : keepS σ.length σ = S s0)
    (hr : ∀ s, I s → wpN P m0 b (NextS m0 μ I E S s) X R (E s) (S s)) : wpN P m0 (.loop b) N X R e σ := by
  have h0 : Wk m0 e σ (E s0) (S s0) := Wk.drop dead _ hm h1 h2
  refine wpN_loop (fun m e σ => ∃ s, I s ∧ m = μ s ∧ e = E s ∧ σ = S s) ⟨_, _, _, h0, s0, hi, rfl, rfl, rfl⟩ ?_
  rintro m e σ ⟨s, hs, rfl, rfl, rfl⟩
  have := hr s hs
  unfold wpN at this ⊢
  refine cast (congrArg (fun K => wpC P m0 b K (E s) (S s)) ?_) this
  funext x e σ
  cases x with
  | normal =>
    refine propext ⟨fun ⟨s', h1, h2, h3⟩ => ⟨_, _, _, h1, h3, s', h2, rfl, rfl, rfl⟩, ?_⟩
    rintro ⟨_, _, _, h1, h3, s', h2, rfl, rfl, rfl⟩
    exact ⟨s', h1, h2, h3⟩
  | exit i => rfl
  | ret => rfl
end
section
variable {P : Program} {σ : Sto} {ev : O → AV} {T : Fg → AV → Sto → Prop}
theorem ti_clear (e : Nat) (z : List AV) (x : O) : tI P σ ev (.clear e z x) T = match ev x with
    | .own k off n => match at_ σ k with
      | some R => z.length = e ∧ off + n * e ≤ R.cells.length ∧ (((R.cells.drop off).take (n * e)).all trB) = true ∧
          T .no (.tup []) (σ.set k (some { R with cells := R.cells.take off ++ zeros n z ++ R.cells.drop (off + n * e) }))
      | none => False
    | _ => False := nr rfl
end
attribute [go_sem] Option.map_none ti_clear nogA_nil nogA_none nogA_some setE_nil setE_cons setC_zero setC_succ setS_nil setS_cons
end Go.Lift

/-
  Contracts: joined labels and axes, the size of a join. No condition.
-/
namespace Go.Proofs.Ytjncdanegoileaa
open Go.RowKit Go.Lift Plain
set_option linter.unusedSimpArgs false
set_option linter.unusedVariables false
set_option maxRecDepth 100000

theorem l05Ints_d {xs : List Int} (h : xs.length ≤ 1099511627776) : Does Try.prog 89 [.d (ints xs)] [] (.own 0 0 xs.length) [some ⟨1, true, iv xs⟩] := by
  (refine spec_of (by kernel_rfl) Try.func89 k_spec_l05Ints (fnOk (Nat.le_of_ble_eq_true rfl) ?_); unfold C_spec_l05Ints)
  (simp only [Nat.reduceSub, List.length_cons, List.length_nil, Nat.reduceAdd, ch_init1, ch_init2, ch_init3, ch_init4, ch_init5, ch_init6, ch_init7, ch_init8]; try simp only [ch_rep]); (simp only [go_sem, seval, reduceCtorEq, List.replicate])
  refine ⟨by omega, ?_⟩
  (refine FnEnd.mk (Nat.le_of_ble_eq_true rfl) rfl (of_decide_eq_true rfl) ?_ ?_ <;> try simp only [go_sem, seval, reduceCtorEq])
theorem joinLabels_d {a b : List Int} (ha : a.length ≤ 1048576) (hb : b.length ≤ 1048576) : Does Try.prog 103 [.d (ints a), .d (ints b)] [] (.own 0 0 (joinL a b).length) [some ⟨1, true, iv (joinL a b)⟩] := by
  (refine spec_of (by kernel_rfl) Try.func103 k_impl_joinLabels (fnOk (Nat.le_of_ble_eq_true rfl) ?_); unfold C_impl_joinLabels)
  (simp only [Nat.reduceSub, List.length_cons, List.length_nil, Nat.reduceAdd, ch_init1, ch_init2, ch_init3, ch_init4, ch_init5, ch_init6, ch_init7, ch_init8]; try simp only [ch_rep]); (simp only [go_sem, seval, reduceCtorEq, List.replicate])
  (refine ti_call (copyInts_d (xs := a) (by omega)) ?_ ?_ ?_; (focus (simp only [go_sem, seval, reduceCtorEq]; done)); (first | rfl | (focus (simp only [go_sem]; done))))
  simp only [go_sem, seval, reduceCtorEq]
  refine wpN_upto (b.length) (fun k => (ch (.d (ints a)) (.any) (.any) (.any) (.any) (.own 0 0 (a ++ (b.take k).filter fun x => !has a x).length) (.any) (.any) (.any) (.any) (.d (ints b)) (.d (.int b.length)) (.d (.int k)) (.any) (.any) (.any) [.any, .any, .any, .any, .any, .any, .any, .any, .any, .any])) (fun k => [some ⟨1, true, iv (a ++ (b.take k).filter fun x => !has a x)⟩]) (Wk.kept' [0, 5, 10, 11, 12] 1 (Nat.le_of_ble_eq_true rfl) (by first | rfl | simp only [go_sem, seval, reduceCtorEq, keepE, keepF_ch, keepG_ch, keepF, keepG, cut, List.contains_cons, List.contains_nil, Nat.reduceBEq, Int.natCast_zero, Int.natCast_add, Int.natCast_one, List.take_zero, List.filter_nil, List.append_nil]) (by first | rfl | simp only [go_sem, seval, reduceCtorEq, keepE, keepF_ch, keepG_ch, keepF, keepG, cut, List.contains_cons, List.contains_nil, Nat.reduceBEq, Int.natCast_zero, Int.natCast_add, Int.natCast_one, List.take_zero, List.filter_nil, List.append_nil])) fun k hk => ?_
  unfold L0_impl_joinLabels
  by_cases hlt : k < b.length
  · have h1 : (k : Int) < b.length := by omega
    have hx : b[k]? = some b[k] := List.getElem?_eq_getElem hlt
    have hf := filter_len b k fun x => !has a x
    simp (disch := omega) only [go_sem, seval, reduceCtorEq, h1, hx]
    (refine ti_call (hasInt_d (xs := a) (x := b[k]) (by omega)) ?_ ?_ ?_; (focus (simp only [go_sem, seval, reduceCtorEq]; done)); (first | rfl | (focus (simp only [go_sem]; done))))
    cases he : has a b[k]
    · simp (disch := omega) only [go_sem, seval, reduceCtorEq, he]
      refine ⟨by rw [List.length_append]; omega, ?_⟩
      (refine Next.mk hlt (Wk.kept' [0, 5, 10, 11, 12] 1 (Nat.le_of_ble_eq_true rfl) ?_ ?_) <;> first | rfl | (simp only [go_sem, seval, reduceCtorEq, keepE, keepF_ch, keepG_ch, keepF, keepG, cut, List.contains_cons, List.contains_nil, Nat.reduceBEq, Int.natCast_zero, Int.natCast_add, Int.natCast_one, filter_yes (p := fun x => !has a x) hlt (by rw [he]; rfl), List.length_append, List.append_assoc, Nat.add_assoc]; done) | skip)
    · simp (disch := omega) only [go_sem, seval, reduceCtorEq, he]
      (refine Next.mk hlt (Wk.kept' [0, 5, 10, 11, 12] 1 (Nat.le_of_ble_eq_true rfl) ?_ ?_) <;> first | rfl | (simp only [go_sem, seval, reduceCtorEq, keepE, keepF_ch, keepG_ch, keepF, keepG, cut, List.contains_cons, List.contains_nil, Nat.reduceBEq, Int.natCast_zero, Int.natCast_add, Int.natCast_one, filter_no (p := fun x => !has a x) hlt (by rw [he]; rfl)]; done) | skip)
  · have h1 : ¬ (k : Int) < b.length := by omega
    simp (disch := omega) only [go_sem, seval, reduceCtorEq, h1]
    (refine FnEnd.mk (Nat.le_of_ble_eq_true rfl) rfl (of_decide_eq_true rfl) ?_ ?_ <;> try simp only [go_sem, seval, reduceCtorEq])
    all_goals rw [List.take_of_length_le (by omega)]; rfl

end Go.Proofs.Ytjncdanegoileaa

/-
  Contracts: copies of tensors, marks that are held, relabelling. No condition.
-/
namespace Go.Proofs.Ytjncdanegoileaa
open Go.RowKit Go.Lift Plain
set_option linter.unusedSimpArgs false
set_option linter.unusedVariables false
set_option maxRecDepth 100000

/-! ### Relabelling -/
def relL (fs ts ls : List Int) : List Int := ls.map fun l => ren1 l fs ts
theorem relL_len (fs ts ls : List Int) : (relL fs ts ls).length = ls.length := by simp [relL]
theorem iv_nil : iv [] = [] := rfl
attribute [go_sem] iv_nil
theorem relL_take (fs ts ls : List Int) : (relL fs ts ls).take ls.length = relL fs ts ls := List.take_of_length_le (by rw [relL_len]; exact Nat.le_refl _)
attribute [local go_sem] relL_len relL_take
end Go.Proofs.Ytjncdanegoileaa

/-
  Contracts: elements of a tensor that are written. No condition.
-/
namespace Go.Proofs.Ytjncdanegoileaa
open Go.RowKit Go.Lift Plain
set_option linter.unusedSimpArgs false
set_option linter.unusedVariables false
set_option maxRecDepth 100000

/-! ### An element set -/
end Go.Proofs.Ytjncdanegoileaa

/-
  Contracts: the same labels in any order. No condition.
-/
namespace Go.Proofs.Ytjncdanegoileaa
open Go.RowKit Go.Lift Plain
set_option linter.unusedSimpArgs false
set_option linter.unusedVariables false
set_option maxRecDepth 100000

/-- The same labels, in any order. -/
def sameB (ls L : List Int) : Bool := decide (L.length = ls.length ∧ ∀ k (hk : k < L.length), L[k] ∈ ls ∧ L[k] ∉ L.take k)
end Go.Proofs.Ytjncdanegoileaa

/-
  Plain lists: labels without some, without doubles. No condition.
-/
namespace Go.Proofs.Ytjncdanegoileaa
open Go.RowKit Go.Lift Plain
set_option linter.unusedSimpArgs false
set_option linter.unusedVariables false

/-- The labels of a list without those of another. -/
def wol (ls L : List Int) : List Int := ls.filter fun x => !has L x
set_option maxRecDepth 100000
end Go.Proofs.Ytjncdanegoileaa

/-
  Plain lists of label lists: buckets, elimination. No condition.
-/
namespace Go.Proofs.Ytjncdanegoileaa
open Go.RowKit Go.Lift Plain
set_option linter.unusedSimpArgs false
set_option linter.unusedVariables false

theorem nodup_sub_len : ∀ {l M : List Int}, l.Nodup → (∀ x ∈ l, x ∈ M) → l.length ≤ M.length
  | [], _, _, _ => Nat.zero_le _
  | x :: l, M, h, hs => by
    rw [List.nodup_cons] at h
    have hx := hs x (List.mem_cons_self ..)
    have h1 := nodup_sub_len (l := l) (M := M.erase x) h.2 fun y hy => (List.mem_erase_of_ne (fun e => h.1 (by rwa [← e]))).2 (hs y (List.mem_cons_of_mem _ hy))
    have h2 := List.length_erase_of_mem hx
    have h3 := List.length_pos_of_mem hx
    simp only [List.length_cons]
    omega
theorem nodup_len {l : List Int} (h : l.Nodup) (hb : ∀ x ∈ l, 0 ≤ x ∧ x ≤ 99) : l.length ≤ 100 := by
  have h1 := nodup_sub_len (M := (List.range 100).map fun (i : Nat) => (i : Int)) h fun x hx => by
    have := hb x hx
    exact List.mem_map.2 ⟨x.toNat, by simp; omega, by omega⟩
  simpa using h1
theorem joinL_nodup {a b : List Int} (ha : a.Nodup) (hb : b.Nodup) : (joinL a b).Nodup := by
  unfold joinL
  refine List.nodup_append.2 ⟨ha, hb.filter _, fun x hx y hy e => ?_⟩
  subst e
  simp only [List.mem_filter, Bool.not_eq_true', has_false] at hy
  exact hy.2 hx
section
variable {L : List (List Int)} {x : Int} {k : Nat}
end
end Go.Proofs.Ytjncdanegoileaa

/-
  Arguments of any shape (ints, flags, texts, slices, structs of these), opened as plain data. No condition.
-/
namespace Go.Proofs.Ytjncdanegoileaa
open Go.RowKit Go.Lift Go.ChangeShapes Go.WideShapes Go.Deep

/-- The shape of a cell. -/
inductive Sh where
  | int
  | bool
  | str
  | sl (es : List Sh)
  deriving Inhabited
mutual
/-- A datum of a shape. -/
def HasD : D → Sh → Prop
  | .int n, .int => I64 n
  | .bool _, .bool => True
  | .str _, .str => True
  | .sl n l, .sl es => n ≤ 9223372036854775807 ∧ l.length = n * es.length ∧ HasDL l 0 es
  | _, _ => False
def HasDL : List D → Nat → List Sh → Prop
  | [], _, _ => True
  | x :: l, j, es => HasD x (es.getD (j % es.length) .int) ∧ HasDL l (j + 1) es
end
theorem HasDL.of_get : ∀ {l : List D} {j : Nat} {es : List Sh}, (∀ i x, l[i]? = some x → HasD x (es.getD ((j + i) % es.length) .int)) → HasDL l j es
  | [], _, _, _ => by simp only [HasDL]
  | x :: l, j, es, h => by
    simp only [HasDL]
    refine ⟨by simpa using h 0 x (by simp), HasDL.of_get fun i y hy => ?_⟩
    have := h (i + 1) y (by simpa using hy)
    rwa [show j + 1 + i = j + (i + 1) by omega]
/-- The cells' shapes of a type. -/
def shFs (g : TypeId → Option (List Sh)) (P : Program) : List Field → Nat → Option (List Sh)
  | [], _ => some []
  | f :: l, off => match g f.type, (if f.offset = off then some () else none) with
    | some a, some _ => if a.length = P.cellsOf f.type then (shFs g P l (off + a.length)).map (a ++ ·) else none
    | _, _ => none
def shOf (P : Program) : Nat → TypeId → Option (List Sh)
  | 0, _ => none
  | n + 1, t => match P.underlying t with
    | some (.int .i64) => some [.int]
    | some .bool => some [.bool]
    | some .string => some [.str]
    | some (.slice e) => match shOf P n e with
      | some es => if es.length = P.cellsOf e ∧ 1 ≤ es.length then some [.sl es] else none
      | none => none
    | some (.struct fs) => shFs (shOf P n) P fs.toList 0
    | _ => none

section
variable {H : Type} {enc : TypeId × Value → H} {P : Program} {w : World} {base : Nat} {spare : Nat → Bool} {held : Bool}
/-- The cells read as data of these shapes. -/
def Reads (w : World) (cs : List Value) (ds : List D) (shs : List Sh) : Prop :=
  ds.length = cs.length ∧ shs.length = cs.length ∧ ∀ (i : Nat) (v : Value) (s : Sh), cs[i]? = some v → shs[i]? = some s → ∃ d, ds[i]? = some d ∧ Rd w (Im w (topL w)) d v ∧ HasD d s
theorem Reads.app {cs cs' : List Value} {ds ds' : List D} {s s' : List Sh} (h : Reads w cs ds s) (h' : Reads w cs' ds' s') : Reads w (cs ++ cs') (ds ++ ds') (s ++ s') := by
  obtain ⟨h1, h2, h3⟩ := h
  obtain ⟨h4, h5, h6⟩ := h'
  refine ⟨by simp [h1, h4], by simp [h2, h5], fun i v x hv hx => ?_⟩
  by_cases hi : i < cs.length
  · rw [List.getElem?_append_left hi] at hv
    rw [List.getElem?_append_left (by omega)] at hx ⊢
    exact h3 i v x hv hx
  · rw [List.getElem?_append_right (by omega)] at hv
    rw [List.getElem?_append_right (by omega)] at hx ⊢
    rw [h2] at hx
    rw [h1]
    exact h6 _ v x hv hx
theorem reads_fs {g : TypeId → Option (List Sh)} {n : Nat} {cs : List Value} (ih : ∀ (t : TypeId) (shs : List Sh), g t = some shs → ∀ (cs : List Value) (x : DataW H × List MemPlace), DataW.trod enc P w base spare held n t cs = some x → shs.length = P.cellsOf t → ∃ ds, Reads w cs ds shs) :
    ∀ (l : List Field) (off : Nat) (shs : List Sh), shFs g P l off = some shs → (∀ f ∈ l, ∃ x, DataW.trod enc P w base spare held n f.type ((cs.drop f.offset).take (P.cellsOf f.type)) = some x) → off + shs.length ≤ cs.length → ∃ ds, Reads w ((cs.drop off).take shs.length) ds shs
  | [], off, shs, h, _, _ => by
    simp only [shFs, Option.some.injEq] at h
    subst h
    exact ⟨[], by simp, by simp, by simp⟩
  | f :: l, off, shs, h, hx, hl => by
    simp only [shFs] at h
    split at h
    · rename_i a u ha hu
      split at hu
      · rename_i hoff
        split at h
        · rename_i hal
          simp only [Option.map_eq_some_iff] at h
          obtain ⟨b, hb, rfl⟩ := h
          rw [List.length_append] at hl
          obtain ⟨x, hx0⟩ := hx f (by simp)
          obtain ⟨d1, r1⟩ := ih f.type a ha _ x hx0 hal
          obtain ⟨d2, r2⟩ := reads_fs ih l _ b hb (fun f' hf' => hx f' (by simp [hf'])) (by omega)
          refine ⟨d1 ++ d2, ?_⟩
          have := r1.app r2
          rw [hoff, ← hal] at this
          rw [List.length_append]
          have e : List.take (a.length + b.length) (List.drop off cs) = List.take a.length (List.drop off cs) ++ List.take b.length (List.drop (off + a.length) cs) := by
            rw [List.take_add, List.drop_drop]
          rw [e]
          exact this
        · cases h
      · cases hu
    · cases h
theorem reads_of : ∀ (f : Nat) (t : TypeId) (shs : List Sh), shOf P f t = some shs → ∀ (n : Nat) (cs : List Value) (x : DataW H × List MemPlace), DataW.trod enc P w base spare held n t cs = some x → shs.length = P.cellsOf t → ∃ ds, Reads w cs ds shs
  | 0, _, _, h => by simp [shOf] at h
  | f + 1, t, shs, h => by
    intro n cs x hx hlen
    simp only [shOf] at h
    split at h
    · rename_i hu
      simp only [Option.some.injEq] at h
      subst h
      obtain ⟨k, rfl, _, hw⟩ := DataW.trod_int hu hx
      refine ⟨[.int k], by simp, by simp, fun i v s hv hs => ?_⟩
      cases i with
      | zero =>
        simp at hv hs
        subst hv hs
        exact ⟨.int k, by simp, by simp only [Rd], by simp only [HasD]; exact I64.of_wf hw⟩
      | succ i => simp at hv
    · rename_i hu
      simp only [Option.some.injEq] at h
      subst h
      obtain ⟨k, rfl, _⟩ := DataW.trod_bool hu hx
      refine ⟨[.bool k], by simp, by simp, fun i v s hv hs => ?_⟩
      cases i with
      | zero =>
        simp at hv hs
        subst hv hs
        exact ⟨.bool k, by simp, by simp only [Rd], by simp only [HasD]⟩
      | succ i => simp at hv
    · rename_i hu
      simp only [Option.some.injEq] at h
      subst h
      obtain ⟨k, rfl, _⟩ := DataW.trod_string hu hx
      refine ⟨[.str k], by simp, by simp, fun i v s hv hs => ?_⟩
      cases i with
      | zero =>
        simp at hv hs
        subst hv hs
        exact ⟨.str k, by simp, by simp only [Rd], by simp only [HasD]⟩
      | succ i => simp at hv
    · rename_i e hu
      split at h
      · rename_i es hes
        split at h
        · rename_i hok
          simp only [Option.some.injEq] at h
          subst h
          rcases open_slice hu hx with ⟨rfl, _⟩ | ⟨a, len, cap, m, n', DD, Pl, rfl, hb, hl, hm, hmm, rfl, hel⟩
          · refine ⟨[.sl 0 []], by simp, by simp, fun i v s hv hs => ?_⟩
            cases i with
            | zero =>
              simp at hv hs
              subst hv hs
              refine ⟨.sl 0 [], by simp, ?_, ?_⟩
              · simp only [Rd]; exact ⟨none, 0, rfl, by omega, .inl ⟨trivial, trivial⟩⟩
              · simp only [HasD, HasDL]; exact ⟨by omega, by simp, trivial⟩
            | succ i => simp at hv
          · have hlm : len ≤ m := by rw [hmm]; split <;> omega
            -- each element
            have hone : ∀ i, i < len → ∃ ds : List D, ds.length = es.length ∧ ∀ j, j < es.length → ∃ v d, w.cell? (a.add (i * es.length + j)) = some v ∧ ds[j]? = some d ∧ Rd w (Im w (topL w)) d v ∧ HasD d (es.getD j .int) := fun i hi => by
              obtain ⟨cs', h1, h2⟩ := hel i (by omega)
              obtain ⟨ds, r1, r2, r3⟩ := reads_of f e es hes n' cs' _ h2 hok.1
              refine ⟨ds, by omega, fun j hj => ?_⟩
              obtain ⟨_, hcl, hc⟩ := World.cells?_some h1
              have hv := hc j (by omega)
              rw [add_add, ← hok.1] at hv
              obtain ⟨d, e1, e2, e3⟩ := r3 j _ _ (List.getElem?_eq_getElem (by omega)) (List.getElem?_eq_getElem hj)
              refine ⟨cs'[j]'(by omega), d, ?_, e1, e2, ?_⟩
              · rw [hv]; exact List.getElem?_eq_getElem (by omega)
              · simpa [List.getD, List.getElem?_eq_getElem hj] using e3
            obtain ⟨F, hF⟩ := choose_lt (α := List D) hone
            have hk := hok.2
            have hcell : ∀ j, j < len * es.length → ∃ v, w.cell? (a.add j) = some v ∧ Rd w (Im w (topL w)) ((F (j / es.length)).getD (j % es.length) (.int 0)) v ∧ HasD ((F (j / es.length)).getD (j % es.length) (.int 0)) (es.getD (j % es.length) .int) := fun j hj => by
              have hq : j / es.length < len := Nat.div_lt_of_lt_mul (by rw [Nat.mul_comm]; exact hj)
              obtain ⟨v, d, e1, e2, e3, e4⟩ := (hF _ hq).2 (j % es.length) (Nat.mod_lt _ hk)
              rw [show j / es.length * es.length + j % es.length = j by rw [Nat.mul_comm]; exact Nat.div_add_mod j es.length] at e1
              rw [List.getD_eq_getElem?_getD, e2]
              exact ⟨v, e1, e3, e4⟩
            refine ⟨[.sl len ((List.range (len * es.length)).map fun j => (F (j / es.length)).getD (j % es.length) (.int 0))], by simp, by simp, fun i v s hv hs => ?_⟩
            cases i with
            | succ i => simp at hv
            | zero =>
              simp at hv hs
              subst hv hs
              have hmax : maxLen ≤ 9223372036854775807 := by unfold maxLen; omega
              refine ⟨.sl len ((List.range (len * es.length)).map fun j => (F (j / es.length)).getD (j % es.length) (.int 0)), by simp, ?_, ?_⟩
              · simp only [Rd]
                refine ⟨some a, cap, rfl, hl, ?_⟩
                by_cases h0 : len = 0
                · left; subst h0; simp
                · right
                  have hpos : 0 < len * es.length := Nat.mul_pos (by omega) hk
                  obtain ⟨b, o, spot⟩ := a
                  obtain ⟨v0, hv0, _⟩ := hcell 0 hpos
                  have hs : spot = none := by simpa [Addr.add] using World.cell?_spot hv0
                  subst hs
                  have hbl := World.block_lt_of_cell? w _ hv0
                  have hbl' : b < w.heap.size := by simpa [Addr.add] using hbl
                  refine ⟨b, o, rfl, ⟨hbl', by simp [topL, hbl']⟩, RdL.of_get fun j x hx => ?_⟩
                  simp only [List.getElem?_map, Option.map_eq_some_iff] at hx
                  obtain ⟨q, hq, rfl⟩ := hx
                  have hj : j < len * es.length := by
                    have := (List.getElem?_eq_some_iff.1 hq).1
                    simpa using this
                  rw [List.getElem?_range hj] at hq
                  simp only [Option.some.injEq] at hq
                  subst hq
                  obtain ⟨v, e1, e2, _⟩ := hcell j hj
                  rw [add_none] at e1
                  exact ⟨v, e1, e2⟩
              · simp only [HasD]
                refine ⟨by omega, by simp, HasDL.of_get fun j x hx => ?_⟩
                simp only [List.getElem?_map, Option.map_eq_some_iff] at hx
                obtain ⟨q, hq, rfl⟩ := hx
                have hj : j < len * es.length := by
                  have := (List.getElem?_eq_some_iff.1 hq).1
                  simpa using this
                rw [List.getElem?_range hj] at hq
                simp only [Option.some.injEq] at hq
                subst hq
                rw [Nat.zero_add]
                obtain ⟨v, _, _, e3⟩ := hcell j hj
                exact e3
        · cases h
      · cases h
    · rename_i fs hu
      obtain ⟨xs, n', rfl, _, hcl, hxl, hf⟩ := DataW.trod_struct hu hx
      have key := reads_fs (enc := enc) (P := P) (w := w) (base := base) (spare := spare) (held := held) (n := n') (cs := cs) (fun t shs hg cs x hx hl => reads_of f t shs hg n' cs x hx hl) fs.toList 0 shs h (fun fd hfd => by
        obtain ⟨i, hi, rfl⟩ := List.getElem_of_mem hfd
        have hi' : i < fs.size := by simpa using hi
        have := hf i fs[i] (by simp [hi'])
        rw [List.getElem?_eq_getElem (by omega)] at this
        exact ⟨_, by simpa using this⟩) (by omega)
      rw [List.drop_zero, List.take_of_length_le (by omega)] at key
      exact key
    · cases h
end
end Go.Proofs.Ytjncdanegoileaa

/-
  LIFT, part 32: rounds whose roots get other names. No condition.
-/
namespace Go.Lift
open Go.RowKit

/-- The slots that are marked are forgotten, the others get other names. -/
def dropG (ρ : Nat → Option Nat) : List Bool → List AV → List AV
  | _, [] => []
  | [], x :: l => rn ρ x :: dropG ρ [] l
  | b :: bs, x :: l => (bif b then .any else rn ρ x) :: dropG ρ bs l
theorem dropG_len (ρ : Nat → Option Nat) : ∀ (bs : List Bool) (l : List AV), (dropG ρ bs l).length = l.length
  | [], [] => rfl
  | _ :: _, [] => rfl
  | [], x :: l => by simp [dropG, dropG_len ρ [] l]
  | b :: bs, x :: l => by simp [dropG, dropG_len ρ bs l]
theorem dropG_get (ρ : Nat → Option Nat) : ∀ (bs : List Bool) (l : List AV) (j : Nat), (dropG ρ bs l)[j]? = (l[j]?).map fun x => bif bs.getD j false then .any else rn ρ x
  | [], [], _ => by simp [dropG]
  | _ :: _, [], _ => by simp [dropG]
  | [], x :: l, 0 => by simp [dropG]
  | [], x :: l, j + 1 => by
    simp only [dropG, List.getElem?_cons_succ]
    rw [dropG_get ρ [] l j]
    simp
  | b :: bs, x :: l, 0 => by simp [dropG]
  | b :: bs, x :: l, j + 1 => by
    simp only [dropG, List.getElem?_cons_succ]
    rw [dropG_get ρ bs l j]
    simp
theorem Wk.dropG {m0 : Nat} (dead : List Bool) (ids : List Nat) (m : Nat) {e e' : List AV} {σ σ' : Sto} (hm : m0 ≤ m) (hl : m ≤ σ.length) (hn : ids.Nodup) (hi : (ids.all fun k => decide (m ≤ k)) = true) (h1 : dropG (nrmR m ids) dead e = e') (h2 : renS m ids σ = σ') : Wk m0 e σ e' σ' := by
  subst h1 h2
  intro γ φ w vs hS hE
  have hR := ren_nrm hl hn (fun k hk => by have := List.all_eq_true.1 hi k hk; simpa using this) φ
  obtain ⟨hK', hS'⟩ := hS.rn hR
  refine ⟨_, _, hK', hS', RelL.of_get ?_ fun i x hx => ?_, fun k R hk hRk hg => ?_⟩
  · have := hE.len; simpa [dropG_len] using this
  · rw [dropG_get] at hx
    simp only [Option.map_eq_some_iff] at hx
    obtain ⟨y, hy, rfl⟩ := hx
    obtain ⟨v, hv, hr⟩ := hE.get hy
    refine ⟨v, hv, ?_⟩
    cases dead.getD i false
    · exact Rel.rn hR y v hr
    · simp [Rel]
  · have hk' : k < m := by omega
    exact ⟨⟨by simp [hk'], fun hl => by simp [hl, Lab.rn, nrmR, hk']⟩, { R with cells := rnL (nrmR m ids) R.cells }, by rw [at_renS hl, if_pos hk', hRk]; rfl, hg⟩
section
variable {m0 : Nat} {e : List AV} {σ : Sto}
theorem Next.ren {n k : Nat} {E : Nat → List AV} {S : Nat → Sto} (dead : List Bool) (ids : List Nat) (m : Nat) (h : k < n) (hm : m0 ≤ m) (hl : m ≤ σ.length) (hn : ids.Nodup) (hids : (ids.all fun k => decide (m ≤ k)) = true) (h1 : dropG (nrmR m ids) dead e = E (k + 1)) (h2 : renS m ids σ = S (k + 1)) : Next m0 n E S k e σ := Next.mk h (Wk.dropG dead ids m hm hl hn hids h1 h2)
theorem NextI.ren {n k : Nat} {I : Nat → Prop} {E : Nat → List AV} {S : Nat → Sto} (dead : List Bool) (ids : List Nat) (m : Nat) (h : k < n) (hi : I (k + 1)) (hm : m0 ≤ m) (hl : m ≤ σ.length) (hn : ids.Nodup) (hids : (ids.all fun k => decide (m ≤ k)) = true) (h1 : dropG (nrmR m ids) dead e = E (k + 1)) (h2 : renS m ids σ = S (k + 1)) : NextI m0 n I E S k e σ := NextI.mk h hi (Wk.dropG dead ids m hm hl hn hids h1 h2)
theorem NextS.ren {α : Type} {μ : α → Nat} {I : α → Prop} {E : α → List AV} {S : α → Sto} {s : α} (dead : List Bool) (ids : List Nat) (m : Nat) (s' : α) (h : μ s' < μ s) (hi : I s') (hm : m0 ≤ m) (hl : m ≤ σ.length) (hn : ids.Nodup) (hids : (ids.all fun k => decide (m ≤ k)) = true) (h1 : dropG (nrmR m ids) dead e = E s') (h2 : renS m ids σ = S s') : NextS m0 μ I E S s e σ := .mk s' h hi (Wk.dropG dead ids m hm hl hn hids h1 h2)
end
section
variable {ρ : Nat → Option Nat} {a0 a1 a2 a3 a4 a5 a6 a7 a8 a9 a10 a11 a12 a13 a14 a15 : AV} {l : List AV} {b0 b1 b2 b3 b4 b5 b6 b7 b8 b9 b10 b11 b12 b13 b14 b15 b : Bool} {bs : List Bool}
theorem dropG_ch : dropG ρ (b0 :: b1 :: b2 :: b3 :: b4 :: b5 :: b6 :: b7 :: b8 :: b9 :: b10 :: b11 :: b12 :: b13 :: b14 :: b15 :: bs) (ch a0 a1 a2 a3 a4 a5 a6 a7 a8 a9 a10 a11 a12 a13 a14 a15 l) = ch (bif b0 then .any else rn ρ a0) (bif b1 then .any else rn ρ a1) (bif b2 then .any else rn ρ a2) (bif b3 then .any else rn ρ a3) (bif b4 then .any else rn ρ a4) (bif b5 then .any else rn ρ a5) (bif b6 then .any else rn ρ a6) (bif b7 then .any else rn ρ a7) (bif b8 then .any else rn ρ a8) (bif b9 then .any else rn ρ a9) (bif b10 then .any else rn ρ a10) (bif b11 then .any else rn ρ a11) (bif b12 then .any else rn ρ a12) (bif b13 then .any else rn ρ a13) (bif b14 then .any else rn ρ a14) (bif b15 then .any else rn ρ a15) (dropG ρ bs l) := nr rfl
theorem dropG_cons {a0 : AV} : dropG ρ (b :: bs) (a0 :: l) = (bif b then .any else rn ρ a0) :: dropG ρ bs l := nr rfl
theorem dropG_nil : dropG ρ [] [] = [] := nr rfl
end

/-! ### Slices taken into a row, the roots behind it given up -/
theorem rn_cut_fg {m k : Nat} (h : m ≤ k) : (∀ av, Lift.rn (cut m) (Lift.rn (fg k) av) = Lift.rn (cut m) av) ∧ ∀ l, rnL (cut m) (rnL (fg k) l) = rnL (cut m) l := by
  have key : ∀ i, (i = k ∧ cut m i = none) ∨ (i ≠ k) := fun i => by
    by_cases e : i = k
    · exact .inl ⟨e, by unfold cut; rw [if_neg (by omega)]⟩
    · exact .inr e
  have h2 : ∀ (av : AV), Lift.rn (cut m) (Lift.rn (fg k) av) = Lift.rn (cut m) av := by
    intro av
    refine AV.rec (motive_1 := fun av => Lift.rn (cut m) (Lift.rn (fg k) av) = Lift.rn (cut m) av) (motive_2 := fun l => rnL (cut m) (rnL (fg k) l) = rnL (cut m) l) rfl rfl rfl (fun _ => rfl) ?_ ?_ ?_ ?_ (fun _ _ => rfl) (fun _ => rfl)
      (fun l h => by simp only [Lift.rn, h]) (fun l h => by simp only [Lift.rn, h]) rfl (fun x l hx hl => by simp only [rnL, hx, hl]) av
    · intro i a b
      rcases key i with ⟨e, h1⟩ | e
      · subst e; simp [Lift.rn, fg, h1]
      · simp [Lift.rn, fg, e]
    · intro i a
      rcases key i with ⟨e, h1⟩ | e
      · subst e; simp [Lift.rn, fg, h1]
      · simp [Lift.rn, fg, e]
    · intro i a
      rcases key i with ⟨e, h1⟩ | e
      · subst e; simp [Lift.rn, fg, h1]
      · simp [Lift.rn, fg, e]
    · intro i a b
      rcases key i with ⟨e, h1⟩ | e
      · subst e; simp [Lift.rn, fg, h1]
      · simp [Lift.rn, fg, e]
  exact ⟨h2, fun l => by rw [rnL_eq, rnL_eq, rnL_eq, List.map_map]; exact List.map_congr_left fun x _ => h2 x⟩
theorem dropF_fg {m k : Nat} (h : m ≤ k) : ∀ (bs : List Bool) (l : List AV), dropF m bs (rnL (fg k) l) = dropF m bs l
  | _, [] => by cases ‹List Bool› <;> rfl
  | [], x :: l => by simp only [rnL, dropF, (rn_cut_fg h).1, dropF_fg h [] l]
  | b :: bs, x :: l => by simp only [rnL, dropF, (rn_cut_fg h).1, dropF_fg h bs l]
theorem Wk.ad1 {m0 m : Nat} {τ : Sto} (dead : List Bool) (k j n : Nat) {R R' : Root} {l : List D} {e : List AV} (hm : m0 ≤ m) (hτ : τ.length = m) (hR : τ[k]? = some (some R)) (hj : R.cells[j]? = some (.own m 0 n)) (hl : treL R'.cells = some l) (hn : l.length = n * R'.e) :
    Wk m0 e (τ ++ [some R']) (dropF m dead e) (keepS m (τ.set k (some { R with cells := R.cells.set j (.tr (.sl n l)) }))) := by
  have hk : k < τ.length := (List.getElem?_eq_some_iff.1 hR).1
  have h1 := Wk.adopt (m0 := m0) k j m n (R := R) (R' := R') (l := l) (e := e) (σ := τ ++ [some R']) hm (by omega) (by simp [at_, List.getElem?_append_left hk, hR]) (by subst hτ; simp [at_]) hj hl hn rfl rfl
  refine h1.trans (Wk.drop dead m hm (dropF_fg (Nat.le_refl _) _ _) ?_)
  unfold keepS
  refine List.ext_getElem? fun i => ?_
  simp only [List.getElem?_map, List.getElem?_take]
  by_cases hi : i < m
  · rw [if_pos hi, if_pos hi]
    unfold adS
    rw [List.getElem?_mapIdx, List.getElem?_map, List.getElem?_set, if_neg (by omega), List.getElem?_append_left (by omega), List.getElem?_set]
    by_cases e : k = i
    · subst e
      rw [if_pos rfl, if_pos hk, hR]
      simp [rnL_eq, List.map_set, List.map_map, Lift.rn]
      congr 1
      refine List.map_congr_left fun x _ => ?_
      exact (rn_cut_fg (Nat.le_refl _)).1 x
    · rw [if_neg e]
      cases hx : τ[i]? with
      | none => simp
      | some x =>
        cases x with
        | none => simp
        | some R0 => simp [if_neg (Ne.symm e), (rn_cut_fg (Nat.le_refl m)).2]
  · rw [if_neg hi, if_neg hi]
theorem adS_get {k j k' n : Nat} {l : List D} {σ : Sto} {i : Nat} (h : i ≠ k') : (adS k j k' n l σ)[i]? = (σ[i]?).map (Option.map fun R => if i = k then { R with cells := (rnL (fg k') R.cells).set j (.tr (.sl n l)) } else { R with cells := rnL (fg k') R.cells }) := by
  unfold adS
  rw [List.getElem?_mapIdx, List.getElem?_map, List.getElem?_set, if_neg (Ne.symm h)]
  cases σ[i]? with
  | none => rfl
  | some x =>
    cases x with
    | none => by_cases e : i = k <;> simp [e]
    | some R => by_cases e : i = k <;> simp [e]
/-- The three roots behind τ become the slices that three cells of root k hold. -/
theorem Wk.ad3 {m0 m : Nat} (dead : List Bool) (k z q : Nat) (g : Bool) {τ : Sto} {A B : List AV} {e : List AV} {n0 n1 n2 : Nat} {r0 r1 r2 : Root} {l0 l1 l2 : List D} (hm : m0 ≤ m) (hτ : τ.length = m) (hA : A.length = q)
    (hk : τ[k]? = some (some ⟨z, g, A ++ [.own m 0 n0, .own (m + 1) 0 n1, .own (m + 2) 0 n2] ++ B⟩))
    (t0 : treL r0.cells = some l0) (t1 : treL r1.cells = some l1) (t2 : treL r2.cells = some l2) (e0 : l0.length = n0 * r0.e) (e1 : l1.length = n1 * r1.e) (e2 : l2.length = n2 * r2.e)
    (f1 : ∀ ρ, rnL ρ r1.cells = r1.cells) (f2 : ∀ ρ, rnL ρ r2.cells = r2.cells) :
    Wk m0 e (τ ++ [some r0, some r1, some r2]) (dropF m dead e) (keepS m (τ.set k (some ⟨z, g, A ++ [.tr (.sl n0 l0), .tr (.sl n1 l1), .tr (.sl n2 l2)] ++ B⟩))) := by
  have hkm : k < m := by rw [← hτ]; exact (List.getElem?_eq_some_iff.1 hk).1
  have a0 : at_ (τ ++ [some r0, some r1, some r2]) m = some r0 := by subst hτ; simp [at_]
  have a1 : at_ (τ ++ [some r0, some r1, some r2]) (m + 1) = some r1 := by subst hτ; simp [at_]
  have a2 : at_ (τ ++ [some r0, some r1, some r2]) (m + 2) = some r2 := by subst hτ; simp [at_]
  have ak : at_ (τ ++ [some r0, some r1, some r2]) k = some ⟨z, g, A ++ [.own m 0 n0, .own (m + 1) 0 n1, .own (m + 2) 0 n2] ++ B⟩ := by simp [at_, List.getElem?_append_left (show k < τ.length by omega), hk]
  have g0 : (A ++ [AV.own m 0 n0, .own (m + 1) 0 n1, .own (m + 2) 0 n2] ++ B)[q]? = some (.own m 0 n0) := by subst hA; simp
  have g1 : (A ++ [AV.own m 0 n0, .own (m + 1) 0 n1, .own (m + 2) 0 n2] ++ B)[q + 1]? = some (.own (m + 1) 0 n1) := by subst hA; simp
  have g2 : (A ++ [AV.own m 0 n0, .own (m + 1) 0 n1, .own (m + 2) 0 n2] ++ B)[q + 2]? = some (.own (m + 2) 0 n2) := by subst hA; simp
  have h1 := Wk.adopt (m0 := m0) k q m n0 (e := e) hm (by omega) ak a0 g0 t0 e0 rfl rfl
  have b1 := at_adS (k := k) (j := q) (k' := m) (n := n0) (l := l0) (σ := τ ++ [some r0, some r1, some r2]) (m + 1)
  have b2 := at_adS (k := k) (j := q) (k' := m) (n := n0) (l := l0) (σ := τ ++ [some r0, some r1, some r2]) (m + 2)
  have bk := at_adS (k := k) (j := q) (k' := m) (n := n0) (l := l0) (σ := τ ++ [some r0, some r1, some r2]) k
  rw [if_neg (by omega), a1, Option.map_some, if_neg (by omega), f1] at b1
  rw [if_neg (by omega), a2, Option.map_some, if_neg (by omega), f2] at b2
  rw [if_neg (by omega), ak, Option.map_some, if_pos rfl] at bk
  generalize hS1 : adS k q m n0 l0 (τ ++ [some r0, some r1, some r2]) = S1 at h1 b1 b2 bk
  have h2 := Wk.adopt (m0 := m0) k (q + 1) (m + 1) n1 (e := rnL (fg m) e) (by omega) (by omega) bk b1 (by
    rw [List.getElem?_set, if_neg (by omega), rnL_eq, List.getElem?_map, g1]
    simp [Lift.rn, fg]) t1 e1 rfl rfl
  have c2 := at_adS (k := k) (j := q + 1) (k' := m + 1) (n := n1) (l := l1) (σ := S1) (m + 2)
  have ck := at_adS (k := k) (j := q + 1) (k' := m + 1) (n := n1) (l := l1) (σ := S1) k
  rw [if_neg (by omega), b2, Option.map_some, if_neg (by omega)] at c2
  simp only [f2] at c2
  rw [if_neg (by omega), bk, Option.map_some, if_pos rfl] at ck
  generalize hS2 : adS k (q + 1) (m + 1) n1 l1 S1 = S2 at h2 c2 ck
  have h3 := Wk.adopt (m0 := m0) k (q + 2) (m + 2) n2 (e := rnL (fg (m + 1)) (rnL (fg m) e)) (by omega) (by omega) ck c2 (by
    rw [List.getElem?_set, if_neg (by omega), rnL_eq, List.getElem?_map, List.getElem?_set, if_neg (by omega), rnL_eq, List.getElem?_map, g2]
    simp [Lift.rn, fg]) t2 e2 rfl rfl
  refine h1.trans (h2.trans (h3.trans (Wk.drop dead m hm ?_ ?_)))
  · rw [dropF_fg (by omega), dropF_fg (by omega), dropF_fg (by omega)]
  · refine List.ext_getElem? fun i => ?_
    unfold keepS
    simp only [List.getElem?_map, List.getElem?_take]
    by_cases hi : i < m
    · rw [if_pos hi, if_pos hi, adS_get (by omega), ← hS2, adS_get (by omega), ← hS1, adS_get (by omega), List.getElem?_append_left (by omega), List.getElem?_set]
      by_cases e : k = i
      · subst e
        rw [if_pos rfl, if_pos (by omega), hk]
        simp only [Option.map_some, if_true]
        simp only [rnL_eq, List.map_set, Lift.rn, List.map_map, List.map_append, List.map_cons, List.map_nil]
        have hc : ∀ x : AV, Lift.rn (cut m) (Lift.rn (fg (m + 2)) (Lift.rn (fg (m + 1)) (Lift.rn (fg m) x))) = Lift.rn (cut m) x := fun x => by
          rw [(rn_cut_fg (by omega)).1, (rn_cut_fg (by omega)).1, (rn_cut_fg (by omega)).1]
        subst hA
        have hc' : (Lift.rn (cut m) ∘ Lift.rn (fg (m + 2)) ∘ Lift.rn (fg (m + 1)) ∘ Lift.rn (fg m)) = Lift.rn (cut m) := funext hc
        rw [hc']
        simp [List.set_append]
      · rw [if_neg e]
        cases hx : τ[i]? with
        | none => simp
        | some x =>
          cases x with
          | none => simp
          | some R0 =>
            simp only [Option.map_some, if_neg (Ne.symm e)]
            rw [(rn_cut_fg (by omega)).2, (rn_cut_fg (by omega)).2, (rn_cut_fg (by omega)).2]
    · rw [if_neg hi, if_neg hi]
theorem Wk.eq {m0 : Nat} {e e' e1 : List AV} {σ σ' σ1 : Sto} (h : Wk m0 e σ e1 σ1) (h1 : e1 = e') (h2 : σ1 = σ') : Wk m0 e σ e' σ' := h1 ▸ h2 ▸ h
/-- Three slices of a row become roots of their own. -/
theorem Wk.sp3 {m0 : Nat} (z q : Nat) (g : Bool) (A B : List AV) {e : List AV} {n0 n1 n2 : Nat} {l0 l1 l2 : List D} (hm : m0 ≤ 1) (hA : A.length = q) (hA' : ∀ f : AV → AV, (∀ x, f (.tr x) = .tr x) → mapL f A = A) (hB' : ∀ f : AV → AV, (∀ x, f (.tr x) = .tr x) → mapL f B = B)
    (he : ∀ i j k' n, mapL (spG i j k' n) e = e) :
    Wk m0 e [some ⟨z, g, A ++ [.tr (.sl n0 l0), .tr (.sl n1 l1), .tr (.sl n2 l2)] ++ B⟩] e [some ⟨z, g, A ++ [.own 1 0 n0, .own 2 0 n1, .own 3 0 n2] ++ B⟩, some ⟨1, false, l0.map cellT⟩, some ⟨1, false, l1.map cellT⟩, some ⟨1, false, l2.map cellT⟩] := by
  subst hA
  have f : ∀ i j k' n x, spG i j k' n (.tr x) = .tr x := fun _ _ _ _ _ => rfl
  have hT : ∀ i j k' n (l : List D), mapL (spG i j k' n) (l.map cellT) = l.map cellT := fun i j k' n l => by
    rw [mapL_eq, List.map_map]
    refine List.map_congr_left fun x _ => ?_
    cases x <;> rfl
  have h1 := Wk.split (m0 := m0) 0 A.length 1 n0 (e := e) (σ := [some ⟨z, g, A ++ [.tr (.sl n0 l0), .tr (.sl n1 l1), .tr (.sl n2 l2)] ++ B⟩]) (l := l0) (by simpa using hm) rfl (by simp) (he _ _ _ _)
    (σ' := [some ⟨z, g, A ++ [.own 1 0 n0, .tr (.sl n1 l1), .tr (.sl n2 l2)] ++ B⟩, some ⟨1, false, l0.map cellT⟩]) (by
      simp only [spS, List.map_cons, List.map_nil, Option.map_some, List.length_cons, List.length_nil, List.mapIdx_cons, List.mapIdx_nil, if_true, mapL_eq, List.map_append]
      rw [← mapL_eq, ← mapL_eq, hA' _ (f _ _ _ _), hB' _ (f _ _ _ _)]
      simp [mapA, spG, List.set_append])
  have h2 := Wk.split (m0 := m0) 0 (A.length + 1) 1 n1 (e := e) (σ := [some ⟨z, g, A ++ [.own 1 0 n0, .tr (.sl n1 l1), .tr (.sl n2 l2)] ++ B⟩, some ⟨1, false, l0.map cellT⟩]) (l := l1) (by simp; omega) rfl (by simp) (he _ _ _ _)
    (σ' := [some ⟨z, g, A ++ [.own 1 0 n0, .own 2 0 n1, .tr (.sl n2 l2)] ++ B⟩, some ⟨1, false, l0.map cellT⟩, some ⟨1, false, l1.map cellT⟩]) (by
      simp only [spS, List.map_cons, List.map_nil, Option.map_some, List.length_cons, List.length_nil, List.mapIdx_cons, List.mapIdx_nil, if_true, mapL_eq, List.map_append]
      rw [← mapL_eq, ← mapL_eq, ← mapL_eq, hA' _ (f _ _ _ _), hB' _ (f _ _ _ _), hT]
      simp [mapA, spG, List.set_append])
  have h3 := Wk.split (m0 := m0) 0 (A.length + 2) 1 n2 (e := e) (σ := [some ⟨z, g, A ++ [.own 1 0 n0, .own 2 0 n1, .tr (.sl n2 l2)] ++ B⟩, some ⟨1, false, l0.map cellT⟩, some ⟨1, false, l1.map cellT⟩]) (l := l2) (by simp; omega) rfl (by simp) (he _ _ _ _)
    (σ' := [some ⟨z, g, A ++ [.own 1 0 n0, .own 2 0 n1, .own 3 0 n2] ++ B⟩, some ⟨1, false, l0.map cellT⟩, some ⟨1, false, l1.map cellT⟩, some ⟨1, false, l2.map cellT⟩]) (by
      simp only [spS, List.map_cons, List.map_nil, Option.map_some, List.length_cons, List.length_nil, List.mapIdx_cons, List.mapIdx_nil, if_true, mapL_eq, List.map_append]
      rw [← mapL_eq, ← mapL_eq, ← mapL_eq, ← mapL_eq, hA' _ (f _ _ _ _), hB' _ (f _ _ _ _), hT, hT]
      simp [mapA, spG, List.set_append])
  exact h1.trans (h2.trans h3)
theorem rn_cut_nrm {m : Nat} {ids : List Nat} : ∀ av, Lift.rn (cut m) (Lift.rn (nrmR m ids) av) = Lift.rn (cut m) av := by
  have key : ∀ i, (nrmR m ids i = some i ∧ i < m) ∨ (cut m i = none ∧ (nrmR m ids i = none ∨ ∃ p, nrmR m ids i = some p ∧ cut m p = none)) := fun i => by
    unfold nrmR cut
    by_cases e : i < m
    · exact .inl ⟨if_pos e, e⟩
    · refine .inr ⟨if_neg e, ?_⟩
      rw [if_neg e]
      cases posOf i ids with
      | none => exact .inl rfl
      | some p => exact .inr ⟨p + m, rfl, if_neg (by omega)⟩
  intro av
  refine AV.rec (motive_1 := fun av => Lift.rn (cut m) (Lift.rn (nrmR m ids) av) = Lift.rn (cut m) av) (motive_2 := fun l => rnL (cut m) (rnL (nrmR m ids) l) = rnL (cut m) l) rfl rfl rfl (fun _ => rfl) ?_ ?_ ?_ ?_ (fun _ _ => rfl) (fun _ => rfl)
    (fun l h => by simp only [Lift.rn, h]) (fun l h => by simp only [Lift.rn, h]) rfl (fun x l hx hl => by simp only [rnL, hx, hl]) av
  · intro i a b
    rcases key i with ⟨e, _⟩ | ⟨h1, e | ⟨p, e, h2⟩⟩ <;> simp [Lift.rn, e] <;> simp [h1] <;> simp [h2]
  · intro i a
    rcases key i with ⟨e, _⟩ | ⟨h1, e | ⟨p, e, h2⟩⟩ <;> simp [Lift.rn, e] <;> simp [h1] <;> simp [h2]
  · intro i a
    rcases key i with ⟨e, _⟩ | ⟨h1, e | ⟨p, e, h2⟩⟩ <;> simp [Lift.rn, e] <;> simp [h1] <;> simp [h2]
  · intro i a b
    rcases key i with ⟨e, _⟩ | ⟨h1, e | ⟨p, e, h2⟩⟩ <;> simp [Lift.rn, e] <;> simp [h1] <;> simp [h2]
theorem dropF_dropG {m : Nat} {ids : List Nat} : ∀ (bs : List Bool) (l : List AV), dropF m bs (dropG (nrmR m ids) [] l) = dropF m bs l
  | _, [] => by cases ‹List Bool› <;> rfl
  | [], x :: l => by simp only [dropF, dropG, rn_cut_nrm, dropF_dropG [] l]
  | b :: bs, x :: l => by simp only [dropF, dropG, rn_cut_nrm, dropF_dropG bs l]
/-- The roots in ids (three of them last) become the slices that three cells of root k hold; the others from m on are given up. -/
theorem Wk.gad3 {m0 m : Nat} (dead : List Bool) (ids : List Nat) (k z q : Nat) (g : Bool) {τ σ : Sto} {A B : List AV} {e : List AV} {n0 n1 n2 : Nat} {r0 r1 r2 : Root} {l0 l1 l2 : List D} (hm : m0 ≤ m) (hl : m ≤ σ.length) (hn : ids.Nodup) (hids : (ids.all fun k => decide (m ≤ k)) = true)
    (h2 : renS m ids σ = τ ++ [some r0, some r1, some r2]) (hτ : τ.length = m) (hA : A.length = q)
    (hk : τ[k]? = some (some ⟨z, g, A ++ [.own m 0 n0, .own (m + 1) 0 n1, .own (m + 2) 0 n2] ++ B⟩))
    (t0 : treL r0.cells = some l0) (t1 : treL r1.cells = some l1) (t2 : treL r2.cells = some l2) (e0 : l0.length = n0 * r0.e) (e1 : l1.length = n1 * r1.e) (e2 : l2.length = n2 * r2.e)
    (f1 : ∀ ρ, rnL ρ r1.cells = r1.cells) (f2 : ∀ ρ, rnL ρ r2.cells = r2.cells) :
    Wk m0 e σ (dropF m dead e) (keepS m (τ.set k (some ⟨z, g, A ++ [.tr (.sl n0 l0), .tr (.sl n1 l1), .tr (.sl n2 l2)] ++ B⟩))) :=
  Wk.eq ((Wk.dropG [] ids m hm hl hn hids rfl h2).trans (Wk.ad3 dead k z q g hm hτ hA hk t0 t1 t2 e0 e1 e2 f1 f2)) (dropF_dropG _ _) rfl
/-- A nil slice in a row is seen as a tree of no cells. -/
theorem Wk.nilT {m0 : Nat} (k j : Nat) (R : Root) (e : List AV) (σ : Sto) (hk : σ[k]? = some (some R)) (hj : R.cells[j]? = some .nil) :
    Wk m0 e σ e (σ.set k (some { R with cells := R.cells.set j (.tr (.sl 0 [])) })) := by
  intro γ φ w vs hS hE
  have hR : at_ σ k = some R := by simp [at_, hk]
  have hat := at_set (R' := { R with cells := R.cells.set j (.tr (.sl 0 [])) }) σ hR
  rcases hS.root k R hR with h0 | ⟨cur, T, hh, hg, hl, hcells⟩
  · simp [h0] at hj
  obtain ⟨hK2, hL2, hS2⟩ := hS.setRow hR hh hg cur rfl (R.cells.set j (.tr (.sl 0 []))) (by simpa using hl) (fun i av hav => by
      rw [List.getElem?_set] at hav
      split at hav
      · rename_i hji
        subst hji
        split at hav
        · simp only [Option.some.injEq] at hav
          subst hav
          obtain ⟨v, hv, hr⟩ := hcells j _ hj
          refine ⟨v, hv, ?_⟩
          simp only [CRel] at hr ⊢
          rw [rel_nil hr]
          unfold Tree
          exact ⟨none, 0, rfl, Nat.le_refl _, .inl ⟨rfl, rfl, rfl, rfl⟩⟩
        · cases hav
      · exact hcells i av hav) (fun i x hx => by
      have hij : j ≠ i := fun e => by rw [← e, hj] at hx; cases hx
      exact ⟨⟨x, by rw [List.getElem?_set, if_neg hij]; exact hx⟩, rfl⟩)
  rw [setRow_self w _ cur T (0, 0) hh] at hK2 hL2 hS2
  refine ⟨γ, φ, Kst.refl _ _, by rw [hat]; exact hS2, ?_, fun i Ri hi hRi hgi => ?_⟩
  · rw [hat]
    exact RelL.mono hK2 hL2 _ _ hE
  · obtain ⟨_, R3, h6, _, h7, _⟩ := hL2 i Ri hRi
    exact ⟨Stay.refl, R3, by rw [hat]; exact h6, goff h7 hgi⟩
theorem Wk.ad1r {m0 m : Nat} {τ rest : Sto} (dead : List Bool) (k j n : Nat) {R R' : Root} {l : List D} {e : List AV} (hm : m0 ≤ m) (hτ : τ.length = m) (hR : τ[k]? = some (some R)) (hj : R.cells[j]? = some (.own m 0 n)) (hl : treL R'.cells = some l) (hn : l.length = n * R'.e) :
    Wk m0 e (τ ++ some R' :: rest) (dropF m dead e) (keepS m (τ.set k (some { R with cells := R.cells.set j (.tr (.sl n l)) }))) := by
  have hk : k < τ.length := (List.getElem?_eq_some_iff.1 hR).1
  have h1 := Wk.adopt (m0 := m0) k j m n (R := R) (R' := R') (l := l) (e := e) (σ := τ ++ some R' :: rest) hm (by omega) (by simp [at_, List.getElem?_append_left hk, hR]) (by subst hτ; simp [at_]) hj hl hn rfl rfl
  refine h1.trans (Wk.drop dead m hm (dropF_fg (Nat.le_refl _) _ _) ?_)
  unfold keepS
  refine List.ext_getElem? fun i => ?_
  simp only [List.getElem?_map, List.getElem?_take]
  by_cases hi : i < m
  · rw [if_pos hi, if_pos hi]
    unfold adS
    rw [List.getElem?_mapIdx, List.getElem?_map, List.getElem?_set, if_neg (by omega), List.getElem?_append_left (by omega), List.getElem?_set]
    by_cases e : k = i
    · subst e
      rw [if_pos rfl, if_pos hk, hR]
      simp [rnL_eq, List.map_set, List.map_map, Lift.rn]
      congr 1
      refine List.map_congr_left fun x _ => ?_
      exact (rn_cut_fg (Nat.le_refl _)).1 x
    · rw [if_neg e]
      cases hx : τ[i]? with
      | none => simp
      | some x =>
        cases x with
        | none => simp
        | some R0 => simp [if_neg (Ne.symm e), (rn_cut_fg (Nat.le_refl m)).2]
  · rw [if_neg hi, if_neg hi]
/-- A row's last three cells, nil, nil and the root behind τ, become slices of the row. -/
theorem Wk.nad {m0 m : Nat} (k z q : Nat) (g : Bool) {τ rest : Sto} {A : List AV} {e : List AV} {n2 : Nat} {r2 : Root} {l2 : List D} (hm : m0 ≤ m) (hτ : τ.length = m) (hA : A.length = q)
    (hk : τ[k]? = some (some ⟨z, g, A ++ [.nil, .nil, .own m 0 n2]⟩)) (t2 : treL r2.cells = some l2) (e2 : l2.length = n2 * r2.e) :
    Wk m0 e (τ ++ some r2 :: rest) (dropF m [] e) (keepS m (τ.set k (some ⟨z, g, A ++ [.tr (.sl 0 []), .tr (.sl 0 []), .tr (.sl n2 l2)]⟩))) := by
  have hkm : k < τ.length := (List.getElem?_eq_some_iff.1 hk).1
  subst hA
  have h1 := Wk.nilT (m0 := m0) k A.length _ e (τ ++ some r2 :: rest) (by rw [List.getElem?_append_left hkm]; exact hk) (by simp)
  rw [List.set_append_left _ _ hkm] at h1
  have k1 : (τ.set k (some ⟨z, g, A ++ [.tr (.sl 0 []), .nil, .own m 0 n2]⟩))[k]? = some (some ⟨z, g, A ++ [.tr (.sl 0 []), .nil, .own m 0 n2]⟩) := by simp [hkm]
  have h1' : Wk m0 e (τ ++ some r2 :: rest) e (τ.set k (some ⟨z, g, A ++ [.tr (.sl 0 []), .nil, .own m 0 n2]⟩) ++ some r2 :: rest) := h1.eq rfl (by simp [List.set_append])
  have h2 := Wk.nilT (m0 := m0) k (A.length + 1) _ e (τ.set k (some ⟨z, g, A ++ [.tr (.sl 0 []), .nil, .own m 0 n2]⟩) ++ some r2 :: rest) (by rw [List.getElem?_append_left (by simpa using hkm)]; exact k1) (by simp)
  rw [List.set_append_left _ _ (by simpa using hkm)] at h2
  have h2' : Wk m0 e (τ.set k (some ⟨z, g, A ++ [.tr (.sl 0 []), .nil, .own m 0 n2]⟩) ++ some r2 :: rest) e (τ.set k (some ⟨z, g, A ++ [.tr (.sl 0 []), .tr (.sl 0 []), .own m 0 n2]⟩) ++ some r2 :: rest) := h2.eq rfl (by simp [List.set_append])
  have h3 := Wk.ad1r (m0 := m0) (τ := τ.set k (some ⟨z, g, A ++ [.tr (.sl 0 []), .tr (.sl 0 []), .own m 0 n2]⟩)) (rest := rest) [] k (A.length + 2) n2 (R := ⟨z, g, A ++ [.tr (.sl 0 []), .tr (.sl 0 []), .own m 0 n2]⟩) (R' := r2) (l := l2) (e := e) hm (by simpa using hτ) (by simp [hkm]) (by simp) t2 e2
  refine (h1'.trans h2').trans (h3.eq rfl ?_)
  simp [List.set_append]
end Go.Lift

/-
  Networks as plain data. No condition.
-/
namespace Go.Proofs.Ytjncdanegoileaa
open Go.RowKit Go.Lift Plain
set_option linter.unusedSimpArgs false

def tcs : List Ten → List D
  | [] => []
  | t :: l => ints t.labels :: ints t.dims :: ints t.data :: tcs l
/-- Tensors, as the cells of a row that holds them. -/
def tcA (ts : List Ten) : List AV := (tcs ts).map .tr
def tens (ts : List Ten) : D := .sl ts.length (tcs ts)
structure Net where
  k : Int
  p : Int
  n : Int
  ts : List Ten
  os : List Int
def Net.rg (N : Net) : Rg := ⟨N.k, N.p, N.n⟩
def netA (N : Net) : AV := .agg [.d (.int N.k), .d (.int N.p), .d (.int N.n), .d (tens N.ts), .d (ints N.os)]
def ownN (k : Nat) (N : Net) : AV := .agg [.d (.int N.k), .d (.int N.p), .d (.int N.n), .own k 0 N.ts.length, .own (k + 1) 0 N.os.length]
def stoN (N : Net) : Sto := [some ⟨3, true, tcA N.ts⟩, some ⟨1, true, iv N.os⟩]
def stoNF (N : Net) : Sto := [some ⟨3, false, tcA N.ts⟩, some ⟨1, false, iv N.os⟩]

section
variable {ts : List Ten}
theorem tcs_len : ∀ {ts : List Ten}, (tcs ts).length = ts.length * 3
  | [] => rfl
  | t :: l => by simp [tcs, tcs_len (ts := l)]; omega
theorem tcA_len : (tcA ts).length = ts.length * 3 := by simp [tcA, tcs_len]
theorem tcs_app : ∀ (a b : List Ten), tcs (a ++ b) = tcs a ++ tcs b
  | [], b => rfl
  | t :: l, b => by simp [tcs, tcs_app l b]
theorem tcA_app (a b : List Ten) : tcA (a ++ b) = tcA a ++ tcA b := by simp [tcA, tcs_app]
theorem tcs_drop : ∀ {ts : List Ten} {k : Nat} {t : Ten}, ts[k]? = some t → (tcs ts).drop (k * 3) = ints t.labels :: ints t.dims :: ints t.data :: tcs (ts.drop (k + 1))
  | [], _, _, h => by simp at h
  | x :: l, 0, t, h => by simp at h; subst h; simp [tcs]
  | x :: l, k + 1, t, h => by
    have := tcs_drop (ts := l) (k := k) (t := t) (by simpa using h)
    rw [tcs, show (k + 1) * 3 = k * 3 + 3 by omega]
    simpa using this
theorem tcs_cut {k : Nat} {t : Ten} (h : ts[k]? = some t) : ((tcs ts).drop (k * 3)).take 3 = [ints t.labels, ints t.dims, ints t.data] := by rw [tcs_drop h]; rfl
theorem tcA_take : (tcA ts).take (ts.length * 3) = tcA ts := List.take_of_length_le (by rw [tcA_len]; omega)
theorem tcs_take : (tcs ts).take (ts.length * 3) = tcs ts := List.take_of_length_le (by rw [tcs_len]; omega)
theorem rnL_tcA (ρ : Nat → Option Nat) : rnL ρ (tcA ts) = tcA ts := by
  rw [rnL_eq, tcA, List.map_map]
  exact List.map_congr_left fun x _ => rfl
theorem cgL_tcA (gv : List Nat) (M : List Nat) : cgL gv M (tcA ts) = tcA ts := by
  rw [cgL_eq, tcA, List.map_map]
  exact List.map_congr_left fun x _ => rfl
theorem scalL_tcA : scalL (tcA ts) = true := by
  unfold tcA
  induction tcs ts with
  | nil => rfl
  | cons x l ih => simp only [List.map_cons, scalL, scal, ih, Bool.and_self]
theorem idsL_tcA : idsL (tcA ts) = [] := by
  unfold tcA
  induction tcs ts with
  | nil => rfl
  | cons x l ih => simp only [List.map_cons, idsL, idsA, ih, List.nil_append]
theorem cellsD_tcA : cellsD (tcA ts) = some (tcs ts) := by
  unfold tcA
  induction tcs ts with
  | nil => rfl
  | cons x l ih => simp only [List.map_cons, cellsD, cellD, ih]
theorem tcA_nil : tcA [] = [] := rfl
end
attribute [go_sem] tcA_len tcs_len tcA_take tcs_take rnL_tcA cgL_tcA scalL_tcA idsL_tcA cellsD_tcA tcA_nil tens netA ownN stoN stoNF
end Go.Proofs.Ytjncdanegoileaa

/-
  Plain lists: the dimensions of a network's labels; valid networks. No condition.
-/
namespace Go.Proofs.Ytjncdanegoileaa
open Go.RowKit Go.Lift Plain
set_option linter.unusedSimpArgs false
set_option linter.unusedVariables false

/-- The dimension of a label: that of the first tensor that has it, or 0. -/
def dimN : List Ten → Int → Int
  | [], _ => 0
  | t :: l, x => if x ∈ t.labels then dimAt t x else dimN l x
theorem dimN_app : ∀ (a b : List Ten) (x : Int), (∀ t ∈ a, x ∈ t.labels → dimAt t x ≠ 0) → dimN (a ++ b) x = if dimN a x = 0 then dimN b x else dimN a x
  | [], b, x, _ => by simp [dimN]
  | t :: l, b, x, h => by
    rw [List.cons_append, dimN, dimN]
    by_cases hm : x ∈ t.labels
    · rw [if_pos hm, if_pos hm, if_neg (h t (by simp) hm)]
    · rw [if_neg hm, if_neg hm]
      exact dimN_app l b x fun t' ht' => h t' (by simp [ht'])
/-- Its tensors are sound. -/
def tenOks (r : Rg) (ts : List Ten) : Prop := ∀ t ∈ ts, tensorOk r t.labels t.dims t.data = true
def axOks (ts : List Ten) : Prop := ∀ t ∈ ts, axOk t.labels t.dims
theorem tenOks.ax {r : Rg} {ts : List Ten} (h : tenOks r ts) : axOks ts := fun t ht => (tensorOk_facts (h t ht)).2.1
theorem axOks.take {ts : List Ten} (h : axOks ts) (k : Nat) : axOks (ts.take k) := fun t ht => h t (List.mem_of_mem_take ht)
theorem axOks.ne {ts : List Ten} (h : axOks ts) {x : Int} : ∀ t ∈ ts, x ∈ t.labels → dimAt t x ≠ 0 := fun t ht hm => by have := dimAt_bd (h t ht) hm; omega
theorem dimN_bd : ∀ {ts : List Ten}, axOks ts → ∀ x, dimN ts x = 0 ∨ (1 ≤ dimN ts x ∧ dimN ts x ≤ 8)
  | [], _, x => .inl rfl
  | t :: l, h, x => by
    rw [dimN]
    split
    · rename_i hm
      exact .inr (dimAt_bd (h t (by simp)) hm)
    · exact dimN_bd (fun t' ht' => h t' (by simp [ht'])) x
theorem dimN_next {ts : List Ten} (h : axOks ts) {k : Nat} (hk : k < ts.length) (x : Int) : dimN (ts.take (k + 1)) x = if dimN (ts.take k) x = 0 then (if x ∈ ts[k].labels then dimAt ts[k] x else 0) else dimN (ts.take k) x := by
  rw [take_ss hk, dimN_app _ _ _ (h.take k).ne]
  simp only [dimN]
/-- No label has two dimensions. -/
def consT (ts : List Ten) (k : Nat) : Prop := ∀ x, (hk : k < ts.length) → x ∈ ts[k].labels → dimN (ts.take k) x = 0 ∨ dimN (ts.take k) x = dimAt ts[k] x
def consB (ts : List Ten) : Prop := ∀ k, k < ts.length → consT ts k
open Classical in
noncomputable def netOk (N : Net) : Bool := ringOk N.rg && decide (N.ts.length ≤ 12) && decide (tenOks N.rg N.ts) && decide (consB N.ts) && decide (tsize N.os (N.os.map (dimN N.ts)) ≠ -1)

/-! ### The table of the dimensions -/
def repI (n : Nat) (x : Int) : List Int := List.replicate n x
theorem repI_len (n : Nat) (x : Int) : (repI n x).length = n := by simp [repI]
theorem reps_int (n : Nat) (x : Int) : reps n (.d (.int x)) = iv (repI n x) := by simp [reps, repI, iv]
def atT (D : List Int) (x : Int) : Int := D.getD x.toNat 0
theorem atT_rep (n : Nat) (x : Int) : atT (repI n 0) x = 0 := by
  unfold atT repI
  by_cases h : x.toNat < n
  · rw [getD_of (by simpa using h)]; simp
  · rw [List.getD_eq_getElem?_getD, List.getElem?_eq_none (by simp; omega)]; rfl
theorem atT_set {D : List Int} {x y d : Int} (hl : D.length = 100) (hx : 0 ≤ x ∧ x ≤ 99) (hy : 0 ≤ y ∧ y ≤ 99) : atT (D.set x.toNat d) y = if x = y then d else atT D y := by
  unfold atT
  rw [List.getD_eq_getElem?_getD, List.getElem?_set]
  by_cases e : x = y
  · subst e; rw [if_pos rfl, if_pos (by omega), if_pos rfl]; rfl
  · rw [if_neg (by omega), if_neg e]; rfl
/-- Labels with their dimensions are laid into the table. -/
def dimsGo : List (Int × Int) → List Int → List Int × Bool
  | [], D => (D, true)
  | (x, d) :: r, D => if atT D x ≠ 0 ∧ atT D x ≠ d then (D, false) else dimsGo r (D.set x.toNat d)
theorem dimsGo_app : ∀ (a b : List (Int × Int)) (D : List Int), dimsGo (a ++ b) D = if (dimsGo a D).2 = true then dimsGo b (dimsGo a D).1 else dimsGo a D
  | [], b, D => by simp [dimsGo]
  | (x, d) :: r, b, D => by
    rw [List.cons_append, dimsGo, dimsGo]
    split
    · simp
    · exact dimsGo_app r b _
theorem dimsGo_len : ∀ (a : List (Int × Int)) (D : List Int), (dimsGo a D).1.length = D.length
  | [], D => rfl
  | (x, d) :: r, D => by
    rw [dimsGo]
    split
    · rfl
    · rw [dimsGo_len r, List.length_set]
def tpairs (t : Ten) : List (Int × Int) := t.labels.zip t.dims
def pairsN (ts : List Ten) : List (Int × Int) := ts.flatMap tpairs
def dimsR (ts : List Ten) : List Int × Bool := dimsGo (pairsN ts) (repI 100 0)
theorem dimsR_len (ts : List Ten) : (dimsR ts).1.length = 100 := by rw [dimsR, dimsGo_len, repI_len]
/-- Behind k tensors and q labels of the next. -/
def pairsTo (ts : List Ten) (k q : Nat) : List (Int × Int) := pairsN (ts.take k) ++ (tpairs (ts.getD k ⟨[], [], []⟩)).take q
def dimsTo (ts : List Ten) (k q : Nat) : List Int × Bool := dimsGo (pairsTo ts k q) (repI 100 0)
theorem dimsTo_len (ts : List Ten) (k q : Nat) : (dimsTo ts k q).1.length = 100 := by rw [dimsTo, dimsGo_len, repI_len]
theorem tpairs_len {t : Ten} (h : axOk t.labels t.dims) : (tpairs t).length = t.labels.length := by simp [tpairs, h.len]
theorem dimsTo_zero (ts : List Ten) : dimsTo ts 0 0 = (repI 100 0, true) := by simp [dimsTo, pairsTo, pairsN, dimsGo]
theorem dimsTo_tensor {ts : List Ten} (h : axOks ts) {k : Nat} (hk : k < ts.length) : dimsTo ts k ts[k].labels.length = dimsTo ts (k + 1) 0 := by
  have e : ts.getD k ⟨[], [], []⟩ = ts[k] := by simp [hk]
  have hl := tpairs_len (h ts[k] (List.getElem_mem hk))
  unfold dimsTo pairsTo
  have e2 : pairsN (ts.take (k + 1)) = pairsN (ts.take k) ++ tpairs ts[k] := by
    rw [take_ss hk]
    unfold pairsN
    rw [List.flatMap_append]
    simp only [List.flatMap_cons, List.flatMap_nil, List.append_nil]
  rw [e, List.take_of_length_le (l := tpairs ts[k]) (by omega), e2, List.take_zero, List.append_nil]
theorem dimsTo_step {ts : List Ten} (h : axOks ts) {k q : Nat} (hk : k < ts.length) (hq : q < ts[k].labels.length) (hok : (dimsTo ts k q).2 = true) :
    dimsTo ts k (q + 1) = if atT (dimsTo ts k q).1 ts[k].labels[q] ≠ 0 ∧ atT (dimsTo ts k q).1 ts[k].labels[q] ≠ dimAt ts[k] ts[k].labels[q] then ((dimsTo ts k q).1, false) else ((dimsTo ts k q).1.set ts[k].labels[q].toNat (dimAt ts[k] ts[k].labels[q]), true) := by
  have e : ts.getD k ⟨[], [], []⟩ = ts[k] := by simp [hk]
  have hax := h ts[k] (List.getElem_mem hk)
  have hl := tpairs_len hax
  have hx : (tpairs ts[k])[q]'(by omega) = (ts[k].labels[q], dimAt ts[k] ts[k].labels[q]) := by
    rw [dimAt_at hax hq (by have := hax.len; omega)]
    simp [tpairs]
  have e2 : pairsTo ts k (q + 1) = pairsTo ts k q ++ [(ts[k].labels[q], dimAt ts[k] ts[k].labels[q])] := by
    unfold pairsTo
    rw [e, take_ss (by omega), hx, List.append_assoc]
  unfold dimsTo at hok ⊢
  rw [e2, dimsGo_app, if_pos hok, dimsGo]
  simp only [dimsGo]
theorem dimsTo_fail {ts : List Ten} {k q : Nat} (hk : k < ts.length) (hok : (dimsTo ts k q).2 = false) : dimsR ts = dimsTo ts k q := by
  have e : ts.getD k ⟨[], [], []⟩ = ts[k] := by simp [hk]
  have e2 : pairsN ts = pairsTo ts k q ++ ((tpairs ts[k]).drop q ++ pairsN (ts.drop (k + 1))) := by
    unfold pairsTo
    rw [e, List.append_assoc, ← List.append_assoc (List.take q _), List.take_append_drop]
    have e3 : pairsN ts = pairsN (ts.take k) ++ pairsN (ts.drop k) := by unfold pairsN; rw [← List.flatMap_append, List.take_append_drop]
    have e4 : ts.drop k = ts[k] :: ts.drop (k + 1) := List.drop_eq_getElem_cons hk
    rw [e3, e4]
    unfold pairsN
    simp only [List.flatMap_cons]
  unfold dimsR dimsTo at *
  rw [e2, dimsGo_app, hok]
  simp
theorem dimsTo_all {ts : List Ten} {k : Nat} (hk : ts.length ≤ k) : dimsTo ts k 0 = dimsR ts := by
  unfold dimsTo pairsTo dimsR
  rw [List.take_of_length_le hk]
  simp
/-- What the table says while all is well. -/
theorem dimsTo_at {ts : List Ten} (h : axOks ts) {k q : Nat} (hk : k < ts.length) (hq : q ≤ ts[k].labels.length) :
    (∀ j, j < k → consT ts j) → (∀ x, 0 ≤ x ∧ x ≤ 99 → atT (dimsTo ts k 0).1 x = dimN (ts.take k) x) → (dimsTo ts k 0).2 = true →
      ((dimsTo ts k q).2 = true ↔ ∀ x ∈ ts[k].labels.take q, dimN (ts.take k) x = 0 ∨ dimN (ts.take k) x = dimAt ts[k] x) ∧
      ((dimsTo ts k q).2 = true → ∀ x, 0 ≤ x ∧ x ≤ 99 → atT (dimsTo ts k q).1 x = if x ∈ ts[k].labels.take q then dimAt ts[k] x else dimN (ts.take k) x) := by
  intro hc h0 h1
  have hax := h ts[k] (List.getElem_mem hk)
  induction q with
  | zero => exact ⟨⟨fun _ x hx => by simp at hx, fun _ => h1⟩, fun _ x hx => by rw [h0 x hx]; simp⟩
  | succ q ih =>
    obtain ⟨ih1, ih2⟩ := ih (by omega)
    have hq' : q < ts[k].labels.length := by omega
    have hlab : 0 ≤ ts[k].labels[q] ∧ ts[k].labels[q] ≤ 99 := by
      have := hax.2.2 q hq'
      unfold axAt at this
      rw [getD_of hq'] at this
      omega
    have hfr := hax.fresh hq'
    have htk : ∀ x, x ∈ ts[k].labels.take (q + 1) ↔ x ∈ ts[k].labels.take q ∨ x = ts[k].labels[q] := fun x => by rw [mem_take_succ _ _ _ hq', getD_of hq']
    cases hb : (dimsTo ts k q).2 with
    | false =>
      have e : dimsTo ts k (q + 1) = dimsTo ts k q := by
        have e0 : ts.getD k ⟨[], [], []⟩ = ts[k] := by simp [hk]
        have hl := tpairs_len hax
        unfold dimsTo at hb ⊢
        have e2 : pairsTo ts k (q + 1) = pairsTo ts k q ++ [(tpairs ts[k])[q]'(by omega)] := by
          unfold pairsTo
          rw [e0, take_ss (by omega), List.append_assoc]
        rw [e2, dimsGo_app, hb]
        simp
      rw [e, hb]
      refine ⟨⟨fun hf => (by cases hf), fun hf => ?_⟩, fun hf => (by cases hf)⟩
      have := ih1.2 fun x hx => hf x ((htk x).2 (.inl hx))
      rw [hb] at this
      cases this
    | true =>
      have hD := ih2 hb
      have hold := ih1.1 hb
      have hst := dimsTo_step h hk hq' hb
      have hat := hD _ hlab
      rw [if_neg hfr] at hat
      rw [hat] at hst
      have hpos := dimAt_bd hax (List.getElem_mem hq')
      by_cases hbad : dimN (ts.take k) ts[k].labels[q] ≠ 0 ∧ dimN (ts.take k) ts[k].labels[q] ≠ dimAt ts[k] ts[k].labels[q]
      · rw [if_pos hbad] at hst
        rw [hst]
        refine ⟨⟨fun hf => (by cases hf), fun hf => ?_⟩, fun hf => (by cases hf)⟩
        rcases hf _ ((htk _).2 (.inr rfl)) with e | e
        · exact absurd e hbad.1
        · exact absurd e hbad.2
      · rw [if_neg hbad] at hst
        rw [hst]
        refine ⟨⟨fun _ x hx => ?_, fun _ => rfl⟩, fun _ x hx => ?_⟩
        · rcases (htk x).1 hx with hx | rfl
          · exact hold x hx
          · by_cases e : dimN (ts.take k) ts[k].labels[q] = 0
            · exact .inl e
            · exact .inr (Classical.byContradiction fun e' => hbad ⟨e, e'⟩)
        · rw [atT_set (dimsTo_len ts k q) hlab hx, hD x hx]
          by_cases e : ts[k].labels[q] = x
          · subst e; rw [if_pos rfl, if_pos ((htk _).2 (.inr rfl))]
          · rw [if_neg e]
            by_cases hm : x ∈ ts[k].labels.take q
            · rw [if_pos hm, if_pos ((htk x).2 (.inl hm))]
            · rw [if_neg hm, if_neg (fun hx => ((htk x).1 hx).elim hm fun e' => e e'.symm)]
theorem dimsTo_ok {ts : List Ten} (h : axOks ts) : ∀ {k : Nat}, k ≤ ts.length → (((dimsTo ts k 0).2 = true ↔ ∀ j, j < k → consT ts j) ∧ ((dimsTo ts k 0).2 = true → ∀ x, 0 ≤ x ∧ x ≤ 99 → atT (dimsTo ts k 0).1 x = dimN (ts.take k) x))
  | 0, _ => by
    rw [dimsTo_zero]
    exact ⟨⟨fun _ j hj => absurd hj (Nat.not_lt_zero j), fun _ => rfl⟩, fun _ x hx => by rw [atT_rep]; simp [dimN]⟩
  | k + 1, hk => by
    obtain ⟨ih1, ih2⟩ := dimsTo_ok h (k := k) (by omega)
    have hk' : k < ts.length := by omega
    have hax := h ts[k] (List.getElem_mem hk')
    rw [← dimsTo_tensor h hk']
    cases hb : (dimsTo ts k 0).2 with
    | false =>
      have hf : (dimsTo ts k ts[k].labels.length).2 = false := by
        unfold dimsTo pairsTo at hb ⊢
        rw [List.take_zero, List.append_nil] at hb
        rw [dimsGo_app, hb]
        simpa using hb
      rw [hf]
      refine ⟨⟨fun e => (by cases e), fun e => ?_⟩, fun e => (by cases e)⟩
      have := ih1.2 fun j hj => e j (by omega)
      rw [hb] at this
      cases this
    | true =>
      obtain ⟨h1, h2⟩ := dimsTo_at h hk' (Nat.le_refl _) (ih1.1 hb) (ih2 hb) hb
      rw [List.take_length] at h1 h2
      refine ⟨h1.trans ⟨fun e j hj => ?_, fun e x hx => e k (by omega) x hk' hx⟩, fun e x hx => ?_⟩
      · by_cases ej : j = k
        · subst ej; exact fun x _ hx => e x hx
        · exact ih1.1 hb j (by omega)
      · rw [h2 e x hx, dimN_next h hk']
        have hcons := h1.1 e
        by_cases hm : x ∈ ts[k].labels
        · rw [if_pos hm, if_pos hm]
          rcases hcons x hm with e0 | e0
          · rw [if_pos e0]
          · rw [e0, if_neg]; have := dimAt_bd hax hm; omega
        · rw [if_neg hm, if_neg hm]
          split
          · rename_i e0; exact e0
          · rfl
theorem dimsR_ok {ts : List Ten} (h : axOks ts) : ((dimsR ts).2 = true ↔ consB ts) ∧ ((dimsR ts).2 = true → ∀ x, 0 ≤ x ∧ x ≤ 99 → atT (dimsR ts).1 x = dimN ts x) := by
  have := dimsTo_ok h (k := ts.length) (Nat.le_refl _)
  rw [dimsTo_all (Nat.le_refl _), List.take_length] at this
  exact this
theorem dimN_first {ts : List Ten} (h : axOks ts) {k : Nat} (hk : k < ts.length) {x : Int} (hno : ∀ t ∈ ts.take k, x ∉ t.labels) (hm : x ∈ ts[k].labels) : dimN ts x = dimAt ts[k] x := by
  have h0 : dimN (ts.take k) x = 0 := by
    generalize ts.take k = l at hno
    induction l with
    | nil => rfl
    | cons t l ih => rw [dimN, if_neg (hno t (by simp))]; exact ih fun t' ht' => hno t' (by simp [ht'])
  have e4 : ts.drop k = ts[k] :: ts.drop (k + 1) := List.drop_eq_getElem_cons hk
  have e : dimN (ts.take k ++ ts.drop k) x = dimAt ts[k] x := by rw [dimN_app _ _ _ (h.take k).ne, if_pos h0, e4, dimN, if_pos hm]
  rwa [List.take_append_drop] at e
theorem dimN_none : ∀ {ts : List Ten} {x : Int}, (∀ t ∈ ts, x ∉ t.labels) → dimN ts x = 0
  | [], _, _ => rfl
  | t :: l, x, h => by rw [dimN, if_neg (h t (by simp))]; exact dimN_none fun t' ht' => h t' (by simp [ht'])
theorem netOk_iff {N : Net} : netOk N = true ↔ ringOk N.rg = true ∧ N.ts.length ≤ 12 ∧ tenOks N.rg N.ts ∧ consB N.ts ∧ tsize N.os (N.os.map (dimN N.ts)) ≠ -1 := by
  simp only [netOk, Bool.and_eq_true, decide_eq_true_eq]
  exact ⟨fun ⟨⟨⟨⟨a, b⟩, c⟩, d⟩, e⟩ => ⟨a, b, c, d, e⟩, fun ⟨a, b, c, d, e⟩ => ⟨⟨⟨⟨a, b⟩, c⟩, d⟩, e⟩⟩
theorem netOk_no {N : Net} (h : ¬ (ringOk N.rg = true ∧ N.ts.length ≤ 12 ∧ tenOks N.rg N.ts ∧ consB N.ts ∧ tsize N.os (N.os.map (dimN N.ts)) ≠ -1)) : netOk N = false := by
  cases e : netOk N
  · rfl
  · exact absurd (netOk_iff.1 e) h
theorem tsize_open {N : Net} (k : Nat) (hk : k < N.os.length) (h : ¬ (0 ≤ N.os[k] ∧ N.os[k] ≤ 99 ∧ dimN N.ts N.os[k] ≠ 0)) (hax : axOks N.ts) : tsize N.os (N.os.map (dimN N.ts)) = -1 := by
  refine tsize_ax k hk fun e => h ?_
  unfold axAt at e
  rw [getD_of hk, getD_of (by simpa using hk)] at e
  simp only [List.getElem_map] at e
  exact ⟨e.1, e.2.1, by omega⟩
theorem netOk_ax {N : Net} (h : netOk N = true) : axOks N.ts := (netOk_iff.1 h).2.2.1.ax
end Go.Proofs.Ytjncdanegoileaa

/-
  Plain lists: the tensors that are there while an order is followed. No condition.
-/
namespace Go.Proofs.Ytjncdanegoileaa
open Plain
set_option linter.unusedSimpArgs false
set_option linter.unusedVariables false

structure Osd where
  all : List (List Int)
  gone : List Bool
namespace Osd
def alive (s : Osd) (i : Nat) : Bool := !(s.gone.getD i true)
def nums (s : Osd) : List Nat := (List.range s.all.length).filter s.alive
def lab (s : Osd) (i : Nat) : List Int := s.all.getD i []
def off (a b : Nat) (i : Nat) : Bool := i != a && i != b
def keep (s : Osd) (os : List Int) (a b : Nat) : List Int := os ++ (s.nums.filter (off a b)).flatMap s.lab
def res (s : Osd) (os : List Int) (a b : Nat) : List Int := (joinL (s.lab a) (s.lab b)).filter (has (s.keep os a b))
def step (s : Osd) (os : List Int) (a b : Nat) : Osd := ⟨s.all ++ [s.res os a b], (s.gone.set a true).set b true ++ [false]⟩
end Osd
def natI (l : List Nat) : List Int := l.map fun (i : Nat) => (i : Int)
theorem natI_mem {l : List Nat} {x : Int} : x ∈ natI l ↔ ∃ i : Nat, i ∈ l ∧ x = i := by
  simp only [natI, List.mem_map]
  exact ⟨fun ⟨i, h, e⟩ => ⟨i, h, e.symm⟩, fun ⟨i, h, e⟩ => ⟨i, h, e.symm⟩⟩
theorem natI_nodup {l : List Nat} (h : l.Nodup) : (natI l).Nodup := List.pairwise_map.2 (h.imp fun hne e => hne (Int.ofNat.inj e))
theorem natI_len (l : List Nat) : (natI l).length = l.length := by simp [natI]
theorem natI_get {l : List Nat} {k : Nat} (h : k < l.length) : (natI l)[k]'(by simpa [natI] using h) = (l[k] : Int) := by simp [natI]
def osInit (ts : List Ten) : Osd := ⟨ts.map Ten.labels, List.replicate ts.length false⟩
structure OsOk (s : Osd) (m : Nat) : Prop where
  gl : s.gone.length = s.all.length
  lab : ∀ l ∈ s.all, l.Nodup ∧ ∀ x ∈ l, 0 ≤ x ∧ x ≤ 99
  n : s.all.length = m
section
variable {s : Osd} {os : List Int} {a b m : Nat}
theorem OsOk.at (h : OsOk s m) (i : Nat) : (s.lab i).Nodup ∧ ∀ x ∈ s.lab i, 0 ≤ x ∧ x ≤ 99 := by
  unfold Osd.lab
  by_cases hi : i < s.all.length
  · rw [List.getD_eq_getElem?_getD, List.getElem?_eq_getElem hi]; exact h.lab _ (List.getElem_mem hi)
  · rw [List.getD_eq_getElem?_getD, List.getElem?_eq_none (by omega)]; simp
theorem OsOk.len (h : OsOk s m) (i : Nat) : (s.lab i).length ≤ 100 := nodup_len (h.at i).1 (h.at i).2
theorem OsOk.join (h : OsOk s m) (a b : Nat) : (joinL (s.lab a) (s.lab b)).Nodup ∧ (∀ x ∈ joinL (s.lab a) (s.lab b), 0 ≤ x ∧ x ≤ 99) ∧ (joinL (s.lab a) (s.lab b)).length ≤ 100 := by
  have h1 := joinL_nodup (h.at a).1 (h.at b).1
  have h2 : ∀ x ∈ joinL (s.lab a) (s.lab b), 0 ≤ x ∧ x ≤ 99 := fun x hx => (mem_joinL.1 hx).elim ((h.at a).2 x) ((h.at b).2 x)
  exact ⟨h1, h2, nodup_len h1 h2⟩
theorem OsOk.res (h : OsOk s m) (os : List Int) (a b : Nat) : (s.res os a b).Nodup ∧ ∀ x ∈ s.res os a b, 0 ≤ x ∧ x ≤ 99 :=
  ⟨(h.join a b).1.filter _, fun x hx => (h.join a b).2.1 x (List.mem_filter.1 hx).1⟩
theorem OsOk.step (h : OsOk s m) (os : List Int) (a b : Nat) : OsOk (s.step os a b) (m + 1) := by
  refine ⟨by simp [Osd.step, h.gl], fun l hl => ?_, by simp [Osd.step, h.n]⟩
  simp only [Osd.step, List.mem_append, List.mem_singleton] at hl
  rcases hl with hl | rfl
  · exact h.lab l hl
  · exact h.res os a b
theorem osInit_ok {ts : List Ten} (h : axOks ts) : OsOk (osInit ts) ts.length := by
  refine ⟨by simp [osInit], fun l hl => ?_, by simp [osInit]⟩
  simp only [osInit, List.mem_map] at hl
  obtain ⟨t, ht, rfl⟩ := hl
  refine ⟨axOk_nodup (h t ht), fun x hx => ?_⟩
  obtain ⟨k, hk, rfl⟩ := List.mem_iff_getElem.1 hx
  have := (h t ht).2.2 k hk
  unfold axAt at this
  rw [getD_of hk] at this
  omega
theorem nums_nodup (s : Osd) : s.nums.Nodup := List.nodup_range.filter _
theorem nums_mem {i : Nat} : i ∈ s.nums ↔ i < s.all.length ∧ s.gone.getD i true = false := by
  simp [Osd.nums, Osd.alive]
theorem nums_len (h : OsOk s m) : s.nums.length ≤ m := by
  have := List.length_filter_le s.alive (List.range s.all.length)
  rw [List.length_range] at this
  exact Nat.le_trans this (Nat.le_of_eq h.n)
theorem alive_step (h : OsOk s m) {i : Nat} (hi : i < m) : (s.step os a b).alive i = (Osd.off a b i && s.alive i) := by
  have hg := h.gl
  have hn := h.n
  have hi' : i < s.gone.length := by omega
  unfold Osd.alive Osd.step Osd.off
  simp only
  rw [List.getD_eq_getElem?_getD, List.getD_eq_getElem?_getD, List.getElem?_append_left (by simpa using hi'), List.getElem?_set, List.getElem?_set, List.getElem?_eq_getElem hi']
  by_cases e1 : b = i
  · subst e1; simp [hi']
  · have e1' : (i == b) = false := by simp; exact fun e => e1 e.symm
    rw [if_neg e1]
    by_cases e2 : a = i
    · subst e2; simp [hi']
    · have e2' : (i == a) = false := by simp; exact fun e => e2 e.symm
      rw [if_neg e2]
      simp [e1', e2', bne]
theorem nums_step (h : OsOk s m) : (s.step os a b).nums = s.nums.filter (Osd.off a b) ++ [m] := by
  have hn := h.n
  have e1 : (s.step os a b).all.length = m + 1 := by simp [Osd.step, hn]
  unfold Osd.nums
  rw [e1, hn, List.range_succ, List.filter_append, List.filter_filter]
  congr 1
  · exact List.filter_congr fun i hi => alive_step h (by simpa using hi)
  · have : (s.step os a b).alive m = true := by
      unfold Osd.alive Osd.step
      simp only
      rw [List.getD_eq_getElem?_getD, List.getElem?_append_right (by simp [h.gl, hn])]
      simp [h.gl, hn]
    simp [this]
theorem lab_step (h : OsOk s m) {i : Nat} (hi : i < m) : (s.step os a b).lab i = s.lab i := by
  unfold Osd.lab Osd.step
  simp only
  rw [List.getD_eq_getElem?_getD, List.getElem?_append_left (by rw [h.n]; exact hi), ← List.getD_eq_getElem?_getD]
theorem lab_step_new (h : OsOk s m) : (s.step os a b).lab m = s.res os a b := by
  unfold Osd.lab
  rw [List.getD_eq_getElem?_getD, Osd.step, List.getElem?_append_right (by rw [h.n]; exact Nat.le_refl _), h.n]
  simp
/-- Whether a label is kept, after the first q of the tensors that are there. -/
def keptQ (s : Osd) (os : List Int) (a b : Nat) (l : Int) (q : Nat) : Bool := has os l || (s.nums.take q).any fun i => Osd.off a b i && has (s.lab i) l
theorem keptQ_zero {l : Int} : keptQ s os a b l 0 = has os l := by simp [keptQ]
theorem keptQ_yes {l : Int} {q : Nat} (hq : q < s.nums.length) (h : (Osd.off a b s.nums[q] && has (s.lab s.nums[q]) l) = true) : keptQ s os a b l (q + 1) = true := by
  rw [keptQ, take_ss hq, List.any_append]; simp [h]
theorem keptQ_no {l : Int} {q : Nat} (hq : q < s.nums.length) (h : (Osd.off a b s.nums[q] && has (s.lab s.nums[q]) l) = false) : keptQ s os a b l (q + 1) = keptQ s os a b l q := by
  rw [keptQ, take_ss hq, List.any_append]; simp [h, keptQ]
theorem keptQ_all {l : Int} {q : Nat} (hq : s.nums.length ≤ q) : keptQ s os a b l q = has (s.keep os a b) l := by
  rw [keptQ, List.take_of_length_le hq, Bool.eq_iff_iff, Bool.or_eq_true, has_true, has_true, Osd.keep, List.mem_append, List.any_eq_true]
  refine or_congr Iff.rfl ?_
  simp only [List.mem_flatMap, List.mem_filter, Bool.and_eq_true, has_true]
  exact ⟨fun ⟨i, h1, h2, h3⟩ => ⟨i, ⟨h1, h2⟩, h3⟩, fun ⟨i, ⟨h1, h2⟩, h3⟩ => ⟨i, h1, h2, h3⟩⟩
theorem off_place {l : List Nat} (hn : l.Nodup) {i j k : Nat} (hi : i < l.length) (hj : j < l.length) (hk : k < l.length) : Osd.off l[i] l[j] l[k] = (k != i && k != j) := by
  have e : ∀ u (hu : u < l.length), (l[k] != l[u]) = (k != u) := fun u hu => by
    by_cases e : k = u
    · subst e; simp
    · have : l[k] ≠ l[u] := fun e2 => e ((List.getElem_inj hn).1 e2)
      show (!(l[k] == l[u])) = (!(k == u))
      rw [beq_eq_false_iff_ne.2 this, beq_eq_false_iff_ne.2 e]
  unfold Osd.off
  rw [e i hi, e j hj]
/-! ### A valid order -/
def followB (s : Osd) (a b : Int) : Bool := decide (a ∈ natI s.nums ∧ b ∈ natI s.nums ∧ a < b)
def ordTo (os F : List Int) (s : Osd) : Nat → Osd × Bool
  | 0 => (s, true)
  | k + 1 => if (ordTo os F s k).2 && followB (ordTo os F s k).1 (F.getD (k * 2) 0) (F.getD (k * 2 + 1) 0) then ((ordTo os F s k).1.step os (F.getD (k * 2) 0).toNat (F.getD (k * 2 + 1) 0).toNat, true) else ((ordTo os F s k).1, false)
theorem ordTo_yes {F : List Int} {k : Nat} (h : (ordTo os F s k).2 = true) (h2 : followB (ordTo os F s k).1 (F.getD (k * 2) 0) (F.getD (k * 2 + 1) 0) = true) :
    ordTo os F s (k + 1) = ((ordTo os F s k).1.step os (F.getD (k * 2) 0).toNat (F.getD (k * 2 + 1) 0).toNat, true) := by rw [ordTo, h, h2]; rfl
theorem ordTo_no {F : List Int} {k : Nat} (h : (ordTo os F s k).2 = true) (h2 : followB (ordTo os F s k).1 (F.getD (k * 2) 0) (F.getD (k * 2 + 1) 0) = false) : (ordTo os F s (k + 1)).2 = false := by rw [ordTo, h, h2]; rfl
theorem ordTo_mono {F : List Int} {k : Nat} (h : (ordTo os F s k).2 = false) : ∀ d, (ordTo os F s (k + d)).2 = false
  | 0 => h
  | d + 1 => by rw [← Nat.add_assoc, ordTo, ordTo_mono h d]; rfl
theorem ordTo_down {F : List Int} {n : Nat} (h : (ordTo os F s n).2 = true) {k : Nat} (hk : k ≤ n) : (ordTo os F s k).2 = true := by
  cases e : (ordTo os F s k).2
  · obtain ⟨d, rfl⟩ : ∃ d, n = k + d := ⟨n - k, by omega⟩
    rw [ordTo_mono e d] at h; cases h
  · rfl
theorem ordTo_fol {F : List Int} {n : Nat} (h : (ordTo os F s n).2 = true) {k : Nat} (hk : k < n) : followB (ordTo os F s k).1 (F.getD (k * 2) 0) (F.getD (k * 2 + 1) 0) = true := by
  cases e : followB (ordTo os F s k).1 (F.getD (k * 2) 0) (F.getD (k * 2 + 1) 0)
  · have := ordTo_no (ordTo_down h (Nat.le_of_lt hk)) e
    rw [ordTo_down h hk] at this; cases this
  · rfl
theorem ordTo_ok {F : List Int} (h : OsOk s m) : ∀ k, (ordTo os F s k).2 = true → OsOk (ordTo os F s k).1 (m + k)
  | 0, _ => h
  | k + 1, hk => by
    have h1 := ordTo_down hk (Nat.le_succ k)
    have h2 := ordTo_fol hk (Nat.lt_succ_self k)
    rw [ordTo_yes h1 h2]
    exact (ordTo_ok h k h1).step os _ _
theorem followB_nat {x y : Int} (h : followB s x y = true) : ∃ a b : Nat, x = a ∧ y = b ∧ a ∈ s.nums ∧ b ∈ s.nums ∧ a < b := by
  obtain ⟨h1, h2, h3⟩ := of_decide_eq_true h
  obtain ⟨a, ha, rfl⟩ := natI_mem.1 h1
  obtain ⟨b, hb, rfl⟩ := natI_mem.1 h2
  exact ⟨a, b, rfl, rfl, ha, hb, by omega⟩
noncomputable def orderOk (N : Net) (n : Nat) (F : List Int) : Bool := netOk N && decide (n = N.ts.length - 1) && (ordTo N.os F (osInit N.ts) n).2
/-- What is known of a valid order, at step k. -/
theorem orderOk_iff {N : Net} {n : Nat} {F : List Int} : orderOk N n F = true ↔ netOk N = true ∧ n = N.ts.length - 1 ∧ (ordTo N.os F (osInit N.ts) n).2 = true := by
  simp only [orderOk, Bool.and_eq_true, decide_eq_true_eq, and_assoc]
/-- The state before step k of an order. -/
def ordS (N : Net) (F : List Int) (k : Nat) : Osd := (ordTo N.os F (osInit N.ts) k).1
end
end Go.Proofs.Ytjncdanegoileaa

/-
  The compiled code of functions of the seat (written by mkcode.py). No condition.
-/
namespace Go.Proofs.Ytjncdanegoileaa
open Go.Lift

end Go.Proofs.Ytjncdanegoileaa

/-
  The compiled code of functions of the seat (written by mkcode.py). No condition.
-/
namespace Go.Proofs.Ytjncdanegoileaa
open Go.Lift

end Go.Proofs.Ytjncdanegoileaa

/-
  The compiled code of functions of the seat (written by mkcode.py). No condition.
-/
namespace Go.Proofs.Ytjncdanegoileaa
open Go.Lift

def C_laws_szNetwork : Fun := ⟨2, 18,
 .seq (
 .reg [⟨some 2, none, .box (.t 0)⟩,
 ⟨some 4, none, .mv (.c (.d (.int 0)))⟩]) (
 .seq (
 .reg [⟨some 5, none, .fld 3 (.t 2)⟩,
 ⟨some 6, none, .ld (.t 5)⟩,
 ⟨some 7, none, .mv (.t 1)⟩,
 ⟨some 8, none, .call 48 [(.t 6), (.t 7)]⟩,
 ⟨some 1, none, .mv (.t 8)⟩]) (
 .seq (
 .seq (
 .reg [⟨some 9, none, .mv (.t 1)⟩,
 ⟨some 10, none, .bin .lss (.t 9) (.c (.d (.int 0)))⟩]) (
 .cond (.t 10) (
 .seq (
 .reg [⟨some 4, none, .mv (.c (.d (.int (-1))))⟩]) (
 .ret)) (
 .skip))) (
 .seq (
 .reg [⟨some 11, none, .fld 4 (.t 2)⟩,
 ⟨some 12, none, .ld (.t 11)⟩,
 ⟨some 13, none, .mv (.t 1)⟩,
 ⟨some 14, none, .call 49 [(.t 12), (.t 13)]⟩,
 ⟨some 1, none, .mv (.t 14)⟩]) (
 .seq (
 .seq (
 .reg [⟨some 15, none, .mv (.t 1)⟩,
 ⟨some 16, none, .bin .lss (.t 15) (.c (.d (.int 0)))⟩]) (
 .cond (.t 16) (
 .seq (
 .reg [⟨some 4, none, .mv (.c (.d (.int (-1))))⟩]) (
 .ret)) (
 .skip))) (
 .seq (
 .reg [⟨some 17, none, .mv (.t 1)⟩,
 ⟨some 4, none, .mv (.t 17)⟩]) (
 .ret)))))),
 [.t 4]⟩

theorem k_laws_szNetwork : cFun Try.prog Try.f18 = some C_laws_szNetwork.erase := by kernel_rfl

def L0_spec_NetworkOk : C :=
 .seq (
 .reg [⟨some 35, none, .bin .lss (.t 34) (.t 33)⟩]) (
 .seq (
 .cond (.t 35) (
 .skip) (
 .exit 2)) (
 .seq (
 .block 3 (
 .seq (
 .reg [⟨some 36, none, .mv (.t 34)⟩,
 ⟨some 37, none, .idx 1 (.t 32) (.t 34)⟩,
 ⟨some 38, none, .ld (.t 37)⟩,
 ⟨some 5, none, .mv (.t 36)⟩,
 ⟨some 6, none, .mv (.t 38)⟩]) (
 .seq (
 .reg [⟨some 39, none, .fld 3 (.t 1)⟩,
 ⟨some 40, none, .ld (.t 39)⟩,
 ⟨some 41, none, .mv (.t 3)⟩,
 ⟨some 42, none, .slc 3 (.t 40) none (some (.t 41))⟩,
 ⟨some 43, none, .mv (.t 6)⟩,
 ⟨some 44, none, .call 106 [(.t 42), (.t 43)]⟩,
 ⟨some 7, none, .mv (.t 44)⟩]) (
 .seq (
 .reg [⟨some 45, none, .mv (.t 7)⟩,
 ⟨some 46, none, .bin .gtr (.t 45) (.c (.d (.int 0)))⟩,
 ⟨some 47, none, .mv (.t 46)⟩,
 ⟨some 48, some (47, true), .mv (.t 7)⟩,
 ⟨some 49, some (47, true), .fld 1 (.t 4)⟩,
 ⟨some 50, some (47, true), .ld (.t 49)⟩,
 ⟨some 51, some (47, true), .mv (.t 5)⟩,
 ⟨some 52, some (47, true), .idx 1 (.t 50) (.t 51)⟩,
 ⟨some 53, some (47, true), .ld (.t 52)⟩,
 ⟨some 54, some (47, true), .bin .neq (.t 48) (.t 53)⟩,
 ⟨some 55, none, .pick (.t 47) (.t 54) (.c (.d (.bool false)))⟩]) (
 .cond (.t 55) (
 .seq (
 .reg [⟨some 2, none, .mv (.c (.d (.bool false)))⟩]) (
 .ret)) (
 .skip)))))) (
 .reg [⟨some 56, none, .bin .add (.t 34) (.c (.d (.int 1)))⟩,
 ⟨some 34, none, .mv (.t 56)⟩])))

def L1_spec_NetworkOk : C :=
 .seq (
 .reg [⟨some 22, none, .bin .lss (.t 21) (.t 20)⟩]) (
 .seq (
 .cond (.t 22) (
 .skip) (
 .exit 0)) (
 .seq (
 .block 1 (
 .seq (
 .reg [⟨some 23, none, .mv (.t 21)⟩,
 ⟨some 24, none, .idx 3 (.t 19) (.t 21)⟩,
 ⟨some 25, none, .ldn 3 (.t 24)⟩,
 ⟨some 4, none, .zer [.nil, .nil, .nil]⟩,
 ⟨some 3, none, .mv (.t 23)⟩,
 ⟨none, none, .st 3 (.t 4) (.t 25)⟩]) (
 .seq (
 .seq (
 .reg [⟨some 26, none, .fld 0 (.t 1)⟩,
 ⟨some 27, none, .ldn 3 (.t 26)⟩,
 ⟨some 28, none, .ldn 3 (.t 4)⟩,
 ⟨some 29, none, .call 118 [(.t 27), (.t 28)]⟩,
 ⟨some 30, none, .not (.t 29)⟩]) (
 .cond (.t 30) (
 .seq (
 .reg [⟨some 2, none, .mv (.c (.d (.bool false)))⟩]) (
 .ret)) (
 .skip))) (
 .seq (
 .reg [⟨some 31, none, .fld 0 (.t 4)⟩,
 ⟨some 32, none, .ld (.t 31)⟩,
 ⟨some 33, none, .len (.t 32)⟩,
 ⟨some 34, none, .mv (.c (.d (.int 0)))⟩]) (
 .block 2 (
 .loop L0_spec_NetworkOk)))))) (
 .reg [⟨some 57, none, .bin .add (.t 21) (.c (.d (.int 1)))⟩,
 ⟨some 21, none, .mv (.t 57)⟩])))

def C_spec_NetworkOk : Fun := ⟨1, 68,
 .seq (
 .reg [⟨some 1, none, .box (.t 0)⟩,
 ⟨some 2, none, .mv (.c (.d (.bool false)))⟩]) (
 .seq (
 .seq (
 .reg [⟨some 8, none, .fld 0 (.t 1)⟩,
 ⟨some 9, none, .ldn 3 (.t 8)⟩,
 ⟨some 10, none, .call 117 [(.t 9)]⟩,
 ⟨some 11, none, .not (.t 10)⟩,
 ⟨some 12, none, .mv (.t 11)⟩,
 ⟨some 13, some (12, false), .fld 3 (.t 1)⟩,
 ⟨some 14, some (12, false), .ld (.t 13)⟩,
 ⟨some 15, some (12, false), .len (.t 14)⟩,
 ⟨some 16, some (12, false), .bin .gtr (.t 15) (.c (.d (.int 12)))⟩,
 ⟨some 17, none, .pick (.t 12) (.c (.d (.bool true))) (.t 16)⟩]) (
 .cond (.t 17) (
 .seq (
 .reg [⟨some 2, none, .mv (.c (.d (.bool false)))⟩]) (
 .ret)) (
 .skip))) (
 .seq (
 .seq (
 .reg [⟨some 18, none, .fld 3 (.t 1)⟩,
 ⟨some 19, none, .ld (.t 18)⟩,
 ⟨some 20, none, .len (.t 19)⟩,
 ⟨some 21, none, .mv (.c (.d (.int 0)))⟩]) (
 .block 0 (
 .loop L1_spec_NetworkOk))) (
 .seq (
 .draw [⟨some 58, none, .fld 4 (.t 1)⟩,
 ⟨some 59, none, .ld (.t 58)⟩,
 ⟨some 60, none, .fld 3 (.t 1)⟩,
 ⟨some 61, none, .ld (.t 60)⟩,
 ⟨some 62, none, .fld 4 (.t 1)⟩,
 ⟨some 63, none, .ld (.t 62)⟩,
 ⟨some 64, none, .call 120 [(.t 61), (.t 63)]⟩]
 [⟨some 65, none, .agg [.nil, .nil, .nil] [(0, 1, (.t 59)), (1, 1, (.t 64))]⟩,
 ⟨some 66, none, .call 119 [(.t 65)]⟩,
 ⟨some 67, none, .bin .geq (.t 66) (.c (.d (.int 0)))⟩,
 ⟨some 2, none, .mv (.t 67)⟩]) (
 .ret)))),
 [.t 2]⟩

theorem k_spec_NetworkOk : cFun Try.prog Try.f69 = some C_spec_NetworkOk.erase := by kernel_rfl

def C_laws_toNetwork : Fun := ⟨1, 17,
 .seq (
 .reg [⟨some 1, none, .box (.t 0)⟩,
 ⟨some 2, none, .zer [.d (.int 0), .d (.int 0), .d (.int 0), .nil, .nil]⟩]) (
 .seq (
 .reg [⟨some 3, none, .zer [.d (.int 0), .d (.int 0), .d (.int 0), .nil, .nil]⟩]) (
 .seq (
 .reg [⟨some 4, none, .fld 0 (.t 1)⟩,
 ⟨some 5, none, .ldn 3 (.t 4)⟩,
 ⟨some 6, none, .call 53 [(.t 5)]⟩,
 ⟨some 7, none, .fld 0 (.t 3)⟩,
 ⟨none, none, .st 3 (.t 7) (.t 6)⟩]) (
 .seq (
 .reg [⟨some 8, none, .fld 3 (.t 1)⟩,
 ⟨some 9, none, .ld (.t 8)⟩,
 ⟨some 10, none, .call 54 [(.t 9)]⟩,
 ⟨some 11, none, .fld 3 (.t 3)⟩,
 ⟨none, none, .st 1 (.t 11) (.t 10)⟩]) (
 .seq (
 .reg [⟨some 12, none, .fld 4 (.t 1)⟩,
 ⟨some 13, none, .ld (.t 12)⟩,
 ⟨some 14, none, .call 55 [(.t 13)]⟩,
 ⟨some 15, none, .fld 4 (.t 3)⟩,
 ⟨none, none, .st 1 (.t 15) (.t 14)⟩]) (
 .seq (
 .reg [⟨some 16, none, .ldn 5 (.t 3)⟩,
 ⟨none, none, .st 5 (.t 2) (.t 16)⟩]) (
 .ret)))))),
 [.cell 2 5]⟩

theorem k_laws_toNetwork : cFun Try.prog Try.f20 = some C_laws_toNetwork.erase := by kernel_rfl

def L0_impl_NetworkOk : C :=
 .seq (
 .reg [⟨some 50, none, .bin .lss (.t 49) (.t 48)⟩]) (
 .seq (
 .cond (.t 50) (
 .skip) (
 .exit 2)) (
 .seq (
 .block 3 (
 .seq (
 .reg [⟨some 51, none, .idx 1 (.t 47) (.t 49)⟩,
 ⟨some 52, none, .ld (.t 51)⟩,
 ⟨some 8, none, .mv (.t 52)⟩]) (
 .seq (
 .reg [⟨some 53, none, .mv (.t 8)⟩,
 ⟨some 54, none, .bin .lss (.t 53) (.c (.d (.int 0)))⟩,
 ⟨some 55, none, .mv (.t 54)⟩,
 ⟨some 56, some (55, false), .mv (.t 8)⟩,
 ⟨some 57, some (55, false), .bin .gtr (.t 56) (.c (.d (.int 99)))⟩,
 ⟨some 58, none, .pick (.t 55) (.c (.d (.bool true))) (.t 57)⟩,
 ⟨some 59, none, .mv (.t 58)⟩,
 ⟨some 60, some (59, false), .mv (.t 8)⟩,
 ⟨some 61, some (59, false), .aix 1 100 (.t 5) (.t 60)⟩,
 ⟨some 62, some (59, false), .ld (.t 61)⟩,
 ⟨some 63, some (59, false), .bin .eql (.t 62) (.c (.d (.int 0)))⟩,
 ⟨some 64, none, .pick (.t 59) (.c (.d (.bool true))) (.t 63)⟩]) (
 .cond (.t 64) (
 .seq (
 .reg [⟨some 2, none, .mv (.c (.d (.bool false)))⟩]) (
 .ret)) (
 .skip))))) (
 .reg [⟨some 65, none, .bin .add (.t 49) (.c (.d (.int 1)))⟩,
 ⟨some 49, none, .mv (.t 65)⟩])))

def L1_impl_NetworkOk : C :=
 .seq (
 .reg [⟨some 29, none, .bin .lss (.t 28) (.t 27)⟩]) (
 .seq (
 .cond (.t 29) (
 .skip) (
 .exit 0)) (
 .seq (
 .block 1 (
 .seq (
 .reg [⟨some 30, none, .idx 3 (.t 26) (.t 28)⟩,
 ⟨some 31, none, .ldn 3 (.t 30)⟩,
 ⟨some 4, none, .zer [.nil, .nil, .nil]⟩,
 ⟨none, none, .st 3 (.t 4) (.t 31)⟩]) (
 .seq (
 .reg [⟨some 32, none, .fld 0 (.t 1)⟩,
 ⟨some 33, none, .ldn 3 (.t 32)⟩,
 ⟨some 34, none, .ldn 3 (.t 4)⟩,
 ⟨some 35, none, .call 110 [(.t 33), (.t 34)]⟩,
 ⟨some 36, none, .not (.t 35)⟩]) (
 .cond (.t 36) (
 .seq (
 .reg [⟨some 2, none, .mv (.c (.d (.bool false)))⟩]) (
 .ret)) (
 .skip))))) (
 .reg [⟨some 37, none, .bin .add (.t 28) (.c (.d (.int 1)))⟩,
 ⟨some 28, none, .mv (.t 37)⟩])))

def C_impl_NetworkOk : Fun := ⟨1, 72,
 .seq (
 .reg [⟨some 1, none, .box (.t 0)⟩,
 ⟨some 2, none, .mv (.c (.d (.bool false)))⟩]) (
 .seq (
 .seq (
 .reg [⟨some 9, none, .fld 0 (.t 1)⟩,
 ⟨some 10, none, .ldn 3 (.t 9)⟩,
 ⟨some 11, none, .call 109 [(.t 10)]⟩,
 ⟨some 12, none, .not (.t 11)⟩,
 ⟨some 13, none, .mv (.t 12)⟩,
 ⟨some 14, some (13, false), .fld 3 (.t 1)⟩,
 ⟨some 15, some (13, false), .ld (.t 14)⟩,
 ⟨some 16, some (13, false), .len (.t 15)⟩,
 ⟨some 17, some (13, false), .bin .gtr (.t 16) (.c (.d (.int 12)))⟩,
 ⟨some 18, none, .pick (.t 13) (.c (.d (.bool true))) (.t 17)⟩,
 ⟨some 19, none, .mv (.t 18)⟩,
 ⟨some 20, some (19, false), .fld 4 (.t 1)⟩,
 ⟨some 21, some (19, false), .ld (.t 20)⟩,
 ⟨some 22, some (19, false), .len (.t 21)⟩,
 ⟨some 23, some (19, false), .bin .gtr (.t 22) (.c (.d (.int 12)))⟩,
 ⟨some 24, none, .pick (.t 19) (.c (.d (.bool true))) (.t 23)⟩]) (
 .cond (.t 24) (
 .seq (
 .reg [⟨some 2, none, .mv (.c (.d (.bool false)))⟩]) (
 .ret)) (
 .skip))) (
 .seq (
 .seq (
 .reg [⟨some 25, none, .fld 3 (.t 1)⟩,
 ⟨some 26, none, .ld (.t 25)⟩,
 ⟨some 27, none, .len (.t 26)⟩,
 ⟨some 28, none, .mv (.c (.d (.int 0)))⟩]) (
 .block 0 (
 .loop L1_impl_NetworkOk))) (
 .seq (
 .reg [⟨some 39, none, .fld 3 (.t 1)⟩,
 ⟨some 40, none, .ld (.t 39)⟩,
 ⟨some 41, none, .call 91 [(.t 40)]⟩,
 ⟨some 38, none, .mv (.t 41)⟩,
 ⟨some 42, none, .ext 0 (.t 38)⟩,
 ⟨some 43, none, .ext 1 (.t 38)⟩,
 ⟨some 5, none, .zer (reps 100 (.d (.int 0)))⟩,
 ⟨none, none, .st 100 (.t 5) (.t 42)⟩,
 ⟨some 6, none, .mv (.t 43)⟩]) (
 .seq (
 .seq (
 .reg [⟨some 44, none, .mv (.t 6)⟩,
 ⟨some 45, none, .not (.t 44)⟩]) (
 .cond (.t 45) (
 .seq (
 .reg [⟨some 2, none, .mv (.c (.d (.bool false)))⟩]) (
 .ret)) (
 .skip))) (
 .seq (
 .seq (
 .reg [⟨some 46, none, .fld 4 (.t 1)⟩,
 ⟨some 47, none, .ld (.t 46)⟩,
 ⟨some 48, none, .len (.t 47)⟩,
 ⟨some 49, none, .mv (.c (.d (.int 0)))⟩]) (
 .block 2 (
 .loop L0_impl_NetworkOk))) (
 .seq (
 .reg [⟨some 66, none, .ldn 100 (.t 5)⟩,
 ⟨some 67, none, .fld 4 (.t 1)⟩,
 ⟨some 68, none, .ld (.t 67)⟩,
 ⟨some 69, none, .call 93 [(.t 66), (.t 68)]⟩,
 ⟨some 70, none, .call 111 [(.t 69)]⟩,
 ⟨some 71, none, .bin .neq (.t 70) (.c (.d (.int (-1))))⟩,
 ⟨some 2, none, .mv (.t 71)⟩]) (
 .ret))))))),
 [.t 2]⟩

theorem k_impl_NetworkOk : cFun Try.prog Try.f56 = some C_impl_NetworkOk.erase := by kernel_rfl

def C_laws_eqNetwork : Fun := ⟨2, 23,
 .seq (
 .reg [⟨some 2, none, .box (.t 0)⟩,
 ⟨some 3, none, .box (.t 1)⟩,
 ⟨some 4, none, .mv (.c (.d (.bool false)))⟩]) (
 .seq (
 .seq (
 .reg [⟨some 5, none, .fld 0 (.t 2)⟩,
 ⟨some 6, none, .ldn 3 (.t 5)⟩,
 ⟨some 7, none, .fld 0 (.t 3)⟩,
 ⟨some 8, none, .ldn 3 (.t 7)⟩,
 ⟨some 9, none, .call 62 [(.t 6), (.t 8)]⟩,
 ⟨some 10, none, .not (.t 9)⟩]) (
 .cond (.t 10) (
 .seq (
 .reg [⟨some 4, none, .mv (.c (.d (.bool false)))⟩]) (
 .ret)) (
 .skip))) (
 .seq (
 .seq (
 .reg [⟨some 11, none, .fld 3 (.t 2)⟩,
 ⟨some 12, none, .ld (.t 11)⟩,
 ⟨some 13, none, .fld 3 (.t 3)⟩,
 ⟨some 14, none, .ld (.t 13)⟩,
 ⟨some 15, none, .call 63 [(.t 12), (.t 14)]⟩,
 ⟨some 16, none, .not (.t 15)⟩]) (
 .cond (.t 16) (
 .seq (
 .reg [⟨some 4, none, .mv (.c (.d (.bool false)))⟩]) (
 .ret)) (
 .skip))) (
 .seq (
 .seq (
 .reg [⟨some 17, none, .fld 4 (.t 2)⟩,
 ⟨some 18, none, .ld (.t 17)⟩,
 ⟨some 19, none, .fld 4 (.t 3)⟩,
 ⟨some 20, none, .ld (.t 19)⟩,
 ⟨some 21, none, .call 64 [(.t 18), (.t 20)]⟩,
 ⟨some 22, none, .not (.t 21)⟩]) (
 .cond (.t 22) (
 .seq (
 .reg [⟨some 4, none, .mv (.c (.d (.bool false)))⟩]) (
 .ret)) (
 .skip))) (
 .seq (
 .reg [⟨some 4, none, .mv (.c (.d (.bool true)))⟩]) (
 .ret))))),
 [.t 4]⟩

theorem k_laws_eqNetwork : cFun Try.prog Try.f22 = some C_laws_eqNetwork.erase := by kernel_rfl

def L0_laws_szTensorS : C :=
 .seq (
 .seq (
 .reg [⟨some 12, none, .mv (.t 5)⟩,
 ⟨some 13, none, .mv (.t 0)⟩,
 ⟨some 14, none, .len (.t 13)⟩,
 ⟨some 15, none, .bin .lss (.t 12) (.t 14)⟩]) (
 .cond (.t 15) (
 .skip) (
 .exit 0))) (
 .seq (
 .block 1 (
 .seq (
 .reg [⟨some 18, none, .mv (.t 0)⟩,
 ⟨some 19, none, .mv (.t 5)⟩,
 ⟨some 20, none, .idx 3 (.t 18) (.t 19)⟩,
 ⟨some 21, none, .ldn 3 (.t 20)⟩,
 ⟨some 22, none, .mv (.t 1)⟩,
 ⟨some 23, none, .call 105 [(.t 21), (.t 22)]⟩,
 ⟨some 1, none, .mv (.t 23)⟩]) (
 .seq (
 .reg [⟨some 24, none, .mv (.t 1)⟩,
 ⟨some 25, none, .bin .lss (.t 24) (.c (.d (.int 0)))⟩]) (
 .cond (.t 25) (
 .seq (
 .reg [⟨some 4, none, .mv (.c (.d (.int (-1))))⟩]) (
 .ret)) (
 .skip))))) (
 .reg [⟨some 16, none, .mv (.t 5)⟩,
 ⟨some 17, none, .bin .add (.t 16) (.c (.d (.int 1)))⟩,
 ⟨some 5, none, .mv (.t 17)⟩]))

def C_laws_szTensorS : Fun := ⟨2, 27,
 .seq (
 .reg [⟨some 4, none, .mv (.c (.d (.int 0)))⟩]) (
 .seq (
 .reg [⟨some 6, none, .mv (.t 1)⟩,
 ⟨some 7, none, .mv (.t 0)⟩,
 ⟨some 8, none, .len (.t 7)⟩,
 ⟨some 9, none, .bin .sub (.t 6) (.t 8)⟩,
 ⟨some 1, none, .mv (.t 9)⟩]) (
 .seq (
 .seq (
 .reg [⟨some 10, none, .mv (.t 1)⟩,
 ⟨some 11, none, .bin .lss (.t 10) (.c (.d (.int 0)))⟩]) (
 .cond (.t 11) (
 .seq (
 .reg [⟨some 4, none, .mv (.c (.d (.int (-1))))⟩]) (
 .ret)) (
 .skip))) (
 .seq (
 .seq (
 .reg [⟨some 5, none, .mv (.c (.d (.int 0)))⟩]) (
 .block 0 (
 .loop L0_laws_szTensorS))) (
 .seq (
 .reg [⟨some 26, none, .mv (.t 1)⟩,
 ⟨some 4, none, .mv (.t 26)⟩]) (
 .ret))))),
 [.t 4]⟩

theorem k_laws_szTensorS : cFun Try.prog Try.f48 = some C_laws_szTensorS.erase := by kernel_rfl

def L0_spec_l12Dim : C :=
 .seq (
 .reg [⟨some 11, none, .bin .lss (.t 10) (.t 9)⟩]) (
 .seq (
 .cond (.t 11) (
 .skip) (
 .exit 0)) (
 .seq (
 .block 1 (
 .seq (
 .reg [⟨some 12, none, .idx 3 (.t 8) (.t 10)⟩,
 ⟨some 13, none, .ldn 3 (.t 12)⟩,
 ⟨some 6, none, .zer [.nil, .nil, .nil]⟩,
 ⟨none, none, .st 3 (.t 6) (.t 13)⟩]) (
 .seq (
 .reg [⟨some 14, none, .fld 0 (.t 6)⟩,
 ⟨some 15, none, .ld (.t 14)⟩,
 ⟨some 16, none, .mv (.t 1)⟩,
 ⟨some 17, none, .call 88 [(.t 15), (.t 16)]⟩,
 ⟨some 7, none, .mv (.t 17)⟩]) (
 .seq (
 .reg [⟨some 18, none, .mv (.t 7)⟩,
 ⟨some 19, none, .bin .geq (.t 18) (.c (.d (.int 0)))⟩]) (
 .cond (.t 19) (
 .seq (
 .reg [⟨some 20, none, .fld 1 (.t 6)⟩,
 ⟨some 21, none, .ld (.t 20)⟩,
 ⟨some 22, none, .mv (.t 7)⟩,
 ⟨some 23, none, .idx 1 (.t 21) (.t 22)⟩,
 ⟨some 24, none, .ld (.t 23)⟩,
 ⟨some 4, none, .mv (.t 24)⟩]) (
 .ret)) (
 .skip)))))) (
 .reg [⟨some 25, none, .bin .add (.t 10) (.c (.d (.int 1)))⟩,
 ⟨some 10, none, .mv (.t 25)⟩])))

def C_spec_l12Dim : Fun := ⟨2, 26,
 .seq (
 .reg [⟨some 4, none, .mv (.c (.d (.int 0)))⟩]) (
 .seq (
 .seq (
 .reg [⟨some 8, none, .mv (.t 0)⟩,
 ⟨some 9, none, .len (.t 8)⟩,
 ⟨some 10, none, .mv (.c (.d (.int 0)))⟩]) (
 .block 0 (
 .loop L0_spec_l12Dim))) (
 .seq (
 .reg [⟨some 4, none, .mv (.c (.d (.int 0)))⟩]) (
 .ret))),
 [.t 4]⟩

theorem k_spec_l12Dim : cFun Try.prog Try.f106 = some C_spec_l12Dim.erase := by kernel_rfl

def L0_spec_l12Dims : C :=
 .seq (
 .reg [⟨some 12, none, .bin .lss (.t 11) (.t 10)⟩]) (
 .seq (
 .cond (.t 12) (
 .skip) (
 .exit 0)) (
 .seq (
 .block 1 (
 .seq (
 .reg [⟨some 13, none, .idx 1 (.t 9) (.t 11)⟩,
 ⟨some 14, none, .ld (.t 13)⟩,
 ⟨some 7, none, .mv (.t 14)⟩]) (
 .reg [⟨some 15, none, .mv (.t 5)⟩,
 ⟨some 16, none, .mv (.t 0)⟩,
 ⟨some 17, none, .mv (.t 7)⟩,
 ⟨some 18, none, .call 106 [(.t 16), (.t 17)]⟩,
 ⟨some 19, none, .mksl 1 1 [.d (.int 0)] [(0, 1, (.t 18))]⟩,
 ⟨some 20, none, .app 1 8 [.d (.int 0)] (.t 15) (.t 19)⟩,
 ⟨some 5, none, .mv (.t 20)⟩]))) (
 .reg [⟨some 21, none, .bin .add (.t 11) (.c (.d (.int 1)))⟩,
 ⟨some 11, none, .mv (.t 21)⟩])))

def C_spec_l12Dims : Fun := ⟨2, 23,
 .seq (
 .reg [⟨some 4, none, .mv (.c (.nil))⟩]) (
 .seq (
 .reg [⟨some 8, none, .mksl 1 0 [.d (.int 0)] []⟩,
 ⟨some 5, none, .mv (.t 8)⟩]) (
 .seq (
 .seq (
 .reg [⟨some 9, none, .mv (.t 1)⟩,
 ⟨some 10, none, .len (.t 9)⟩,
 ⟨some 11, none, .mv (.c (.d (.int 0)))⟩]) (
 .block 0 (
 .loop L0_spec_l12Dims))) (
 .seq (
 .reg [⟨some 22, none, .mv (.t 5)⟩,
 ⟨some 4, none, .mv (.t 22)⟩]) (
 .ret)))),
 [.t 4]⟩

theorem k_spec_l12Dims : cFun Try.prog Try.f120 = some C_spec_l12Dims.erase := by kernel_rfl

def L0_laws_toTensorS : C :=
 .seq (
 .seq (
 .reg [⟨some 8, none, .mv (.t 4)⟩,
 ⟨some 9, none, .mv (.t 0)⟩,
 ⟨some 10, none, .len (.t 9)⟩,
 ⟨some 11, none, .bin .lss (.t 8) (.t 10)⟩]) (
 .cond (.t 11) (
 .skip) (
 .exit 0))) (
 .seq (
 .block 1 (
 .reg [⟨some 14, none, .mv (.t 3)⟩,
 ⟨some 15, none, .mv (.t 4)⟩,
 ⟨some 16, none, .mv (.t 0)⟩,
 ⟨some 17, none, .mv (.t 4)⟩,
 ⟨some 18, none, .idx 3 (.t 16) (.t 17)⟩,
 ⟨some 19, none, .ldn 3 (.t 18)⟩,
 ⟨some 20, none, .call 108 [(.t 19)]⟩,
 ⟨some 21, none, .idx 3 (.t 14) (.t 15)⟩,
 ⟨none, none, .st 3 (.t 21) (.t 20)⟩])) (
 .reg [⟨some 12, none, .mv (.t 4)⟩,
 ⟨some 13, none, .bin .add (.t 12) (.c (.d (.int 1)))⟩,
 ⟨some 4, none, .mv (.t 13)⟩]))

def C_laws_toTensorS : Fun := ⟨1, 23,
 .seq (
 .reg [⟨some 2, none, .mv (.c (.nil))⟩]) (
 .seq (
 .reg [⟨some 5, none, .mv (.t 0)⟩,
 ⟨some 6, none, .len (.t 5)⟩,
 ⟨some 7, none, .make 3 72 [.nil, .nil, .nil] (.t 6) (.t 6)⟩,
 ⟨some 3, none, .mv (.t 7)⟩]) (
 .seq (
 .seq (
 .reg [⟨some 4, none, .mv (.c (.d (.int 0)))⟩]) (
 .block 0 (
 .loop L0_laws_toTensorS))) (
 .seq (
 .reg [⟨some 22, none, .mv (.t 3)⟩,
 ⟨some 2, none, .mv (.t 22)⟩]) (
 .ret)))),
 [.t 2]⟩

theorem k_laws_toTensorS : cFun Try.prog Try.f54 = some C_laws_toTensorS.erase := by kernel_rfl

def L0_impl_dimsOf : C :=
 .seq (
 .reg [⟨some 19, none, .bin .lss (.t 18) (.t 17)⟩]) (
 .seq (
 .cond (.t 19) (
 .skip) (
 .exit 2)) (
 .seq (
 .block 3 (
 .seq (
 .reg [⟨some 20, none, .mv (.t 18)⟩,
 ⟨some 21, none, .idx 1 (.t 16) (.t 18)⟩,
 ⟨some 22, none, .ld (.t 21)⟩,
 ⟨some 7, none, .mv (.t 20)⟩,
 ⟨some 8, none, .mv (.t 22)⟩]) (
 .seq (
 .seq (
 .draw [⟨some 23, none, .mv (.t 8)⟩,
 ⟨some 24, none, .aix 1 100 (.t 4) (.t 23)⟩,
 ⟨some 25, none, .ld (.t 24)⟩,
 ⟨some 26, none, .bin .neq (.t 25) (.c (.d (.int 0)))⟩,
 ⟨some 27, none, .mv (.t 26)⟩,
 ⟨some 28, some (27, true), .mv (.t 8)⟩,
 ⟨some 29, some (27, true), .aix 1 100 (.t 4) (.t 28)⟩,
 ⟨some 30, some (27, true), .ld (.t 29)⟩,
 ⟨some 31, some (27, true), .fld 1 (.t 6)⟩,
 ⟨some 32, some (27, true), .ld (.t 31)⟩,
 ⟨some 33, some (27, true), .mv (.t 7)⟩,
 ⟨some 34, some (27, true), .idx 1 (.t 32) (.t 33)⟩,
 ⟨some 35, some (27, true), .ld (.t 34)⟩]
 [⟨some 36, some (27, true), .bin .neq (.t 30) (.t 35)⟩,
 ⟨some 37, none, .pick (.t 27) (.t 36) (.c (.d (.bool false)))⟩]) (
 .cond (.t 37) (
 .seq (
 .reg [⟨some 38, none, .ldn 100 (.t 4)⟩,
 ⟨none, none, .st 100 (.t 2) (.t 38)⟩,
 ⟨some 3, none, .mv (.c (.d (.bool false)))⟩]) (
 .ret)) (
 .skip))) (
 .reg [⟨some 39, none, .mv (.t 8)⟩,
 ⟨some 40, none, .fld 1 (.t 6)⟩,
 ⟨some 41, none, .ld (.t 40)⟩,
 ⟨some 42, none, .mv (.t 7)⟩,
 ⟨some 43, none, .idx 1 (.t 41) (.t 42)⟩,
 ⟨some 44, none, .ld (.t 43)⟩,
 ⟨some 45, none, .aix 1 100 (.t 4) (.t 39)⟩,
 ⟨none, none, .st 1 (.t 45) (.t 44)⟩])))) (
 .reg [⟨some 46, none, .bin .add (.t 18) (.c (.d (.int 1)))⟩,
 ⟨some 18, none, .mv (.t 46)⟩])))

def L1_impl_dimsOf : C :=
 .seq (
 .reg [⟨some 12, none, .bin .lss (.t 11) (.t 10)⟩]) (
 .seq (
 .cond (.t 12) (
 .skip) (
 .exit 0)) (
 .seq (
 .block 1 (
 .seq (
 .reg [⟨some 13, none, .idx 3 (.t 9) (.t 11)⟩,
 ⟨some 14, none, .ldn 3 (.t 13)⟩,
 ⟨some 6, none, .zer [.nil, .nil, .nil]⟩,
 ⟨none, none, .st 3 (.t 6) (.t 14)⟩]) (
 .seq (
 .reg [⟨some 15, none, .fld 0 (.t 6)⟩,
 ⟨some 16, none, .ld (.t 15)⟩,
 ⟨some 17, none, .len (.t 16)⟩,
 ⟨some 18, none, .mv (.c (.d (.int 0)))⟩]) (
 .block 2 (
 .loop L0_impl_dimsOf))))) (
 .reg [⟨some 47, none, .bin .add (.t 11) (.c (.d (.int 1)))⟩,
 ⟨some 11, none, .mv (.t 47)⟩])))

def C_impl_dimsOf : Fun := ⟨1, 49,
 .seq (
 .reg [⟨some 2, none, .zer (reps 100 (.d (.int 0)))⟩,
 ⟨some 3, none, .mv (.c (.d (.bool false)))⟩]) (
 .seq (
 .reg [⟨some 4, none, .zer (reps 100 (.d (.int 0)))⟩]) (
 .seq (
 .seq (
 .reg [⟨some 9, none, .mv (.t 0)⟩,
 ⟨some 10, none, .len (.t 9)⟩,
 ⟨some 11, none, .mv (.c (.d (.int 0)))⟩]) (
 .block 0 (
 .loop L1_impl_dimsOf))) (
 .seq (
 .reg [⟨some 48, none, .ldn 100 (.t 4)⟩,
 ⟨none, none, .st 100 (.t 2) (.t 48)⟩,
 ⟨some 3, none, .mv (.c (.d (.bool true)))⟩]) (
 .ret)))),
 [.cell 2 100, .t 3]⟩

theorem k_impl_dimsOf : cFun Try.prog Try.f91 = some C_impl_dimsOf.erase := by kernel_rfl

def L0_impl_axesOf : C :=
 .seq (
 .reg [⟨some 17, none, .bin .lss (.t 16) (.t 15)⟩]) (
 .seq (
 .cond (.t 17) (
 .skip) (
 .exit 0)) (
 .seq (
 .block 1 (
 .seq (
 .reg [⟨some 18, none, .mv (.t 16)⟩,
 ⟨some 19, none, .idx 1 (.t 14) (.t 16)⟩,
 ⟨some 20, none, .ld (.t 19)⟩,
 ⟨some 6, none, .mv (.t 18)⟩,
 ⟨some 7, none, .mv (.t 20)⟩]) (
 .draw [⟨some 21, none, .fld 1 (.t 5)⟩,
 ⟨some 22, none, .ld (.t 21)⟩,
 ⟨some 23, none, .mv (.t 6)⟩,
 ⟨some 24, none, .mv (.t 7)⟩,
 ⟨some 25, none, .aix 1 100 (.t 2) (.t 24)⟩,
 ⟨some 26, none, .ld (.t 25)⟩]
 [⟨some 27, none, .idx 1 (.t 22) (.t 23)⟩,
 ⟨none, none, .st 1 (.t 27) (.t 26)⟩]))) (
 .reg [⟨some 28, none, .bin .add (.t 16) (.c (.d (.int 1)))⟩,
 ⟨some 16, none, .mv (.t 28)⟩])))

def C_impl_axesOf : Fun := ⟨2, 30,
 .seq (
 .reg [⟨some 2, none, .box (.t 0)⟩,
 ⟨some 4, none, .zer [.nil, .nil, .nil]⟩]) (
 .seq (
 .draw [⟨some 8, none, .mv (.t 1)⟩,
 ⟨some 9, none, .call 85 [(.t 8)]⟩,
 ⟨some 10, none, .mv (.t 1)⟩,
 ⟨some 11, none, .len (.t 10)⟩,
 ⟨some 12, none, .make 1 8 [.d (.int 0)] (.t 11) (.t 11)⟩,
 ⟨some 13, none, .agg [.nil, .nil, .nil] [(0, 1, (.t 9)), (1, 1, (.t 12))]⟩,
 ⟨some 5, none, .zer [.nil, .nil, .nil]⟩]
 [⟨none, none, .st 3 (.t 5) (.t 13)⟩]) (
 .seq (
 .seq (
 .reg [⟨some 14, none, .mv (.t 1)⟩,
 ⟨some 15, none, .len (.t 14)⟩,
 ⟨some 16, none, .mv (.c (.d (.int 0)))⟩]) (
 .block 0 (
 .loop L0_impl_axesOf))) (
 .seq (
 .reg [⟨some 29, none, .ldn 3 (.t 5)⟩,
 ⟨none, none, .st 3 (.t 4) (.t 29)⟩]) (
 .ret)))),
 [.cell 4 3]⟩

theorem k_impl_axesOf : cFun Try.prog Try.f93 = some C_impl_axesOf.erase := by kernel_rfl

def C_laws_eqRing : Fun := ⟨2, 20,
 .seq (
 .reg [⟨some 2, none, .box (.t 0)⟩,
 ⟨some 3, none, .box (.t 1)⟩,
 ⟨some 4, none, .mv (.c (.d (.bool false)))⟩]) (
 .seq (
 .seq (
 .reg [⟨some 5, none, .fld 0 (.t 2)⟩,
 ⟨some 6, none, .ld (.t 5)⟩,
 ⟨some 7, none, .fld 0 (.t 3)⟩,
 ⟨some 8, none, .ld (.t 7)⟩,
 ⟨some 9, none, .bin .neq (.t 6) (.t 8)⟩]) (
 .cond (.t 9) (
 .seq (
 .reg [⟨some 4, none, .mv (.c (.d (.bool false)))⟩]) (
 .ret)) (
 .skip))) (
 .seq (
 .seq (
 .reg [⟨some 10, none, .fld 1 (.t 2)⟩,
 ⟨some 11, none, .ld (.t 10)⟩,
 ⟨some 12, none, .fld 1 (.t 3)⟩,
 ⟨some 13, none, .ld (.t 12)⟩,
 ⟨some 14, none, .bin .neq (.t 11) (.t 13)⟩]) (
 .cond (.t 14) (
 .seq (
 .reg [⟨some 4, none, .mv (.c (.d (.bool false)))⟩]) (
 .ret)) (
 .skip))) (
 .seq (
 .seq (
 .reg [⟨some 15, none, .fld 2 (.t 2)⟩,
 ⟨some 16, none, .ld (.t 15)⟩,
 ⟨some 17, none, .fld 2 (.t 3)⟩,
 ⟨some 18, none, .ld (.t 17)⟩,
 ⟨some 19, none, .bin .neq (.t 16) (.t 18)⟩]) (
 .cond (.t 19) (
 .seq (
 .reg [⟨some 4, none, .mv (.c (.d (.bool false)))⟩]) (
 .ret)) (
 .skip))) (
 .seq (
 .reg [⟨some 4, none, .mv (.c (.d (.bool true)))⟩]) (
 .ret))))),
 [.t 4]⟩

theorem k_laws_eqRing : cFun Try.prog Try.f62 = some C_laws_eqRing.erase := by kernel_rfl

def L0_laws_eqTensorS : C :=
 .seq (
 .seq (
 .reg [⟨some 11, none, .mv (.t 5)⟩,
 ⟨some 12, none, .mv (.t 0)⟩,
 ⟨some 13, none, .len (.t 12)⟩,
 ⟨some 14, none, .bin .lss (.t 11) (.t 13)⟩]) (
 .cond (.t 14) (
 .skip) (
 .exit 0))) (
 .seq (
 .block 1 (
 .seq (
 .draw [⟨some 17, none, .mv (.t 0)⟩,
 ⟨some 18, none, .mv (.t 5)⟩,
 ⟨some 19, none, .idx 3 (.t 17) (.t 18)⟩,
 ⟨some 20, none, .ldn 3 (.t 19)⟩,
 ⟨some 21, none, .mv (.t 1)⟩,
 ⟨some 22, none, .mv (.t 5)⟩,
 ⟨some 23, none, .idx 3 (.t 21) (.t 22)⟩,
 ⟨some 24, none, .ldn 3 (.t 23)⟩]
 [⟨some 25, none, .call 116 [(.t 20), (.t 24)]⟩,
 ⟨some 26, none, .not (.t 25)⟩]) (
 .cond (.t 26) (
 .seq (
 .reg [⟨some 4, none, .mv (.c (.d (.bool false)))⟩]) (
 .ret)) (
 .skip)))) (
 .reg [⟨some 15, none, .mv (.t 5)⟩,
 ⟨some 16, none, .bin .add (.t 15) (.c (.d (.int 1)))⟩,
 ⟨some 5, none, .mv (.t 16)⟩]))

def C_laws_eqTensorS : Fun := ⟨2, 27,
 .seq (
 .reg [⟨some 4, none, .mv (.c (.d (.bool false)))⟩]) (
 .seq (
 .seq (
 .reg [⟨some 6, none, .mv (.t 0)⟩,
 ⟨some 7, none, .len (.t 6)⟩,
 ⟨some 8, none, .mv (.t 1)⟩,
 ⟨some 9, none, .len (.t 8)⟩,
 ⟨some 10, none, .bin .neq (.t 7) (.t 9)⟩]) (
 .cond (.t 10) (
 .seq (
 .reg [⟨some 4, none, .mv (.c (.d (.bool false)))⟩]) (
 .ret)) (
 .skip))) (
 .seq (
 .seq (
 .reg [⟨some 5, none, .mv (.c (.d (.int 0)))⟩]) (
 .block 0 (
 .loop L0_laws_eqTensorS))) (
 .seq (
 .reg [⟨some 4, none, .mv (.c (.d (.bool true)))⟩]) (
 .ret)))),
 [.t 4]⟩

theorem k_laws_eqTensorS : cFun Try.prog Try.f63 = some C_laws_eqTensorS.erase := by kernel_rfl

end Go.Proofs.Ytjncdanegoileaa

/-
  Arrays of ints as lists. No condition.
-/
namespace Go.Proofs.Ytjncdanegoileaa
open Go.RowKit Go.Lift Plain
set_option linter.unusedSimpArgs false
section
variable {xs : List Int}
theorem cvL_iv (k : Nat) : ∀ (xs : List Int) (j : Nat), cvL k j (iv xs) = iv xs
  | [], _ => rfl
  | x :: l, j => by
    have := cvL_iv k l (j + 1)
    simp only [iv, List.map_cons, cvL, cv] at this ⊢
    rw [this]
theorem expC_iv (s : St) : ∀ (xs : List Int), expC s (iv xs) = some (iv xs)
  | [] => rfl
  | x :: l => by
    have := expC_iv s l
    simp only [iv, List.map_cons, expC, exp1] at this ⊢
    rw [this]
theorem rwC_iv (s : St) (M : List Nat) : ∀ (xs : List Int), rwC s M (iv xs) = some (iv xs)
  | [] => rfl
  | x :: l => by
    have := rwC_iv s M l
    simp only [iv, List.map_cons, rwC, rw1, exp1, Option.map_some] at this ⊢
    rw [this]
theorem plainL_iv : ∀ (xs : List Int), plainL (iv xs) = true
  | [] => rfl
  | x :: l => by
    have := plainL_iv l
    simp only [iv, List.map_cons, plainL, plain] at this ⊢
    rw [this]; rfl
theorem idsL_iv : ∀ (xs : List Int), idsL (iv xs) = []
  | [] => rfl
  | x :: l => by
    have := idsL_iv l
    simp only [iv, List.map_cons, idsL, idsA] at this ⊢
    rw [this]; rfl
theorem cgL_iv (gv : List Nat) (M : List Nat) : cgL gv M (iv xs) = iv xs := by
  rw [cgL_eq, iv, List.map_map]
  exact List.map_congr_left fun x _ => rfl
theorem atT_get {D : List Int} {x : Int} (hl : D.length = 100) (hx : 0 ≤ x ∧ x ≤ 99) : D[x.toNat]? = some (atT D x) := by
  unfold atT
  rw [getD_of (by omega)]
  exact List.getElem?_eq_getElem (by omega)
theorem dv_nil : dv [] = [] := nr rfl
end
attribute [go_sem] dv_nil cvL_iv expC_iv rwC_iv plainL_iv idsL_iv cgL_iv reps_int repI_len
end Go.Proofs.Ytjncdanegoileaa
