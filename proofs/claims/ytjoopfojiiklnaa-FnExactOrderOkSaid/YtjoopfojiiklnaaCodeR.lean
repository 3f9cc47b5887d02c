/-
  The compiled code of functions of the seat (written by mkcode.py). No condition.
-/
import Derived.Test.YtjoopfojiiklnaaLiftE
import Derived.Test.YtjoopfojiiklnaaProg
import Derived.KernelRfl
namespace Go.Proofs.Ytjoopfojiiklnaa
open Go.Lift

def L0_laws_toIntS : C :=
      .seq (
      .seq (
      .reg [⟨some 8, none, .mv (.t 4)⟩,
            ⟨some 9, none, .mv (.t 0)⟩,
            ⟨some 10, none, .len (.t 9)⟩,
            ⟨some 11, none, .bin .lss (.t 8) (.t 10)⟩]) (
      .cond (.t 11) (
        .skip) (
        .exit 0))) (
      .seq (
      .block 1 (
        .reg [⟨some 14, none, .mv (.t 3)⟩,
              ⟨some 15, none, .mv (.t 4)⟩,
              ⟨some 16, none, .mv (.t 0)⟩,
              ⟨some 17, none, .mv (.t 4)⟩,
              ⟨some 18, none, .idx 1 (.t 16) (.t 17)⟩,
              ⟨some 19, none, .ld (.t 18)⟩,
              ⟨some 20, none, .idx 1 (.t 14) (.t 15)⟩,
              ⟨none, none, .st 1 (.t 20) (.t 19)⟩])) (
      .reg [⟨some 12, none, .mv (.t 4)⟩,
            ⟨some 13, none, .bin .add (.t 12) (.c (.d (.int 1)))⟩,
            ⟨some 4, none, .mv (.t 13)⟩]))

def C_laws_toIntS : Fun := ⟨1, 22,
  .seq (
  .reg [⟨some 2, none, .mv (.c (.nil))⟩]) (
  .seq (
  .reg [⟨some 5, none, .mv (.t 0)⟩,
        ⟨some 6, none, .len (.t 5)⟩,
        ⟨some 7, none, .make 1 8 [.d (.int 0)] (.t 6) (.t 6)⟩,
        ⟨some 3, none, .mv (.t 7)⟩]) (
  .seq (
  .seq (
  .reg [⟨some 4, none, .mv (.c (.d (.int 0)))⟩]) (
  .block 0 (
    .loop L0_laws_toIntS))) (
  .seq (
  .reg [⟨some 21, none, .mv (.t 3)⟩,
        ⟨some 2, none, .mv (.t 21)⟩]) (
  .ret)))),
  [.t 2]⟩

theorem k_laws_toIntS : cFun Try.prog Try.f32 = some C_laws_toIntS.erase := by kernel_rfl

def C_laws_toRing : Fun := ⟨1, 14,
  .seq (
  .reg [⟨some 1, none, .box (.t 0)⟩,
        ⟨some 2, none, .zer [.d (.int 0), .d (.int 0), .d (.int 0)]⟩]) (
  .seq (
  .reg [⟨some 3, none, .zer [.d (.int 0), .d (.int 0), .d (.int 0)]⟩]) (
  .seq (
  .reg [⟨some 4, none, .fld 0 (.t 1)⟩,
        ⟨some 5, none, .ld (.t 4)⟩,
        ⟨some 6, none, .fld 0 (.t 3)⟩,
        ⟨none, none, .st 1 (.t 6) (.t 5)⟩]) (
  .seq (
  .reg [⟨some 7, none, .fld 1 (.t 1)⟩,
        ⟨some 8, none, .ld (.t 7)⟩,
        ⟨some 9, none, .fld 1 (.t 3)⟩,
        ⟨none, none, .st 1 (.t 9) (.t 8)⟩]) (
  .seq (
  .reg [⟨some 10, none, .fld 2 (.t 1)⟩,
        ⟨some 11, none, .ld (.t 10)⟩,
        ⟨some 12, none, .fld 2 (.t 3)⟩,
        ⟨none, none, .st 1 (.t 12) (.t 11)⟩]) (
  .seq (
  .reg [⟨some 13, none, .ldn 3 (.t 3)⟩,
        ⟨none, none, .st 3 (.t 2) (.t 13)⟩]) (
  .ret)))))),
  [.cell 2 3]⟩

theorem k_laws_toRing : cFun Try.prog Try.f45 = some C_laws_toRing.erase := by kernel_rfl

def C_laws_toTensor : Fun := ⟨1, 17,
  .seq (
  .reg [⟨some 1, none, .box (.t 0)⟩,
        ⟨some 2, none, .zer [.nil, .nil, .nil]⟩]) (
  .seq (
  .reg [⟨some 3, none, .zer [.nil, .nil, .nil]⟩]) (
  .seq (
  .reg [⟨some 4, none, .fld 0 (.t 1)⟩,
        ⟨some 5, none, .ld (.t 4)⟩,
        ⟨some 6, none, .call 32 [(.t 5)]⟩,
        ⟨some 7, none, .fld 0 (.t 3)⟩,
        ⟨none, none, .st 1 (.t 7) (.t 6)⟩]) (
  .seq (
  .reg [⟨some 8, none, .fld 1 (.t 1)⟩,
        ⟨some 9, none, .ld (.t 8)⟩,
        ⟨some 10, none, .call 32 [(.t 9)]⟩,
        ⟨some 11, none, .fld 1 (.t 3)⟩,
        ⟨none, none, .st 1 (.t 11) (.t 10)⟩]) (
  .seq (
  .reg [⟨some 12, none, .fld 2 (.t 1)⟩,
        ⟨some 13, none, .ld (.t 12)⟩,
        ⟨some 14, none, .call 32 [(.t 13)]⟩,
        ⟨some 15, none, .fld 2 (.t 3)⟩,
        ⟨none, none, .st 1 (.t 15) (.t 14)⟩]) (
  .seq (
  .reg [⟨some 16, none, .ldn 3 (.t 3)⟩,
        ⟨none, none, .st 3 (.t 2) (.t 16)⟩]) (
  .ret)))))),
  [.cell 2 3]⟩

theorem k_laws_toTensor : cFun Try.prog Try.f47 = some C_laws_toTensor.erase := by kernel_rfl

def C_laws_szIntS : Fun := ⟨2, 12,
  .seq (
  .reg [⟨some 4, none, .mv (.c (.d (.int 0)))⟩]) (
  .seq (
  .reg [⟨some 5, none, .mv (.t 1)⟩,
        ⟨some 6, none, .mv (.t 0)⟩,
        ⟨some 7, none, .len (.t 6)⟩,
        ⟨some 8, none, .bin .sub (.t 5) (.t 7)⟩,
        ⟨some 1, none, .mv (.t 8)⟩]) (
  .seq (
  .seq (
  .reg [⟨some 9, none, .mv (.t 1)⟩,
        ⟨some 10, none, .bin .lss (.t 9) (.c (.d (.int 0)))⟩]) (
  .cond (.t 10) (
    .seq (
    .reg [⟨some 4, none, .mv (.c (.d (.int (-1))))⟩]) (
    .ret)) (
    .skip))) (
  .seq (
  .reg [⟨some 11, none, .mv (.t 1)⟩,
        ⟨some 4, none, .mv (.t 11)⟩]) (
  .ret)))),
  [.t 4]⟩

theorem k_laws_szIntS : cFun Try.prog Try.f67 = some C_laws_szIntS.erase := by kernel_rfl

def C_laws_szTensor : Fun := ⟨2, 24,
  .seq (
  .reg [⟨some 2, none, .box (.t 0)⟩,
        ⟨some 4, none, .mv (.c (.d (.int 0)))⟩]) (
  .seq (
  .reg [⟨some 5, none, .fld 0 (.t 2)⟩,
        ⟨some 6, none, .ld (.t 5)⟩,
        ⟨some 7, none, .mv (.t 1)⟩,
        ⟨some 8, none, .call 67 [(.t 6), (.t 7)]⟩,
        ⟨some 1, none, .mv (.t 8)⟩]) (
  .seq (
  .seq (
  .reg [⟨some 9, none, .mv (.t 1)⟩,
        ⟨some 10, none, .bin .lss (.t 9) (.c (.d (.int 0)))⟩]) (
  .cond (.t 10) (
    .seq (
    .reg [⟨some 4, none, .mv (.c (.d (.int (-1))))⟩]) (
    .ret)) (
    .skip))) (
  .seq (
  .reg [⟨some 11, none, .fld 1 (.t 2)⟩,
        ⟨some 12, none, .ld (.t 11)⟩,
        ⟨some 13, none, .mv (.t 1)⟩,
        ⟨some 14, none, .call 67 [(.t 12), (.t 13)]⟩,
        ⟨some 1, none, .mv (.t 14)⟩]) (
  .seq (
  .seq (
  .reg [⟨some 15, none, .mv (.t 1)⟩,
        ⟨some 16, none, .bin .lss (.t 15) (.c (.d (.int 0)))⟩]) (
  .cond (.t 16) (
    .seq (
    .reg [⟨some 4, none, .mv (.c (.d (.int (-1))))⟩]) (
    .ret)) (
    .skip))) (
  .seq (
  .reg [⟨some 17, none, .fld 2 (.t 2)⟩,
        ⟨some 18, none, .ld (.t 17)⟩,
        ⟨some 19, none, .mv (.t 1)⟩,
        ⟨some 20, none, .call 67 [(.t 18), (.t 19)]⟩,
        ⟨some 1, none, .mv (.t 20)⟩]) (
  .seq (
  .seq (
  .reg [⟨some 21, none, .mv (.t 1)⟩,
        ⟨some 22, none, .bin .lss (.t 21) (.c (.d (.int 0)))⟩]) (
  .cond (.t 22) (
    .seq (
    .reg [⟨some 4, none, .mv (.c (.d (.int (-1))))⟩]) (
    .ret)) (
    .skip))) (
  .seq (
  .reg [⟨some 23, none, .mv (.t 1)⟩,
        ⟨some 4, none, .mv (.t 23)⟩]) (
  .ret)))))))),
  [.t 4]⟩

theorem k_laws_szTensor : cFun Try.prog Try.f43 = some C_laws_szTensor.erase := by kernel_rfl

def L0_laws_eqIntS : C :=
      .seq (
      .seq (
      .reg [⟨some 11, none, .mv (.t 5)⟩,
            ⟨some 12, none, .mv (.t 0)⟩,
            ⟨some 13, none, .len (.t 12)⟩,
            ⟨some 14, none, .bin .lss (.t 11) (.t 13)⟩]) (
      .cond (.t 14) (
        .skip) (
        .exit 0))) (
      .seq (
      .block 1 (
        .seq (
        .draw [⟨some 17, none, .mv (.t 0)⟩,
               ⟨some 18, none, .mv (.t 5)⟩,
               ⟨some 19, none, .idx 1 (.t 17) (.t 18)⟩,
               ⟨some 20, none, .ld (.t 19)⟩,
               ⟨some 21, none, .mv (.t 1)⟩,
               ⟨some 22, none, .mv (.t 5)⟩,
               ⟨some 23, none, .idx 1 (.t 21) (.t 22)⟩,
               ⟨some 24, none, .ld (.t 23)⟩]
          [⟨some 25, none, .bin .neq (.t 20) (.t 24)⟩]) (
        .cond (.t 25) (
          .seq (
          .reg [⟨some 4, none, .mv (.c (.d (.bool false)))⟩]) (
          .ret)) (
          .skip)))) (
      .reg [⟨some 15, none, .mv (.t 5)⟩,
            ⟨some 16, none, .bin .add (.t 15) (.c (.d (.int 1)))⟩,
            ⟨some 5, none, .mv (.t 16)⟩]))

def C_laws_eqIntS : Fun := ⟨2, 26,
  .seq (
  .reg [⟨some 4, none, .mv (.c (.d (.bool false)))⟩]) (
  .seq (
  .seq (
  .reg [⟨some 6, none, .mv (.t 0)⟩,
        ⟨some 7, none, .len (.t 6)⟩,
        ⟨some 8, none, .mv (.t 1)⟩,
        ⟨some 9, none, .len (.t 8)⟩,
        ⟨some 10, none, .bin .neq (.t 7) (.t 9)⟩]) (
  .cond (.t 10) (
    .seq (
    .reg [⟨some 4, none, .mv (.c (.d (.bool false)))⟩]) (
    .ret)) (
    .skip))) (
  .seq (
  .seq (
  .reg [⟨some 5, none, .mv (.c (.d (.int 0)))⟩]) (
  .block 0 (
    .loop L0_laws_eqIntS))) (
  .seq (
  .reg [⟨some 4, none, .mv (.c (.d (.bool true)))⟩]) (
  .ret)))),
  [.t 4]⟩

theorem k_laws_eqIntS : cFun Try.prog Try.f22 = some C_laws_eqIntS.erase := by kernel_rfl

def C_laws_eqTensor : Fun := ⟨2, 23,
  .seq (
  .reg [⟨some 2, none, .box (.t 0)⟩,
        ⟨some 3, none, .box (.t 1)⟩,
        ⟨some 4, none, .mv (.c (.d (.bool false)))⟩]) (
  .seq (
  .seq (
  .reg [⟨some 5, none, .fld 0 (.t 2)⟩,
        ⟨some 6, none, .ld (.t 5)⟩,
        ⟨some 7, none, .fld 0 (.t 3)⟩,
        ⟨some 8, none, .ld (.t 7)⟩,
        ⟨some 9, none, .call 22 [(.t 6), (.t 8)]⟩,
        ⟨some 10, none, .not (.t 9)⟩]) (
  .cond (.t 10) (
    .seq (
    .reg [⟨some 4, none, .mv (.c (.d (.bool false)))⟩]) (
    .ret)) (
    .skip))) (
  .seq (
  .seq (
  .reg [⟨some 11, none, .fld 1 (.t 2)⟩,
        ⟨some 12, none, .ld (.t 11)⟩,
        ⟨some 13, none, .fld 1 (.t 3)⟩,
        ⟨some 14, none, .ld (.t 13)⟩,
        ⟨some 15, none, .call 22 [(.t 12), (.t 14)]⟩,
        ⟨some 16, none, .not (.t 15)⟩]) (
  .cond (.t 16) (
    .seq (
    .reg [⟨some 4, none, .mv (.c (.d (.bool false)))⟩]) (
    .ret)) (
    .skip))) (
  .seq (
  .seq (
  .reg [⟨some 17, none, .fld 2 (.t 2)⟩,
        ⟨some 18, none, .ld (.t 17)⟩,
        ⟨some 19, none, .fld 2 (.t 3)⟩,
        ⟨some 20, none, .ld (.t 19)⟩,
        ⟨some 21, none, .call 22 [(.t 18), (.t 20)]⟩,
        ⟨some 22, none, .not (.t 21)⟩]) (
  .cond (.t 22) (
    .seq (
    .reg [⟨some 4, none, .mv (.c (.d (.bool false)))⟩]) (
    .ret)) (
    .skip))) (
  .seq (
  .reg [⟨some 4, none, .mv (.c (.d (.bool true)))⟩]) (
  .ret))))),
  [.t 4]⟩

theorem k_laws_eqTensor : cFun Try.prog Try.f49 = some C_laws_eqTensor.erase := by kernel_rfl

def C_impl_copyInts : Fun := ⟨1, 5,
  .seq (
  .reg [⟨some 2, none, .mv (.c (.nil))⟩]) (
  .seq (
  .reg [⟨some 3, none, .mv (.t 0)⟩,
        ⟨some 4, none, .app 1 8 [.d (.int 0)] (.c (.nil)) (.t 3)⟩,
        ⟨some 2, none, .mv (.t 4)⟩]) (
  .ret)),
  [.t 2]⟩

theorem k_impl_copyInts : cFun Try.prog Try.f80 = some C_impl_copyInts.erase := by kernel_rfl

end Go.Proofs.Ytjoopfojiiklnaa

/-
  The compiled code of functions of the seat (written by mkcode.py). No condition.
-/
namespace Go.Proofs.Ytjoopfojiiklnaa
open Go.Lift

def L0_impl_hasInt : C :=
 .seq (
 .reg [⟨some 10, none, .bin .lss (.t 9) (.t 8)⟩]) (
 .seq (
 .cond (.t 10) (
 .skip) (
 .exit 0)) (
 .seq (
 .block 1 (
 .seq (
 .reg [⟨some 11, none, .idx 1 (.t 7) (.t 9)⟩,
 ⟨some 12, none, .ld (.t 11)⟩,
 ⟨some 6, none, .mv (.t 12)⟩]) (
 .seq (
 .reg [⟨some 13, none, .mv (.t 1)⟩,
 ⟨some 14, none, .mv (.t 6)⟩,
 ⟨some 15, none, .bin .eql (.t 13) (.t 14)⟩]) (
 .cond (.t 15) (
 .seq (
 .reg [⟨some 4, none, .mv (.c (.d (.bool true)))⟩]) (
 .ret)) (
 .skip))))) (
 .reg [⟨some 16, none, .bin .add (.t 9) (.c (.d (.int 1)))⟩,
 ⟨some 9, none, .mv (.t 16)⟩])))

def C_impl_hasInt : Fun := ⟨2, 17,
 .seq (
 .reg [⟨some 4, none, .mv (.c (.d (.bool false)))⟩]) (
 .seq (
 .seq (
 .reg [⟨some 7, none, .mv (.t 0)⟩,
 ⟨some 8, none, .len (.t 7)⟩,
 ⟨some 9, none, .mv (.c (.d (.int 0)))⟩]) (
 .block 0 (
 .loop L0_impl_hasInt))) (
 .seq (
 .reg [⟨some 4, none, .mv (.c (.d (.bool false)))⟩]) (
 .ret))),
 [.t 4]⟩

theorem k_impl_hasInt : cFun Try.prog Try.f83 = some C_impl_hasInt.erase := by kernel_rfl

def L0_spec_l05Find : C :=
 .seq (
 .reg [⟨some 10, none, .bin .lss (.t 9) (.t 8)⟩]) (
 .seq (
 .cond (.t 10) (
 .skip) (
 .exit 0)) (
 .seq (
 .block 1 (
 .seq (
 .reg [⟨some 11, none, .mv (.t 9)⟩,
 ⟨some 12, none, .idx 1 (.t 7) (.t 9)⟩,
 ⟨some 13, none, .ld (.t 12)⟩,
 ⟨some 5, none, .mv (.t 11)⟩,
 ⟨some 6, none, .mv (.t 13)⟩]) (
 .seq (
 .reg [⟨some 14, none, .mv (.t 6)⟩,
 ⟨some 15, none, .mv (.t 1)⟩,
 ⟨some 16, none, .bin .eql (.t 14) (.t 15)⟩]) (
 .cond (.t 16) (
 .seq (
 .reg [⟨some 17, none, .mv (.t 5)⟩,
 ⟨some 4, none, .mv (.t 17)⟩]) (
 .ret)) (
 .skip))))) (
 .reg [⟨some 18, none, .bin .add (.t 9) (.c (.d (.int 1)))⟩,
 ⟨some 9, none, .mv (.t 18)⟩])))

def C_spec_l05Find : Fun := ⟨2, 19,
 .seq (
 .reg [⟨some 4, none, .mv (.c (.d (.int 0)))⟩]) (
 .seq (
 .seq (
 .reg [⟨some 7, none, .mv (.t 0)⟩,
 ⟨some 8, none, .len (.t 7)⟩,
 ⟨some 9, none, .mv (.c (.d (.int 0)))⟩]) (
 .block 0 (
 .loop L0_spec_l05Find))) (
 .seq (
 .reg [⟨some 4, none, .mv (.c (.d (.int (-1))))⟩]) (
 .ret))),
 [.t 4]⟩

theorem k_spec_l05Find : cFun Try.prog Try.f82 = some C_spec_l05Find.erase := by kernel_rfl

def L0_spec_l02Mul : C :=
 .seq (
 .reg [⟨some 27, none, .bin .lss (.t 26) (.t 25)⟩]) (
 .seq (
 .cond (.t 27) (
 .skip) (
 .exit 3)) (
 .seq (
 .block 4 (
 .seq (
 .reg [⟨some 28, none, .mv (.t 26)⟩,
 ⟨some 29, none, .idx 1 (.t 24) (.t 26)⟩,
 ⟨some 30, none, .ld (.t 29)⟩,
 ⟨some 10, none, .mv (.t 28)⟩,
 ⟨some 11, none, .mv (.t 30)⟩]) (
 .block 5 (
 .seq (
 .reg [⟨some 32, none, .mv (.t 8)⟩,
 ⟨some 33, none, .mv (.t 10)⟩,
 ⟨some 34, none, .bin .add (.t 32) (.t 33)⟩,
 ⟨some 35, none, .mv (.t 7)⟩,
 ⟨some 36, none, .len (.t 35)⟩,
 ⟨some 37, none, .bin .lss (.t 34) (.t 36)⟩,
 ⟨some 31, none, .mv (.t 37)⟩]) (
 .cond (.t 31) (
 .draw [⟨some 38, none, .mv (.t 7)⟩,
 ⟨some 39, none, .mv (.t 8)⟩,
 ⟨some 40, none, .mv (.t 10)⟩,
 ⟨some 41, none, .bin .add (.t 39) (.t 40)⟩,
 ⟨some 42, none, .mv (.t 7)⟩,
 ⟨some 43, none, .mv (.t 8)⟩,
 ⟨some 44, none, .mv (.t 10)⟩,
 ⟨some 45, none, .bin .add (.t 43) (.t 44)⟩,
 ⟨some 46, none, .idx 1 (.t 42) (.t 45)⟩,
 ⟨some 47, none, .ld (.t 46)⟩,
 ⟨some 48, none, .mv (.t 9)⟩,
 ⟨some 49, none, .mv (.t 11)⟩,
 ⟨some 50, none, .bin .mul (.t 48) (.t 49)⟩,
 ⟨some 51, none, .bin .add (.t 47) (.t 50)⟩,
 ⟨some 52, none, .fld 1 (.t 3)⟩,
 ⟨some 53, none, .ld (.t 52)⟩,
 ⟨some 54, none, .bin .rem (.t 51) (.t 53)⟩]
 [⟨some 55, none, .idx 1 (.t 38) (.t 41)⟩,
 ⟨none, none, .st 1 (.t 55) (.t 54)⟩]) (
 .seq (
 .reg [⟨some 57, none, .fld 0 (.t 3)⟩,
 ⟨some 58, none, .ld (.t 57)⟩,
 ⟨some 59, none, .bin .eql (.t 58) (.c (.d (.int 8)))⟩,
 ⟨some 56, none, .mv (.t 59)⟩]) (
 .cond (.t 56) (
 .draw [⟨some 60, none, .mv (.t 7)⟩,
 ⟨some 61, none, .mv (.t 8)⟩,
 ⟨some 62, none, .mv (.t 10)⟩,
 ⟨some 63, none, .bin .add (.t 61) (.t 62)⟩,
 ⟨some 64, none, .bin .sub (.t 63) (.c (.d (.int 4)))⟩,
 ⟨some 65, none, .mv (.t 7)⟩,
 ⟨some 66, none, .mv (.t 8)⟩,
 ⟨some 67, none, .mv (.t 10)⟩,
 ⟨some 68, none, .bin .add (.t 66) (.t 67)⟩,
 ⟨some 69, none, .bin .sub (.t 68) (.c (.d (.int 4)))⟩,
 ⟨some 70, none, .idx 1 (.t 65) (.t 69)⟩,
 ⟨some 71, none, .ld (.t 70)⟩,
 ⟨some 72, none, .fld 1 (.t 3)⟩,
 ⟨some 73, none, .ld (.t 72)⟩,
 ⟨some 74, none, .mv (.t 9)⟩,
 ⟨some 75, none, .bin .sub (.t 73) (.t 74)⟩,
 ⟨some 76, none, .mv (.t 11)⟩,
 ⟨some 77, none, .bin .mul (.t 75) (.t 76)⟩,
 ⟨some 78, none, .bin .add (.t 71) (.t 77)⟩,
 ⟨some 79, none, .fld 1 (.t 3)⟩,
 ⟨some 80, none, .ld (.t 79)⟩,
 ⟨some 81, none, .bin .rem (.t 78) (.t 80)⟩]
 [⟨some 82, none, .idx 1 (.t 60) (.t 64)⟩,
 ⟨none, none, .st 1 (.t 82) (.t 81)⟩]) (
 .skip)))))))) (
 .reg [⟨some 83, none, .bin .add (.t 26) (.c (.d (.int 1)))⟩,
 ⟨some 26, none, .mv (.t 83)⟩])))

def L1_spec_l02Mul : C :=
 .seq (
 .reg [⟨some 20, none, .bin .lss (.t 19) (.t 18)⟩]) (
 .seq (
 .cond (.t 20) (
 .skip) (
 .exit 1)) (
 .seq (
 .block 2 (
 .seq (
 .reg [⟨some 21, none, .mv (.t 19)⟩,
 ⟨some 22, none, .idx 1 (.t 17) (.t 19)⟩,
 ⟨some 23, none, .ld (.t 22)⟩,
 ⟨some 8, none, .mv (.t 21)⟩,
 ⟨some 9, none, .mv (.t 23)⟩]) (
 .seq (
 .reg [⟨some 24, none, .mv (.t 2)⟩,
 ⟨some 25, none, .len (.t 24)⟩,
 ⟨some 26, none, .mv (.c (.d (.int 0)))⟩]) (
 .block 3 (
 .loop L0_spec_l02Mul))))) (
 .reg [⟨some 84, none, .bin .add (.t 19) (.c (.d (.int 1)))⟩,
 ⟨some 19, none, .mv (.t 84)⟩])))

def C_spec_l02Mul : Fun := ⟨3, 151,
 .seq (
 .reg [⟨some 3, none, .box (.t 0)⟩,
 ⟨some 6, none, .mv (.c (.nil))⟩]) (
 .seq (
 .reg [⟨some 12, none, .mv (.t 1)⟩,
 ⟨some 13, none, .len (.t 12)⟩,
 ⟨some 14, none, .make 1 8 [.d (.int 0)] (.t 13) (.t 13)⟩,
 ⟨some 7, none, .mv (.t 14)⟩]) (
 .seq (
 .seq (
 .reg [⟨some 15, none, .fld 0 (.t 3)⟩,
 ⟨some 16, none, .ld (.t 15)⟩]) (
 .block 0 (
 .seq (
 .seq (
 .reg [⟨some 86, none, .bin .eql (.t 16) (.c (.d (.int 1)))⟩,
 ⟨some 85, none, .mv (.t 86)⟩]) (
 .cond (.t 85) (
 .skip) (
 .reg [⟨some 87, none, .bin .eql (.t 16) (.c (.d (.int 6)))⟩,
 ⟨some 85, none, .mv (.t 87)⟩]))) (
 .cond (.t 85) (
 .draw [⟨some 88, none, .mv (.t 7)⟩,
 ⟨some 89, none, .mv (.t 1)⟩,
 ⟨some 90, none, .idx 1 (.t 89) (.c (.d (.int 0)))⟩,
 ⟨some 91, none, .ld (.t 90)⟩,
 ⟨some 92, none, .mv (.t 2)⟩,
 ⟨some 93, none, .idx 1 (.t 92) (.c (.d (.int 0)))⟩,
 ⟨some 94, none, .ld (.t 93)⟩,
 ⟨some 95, none, .bin .and (.t 91) (.t 94)⟩]
 [⟨some 96, none, .idx 1 (.t 88) (.c (.d (.int 0)))⟩,
 ⟨none, none, .st 1 (.t 96) (.t 95)⟩]) (
 .seq (
 .reg [⟨some 98, none, .bin .eql (.t 16) (.c (.d (.int 2)))⟩,
 ⟨some 97, none, .mv (.t 98)⟩]) (
 .cond (.t 97) (
 .draw [⟨some 99, none, .mv (.t 7)⟩,
 ⟨some 100, none, .mv (.t 1)⟩,
 ⟨some 101, none, .idx 1 (.t 100) (.c (.d (.int 0)))⟩,
 ⟨some 102, none, .ld (.t 101)⟩,
 ⟨some 103, none, .mv (.t 2)⟩,
 ⟨some 104, none, .idx 1 (.t 103) (.c (.d (.int 0)))⟩,
 ⟨some 105, none, .ld (.t 104)⟩,
 ⟨some 106, none, .bin .mul (.t 102) (.t 105)⟩,
 ⟨some 107, none, .fld 1 (.t 3)⟩,
 ⟨some 108, none, .ld (.t 107)⟩,
 ⟨some 109, none, .bin .rem (.t 106) (.t 108)⟩]
 [⟨some 110, none, .idx 1 (.t 99) (.c (.d (.int 0)))⟩,
 ⟨none, none, .st 1 (.t 110) (.t 109)⟩]) (
 .seq (
 .reg [⟨some 112, none, .bin .eql (.t 16) (.c (.d (.int 3)))⟩,
 ⟨some 111, none, .mv (.t 112)⟩]) (
 .cond (.t 111) (
 .draw [⟨some 113, none, .mv (.t 7)⟩,
 ⟨some 114, none, .mv (.t 1)⟩,
 ⟨some 115, none, .idx 1 (.t 114) (.c (.d (.int 0)))⟩,
 ⟨some 116, none, .ld (.t 115)⟩,
 ⟨some 117, none, .mv (.t 2)⟩,
 ⟨some 118, none, .idx 1 (.t 117) (.c (.d (.int 0)))⟩,
 ⟨some 119, none, .ld (.t 118)⟩,
 ⟨some 120, none, .bin .mul (.t 116) (.t 119)⟩,
 ⟨some 121, none, .fld 1 (.t 3)⟩,
 ⟨some 122, none, .ld (.t 121)⟩,
 ⟨some 123, none, .mnx false (.t 120) (.t 122)⟩]
 [⟨some 124, none, .idx 1 (.t 113) (.c (.d (.int 0)))⟩,
 ⟨none, none, .st 1 (.t 124) (.t 123)⟩]) (
 .seq (
 .reg [⟨some 126, none, .bin .eql (.t 16) (.c (.d (.int 4)))⟩,
 ⟨some 125, none, .mv (.t 126)⟩]) (
 .cond (.t 125) (
 .draw [⟨some 127, none, .mv (.t 7)⟩,
 ⟨some 128, none, .mv (.t 1)⟩,
 ⟨some 129, none, .idx 1 (.t 128) (.c (.d (.int 0)))⟩,
 ⟨some 130, none, .ld (.t 129)⟩,
 ⟨some 131, none, .mv (.t 2)⟩,
 ⟨some 132, none, .idx 1 (.t 131) (.c (.d (.int 0)))⟩,
 ⟨some 133, none, .ld (.t 132)⟩,
 ⟨some 134, none, .bin .add (.t 130) (.t 133)⟩,
 ⟨some 135, none, .fld 1 (.t 3)⟩,
 ⟨some 136, none, .ld (.t 135)⟩,
 ⟨some 137, none, .mnx false (.t 134) (.t 136)⟩]
 [⟨some 138, none, .idx 1 (.t 127) (.c (.d (.int 0)))⟩,
 ⟨none, none, .st 1 (.t 138) (.t 137)⟩]) (
 .seq (
 .reg [⟨some 140, none, .bin .eql (.t 16) (.c (.d (.int 5)))⟩,
 ⟨some 139, none, .mv (.t 140)⟩]) (
 .cond (.t 139) (
 .draw [⟨some 141, none, .mv (.t 7)⟩,
 ⟨some 142, none, .mv (.t 1)⟩,
 ⟨some 143, none, .idx 1 (.t 142) (.c (.d (.int 0)))⟩,
 ⟨some 144, none, .ld (.t 143)⟩,
 ⟨some 145, none, .mv (.t 2)⟩,
 ⟨some 146, none, .idx 1 (.t 145) (.c (.d (.int 0)))⟩,
 ⟨some 147, none, .ld (.t 146)⟩,
 ⟨some 148, none, .mnx false (.t 144) (.t 147)⟩]
 [⟨some 149, none, .idx 1 (.t 141) (.c (.d (.int 0)))⟩,
 ⟨none, none, .st 1 (.t 149) (.t 148)⟩]) (
 .seq (
 .reg [⟨some 17, none, .mv (.t 1)⟩,
 ⟨some 18, none, .len (.t 17)⟩,
 ⟨some 19, none, .mv (.c (.d (.int 0)))⟩]) (
 .block 1 (
 .loop L1_spec_l02Mul))))))))))))))) (
 .seq (
 .reg [⟨some 150, none, .mv (.t 7)⟩,
 ⟨some 6, none, .mv (.t 150)⟩]) (
 .ret)))),
 [.t 6]⟩

theorem k_spec_l02Mul : cFun Try.prog Try.f143 = some C_spec_l02Mul.erase := by kernel_rfl

def L0_impl_joinLabels : C :=
 .seq (
 .reg [⟨some 13, none, .bin .lss (.t 12) (.t 11)⟩]) (
 .seq (
 .cond (.t 13) (
 .skip) (
 .exit 0)) (
 .seq (
 .block 1 (
 .seq (
 .reg [⟨some 14, none, .idx 1 (.t 10) (.t 12)⟩,
 ⟨some 15, none, .ld (.t 14)⟩,
 ⟨some 7, none, .mv (.t 15)⟩]) (
 .seq (
 .reg [⟨some 16, none, .mv (.t 0)⟩,
 ⟨some 17, none, .mv (.t 7)⟩,
 ⟨some 18, none, .call 83 [(.t 16), (.t 17)]⟩,
 ⟨some 19, none, .not (.t 18)⟩]) (
 .cond (.t 19) (
 .reg [⟨some 20, none, .mv (.t 5)⟩,
 ⟨some 21, none, .mv (.t 7)⟩,
 ⟨some 22, none, .mksl 1 1 [.d (.int 0)] [(0, 1, (.t 21))]⟩,
 ⟨some 23, none, .app 1 8 [.d (.int 0)] (.t 20) (.t 22)⟩,
 ⟨some 5, none, .mv (.t 23)⟩]) (
 .skip))))) (
 .reg [⟨some 24, none, .bin .add (.t 12) (.c (.d (.int 1)))⟩,
 ⟨some 12, none, .mv (.t 24)⟩])))

def C_impl_joinLabels : Fun := ⟨2, 26,
 .seq (
 .reg [⟨some 4, none, .mv (.c (.nil))⟩]) (
 .seq (
 .reg [⟨some 8, none, .mv (.t 0)⟩,
 ⟨some 9, none, .call 80 [(.t 8)]⟩,
 ⟨some 5, none, .mv (.t 9)⟩]) (
 .seq (
 .seq (
 .reg [⟨some 10, none, .mv (.t 1)⟩,
 ⟨some 11, none, .len (.t 10)⟩,
 ⟨some 12, none, .mv (.c (.d (.int 0)))⟩]) (
 .block 0 (
 .loop L0_impl_joinLabels))) (
 .seq (
 .reg [⟨some 25, none, .mv (.t 5)⟩,
 ⟨some 4, none, .mv (.t 25)⟩]) (
 .ret)))),
 [.t 4]⟩

theorem k_impl_joinLabels : cFun Try.prog Try.f155 = some C_impl_joinLabels.erase := by kernel_rfl

end Go.Proofs.Ytjoopfojiiklnaa
