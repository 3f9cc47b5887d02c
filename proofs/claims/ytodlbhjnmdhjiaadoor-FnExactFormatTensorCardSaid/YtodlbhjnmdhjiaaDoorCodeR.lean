/-
  The compiled code of functions of the seat (written by mkcode.py). No condition.
-/
import Derived.Test.YtodlbhjnmdhjiaaDoorLiftE
import Derived.Test.YtodlbhjnmdhjiaaDoorProg
import Derived.KernelRfl
namespace Go.Proofs.YtodlbhjnmdhjiaaDoor
open Go.Lift

def L0_laws_toIntS : C :=
      .seq (
      .seq (
      .reg [⟨some 8, none, .mv (.t 4)⟩,
            ⟨some 9, none, .mv (.t 0)⟩,
            ⟨some 10, none, .len (.t 9)⟩,
            ⟨some 11, none, .bin .lss (.t 8) (.t 10)⟩]) (
      .cond (.t 11) (
        .skip) (
        .exit 0))) (
      .seq (
      .block 1 (
        .reg [⟨some 14, none, .mv (.t 3)⟩,
              ⟨some 15, none, .mv (.t 4)⟩,
              ⟨some 16, none, .mv (.t 0)⟩,
              ⟨some 17, none, .mv (.t 4)⟩,
              ⟨some 18, none, .idx 1 (.t 16) (.t 17)⟩,
              ⟨some 19, none, .ld (.t 18)⟩,
              ⟨some 20, none, .idx 1 (.t 14) (.t 15)⟩,
              ⟨none, none, .st 1 (.t 20) (.t 19)⟩])) (
      .reg [⟨some 12, none, .mv (.t 4)⟩,
            ⟨some 13, none, .bin .add (.t 12) (.c (.d (.int 1)))⟩,
            ⟨some 4, none, .mv (.t 13)⟩]))

def C_laws_toIntS : Fun := ⟨1, 22,
  .seq (
  .reg [⟨some 2, none, .mv (.c (.nil))⟩]) (
  .seq (
  .reg [⟨some 5, none, .mv (.t 0)⟩,
        ⟨some 6, none, .len (.t 5)⟩,
        ⟨some 7, none, .make 1 8 [.d (.int 0)] (.t 6) (.t 6)⟩,
        ⟨some 3, none, .mv (.t 7)⟩]) (
  .seq (
  .seq (
  .reg [⟨some 4, none, .mv (.c (.d (.int 0)))⟩]) (
  .block 0 (
    .loop L0_laws_toIntS))) (
  .seq (
  .reg [⟨some 21, none, .mv (.t 3)⟩,
        ⟨some 2, none, .mv (.t 21)⟩]) (
  .ret)))),
  [.t 2]⟩

theorem k_laws_toIntS : cFun Tryd.prog Tryd.f17 = some C_laws_toIntS.erase := by kernel_rfl

def C_laws_toRing : Fun := ⟨1, 14,
  .seq (
  .reg [⟨some 1, none, .box (.t 0)⟩,
        ⟨some 2, none, .zer [.d (.int 0), .d (.int 0), .d (.int 0)]⟩]) (
  .seq (
  .reg [⟨some 3, none, .zer [.d (.int 0), .d (.int 0), .d (.int 0)]⟩]) (
  .seq (
  .reg [⟨some 4, none, .fld 0 (.t 1)⟩,
        ⟨some 5, none, .ld (.t 4)⟩,
        ⟨some 6, none, .fld 0 (.t 3)⟩,
        ⟨none, none, .st 1 (.t 6) (.t 5)⟩]) (
  .seq (
  .reg [⟨some 7, none, .fld 1 (.t 1)⟩,
        ⟨some 8, none, .ld (.t 7)⟩,
        ⟨some 9, none, .fld 1 (.t 3)⟩,
        ⟨none, none, .st 1 (.t 9) (.t 8)⟩]) (
  .seq (
  .reg [⟨some 10, none, .fld 2 (.t 1)⟩,
        ⟨some 11, none, .ld (.t 10)⟩,
        ⟨some 12, none, .fld 2 (.t 3)⟩,
        ⟨none, none, .st 1 (.t 12) (.t 11)⟩]) (
  .seq (
  .reg [⟨some 13, none, .ldn 3 (.t 3)⟩,
        ⟨none, none, .st 3 (.t 2) (.t 13)⟩]) (
  .ret)))))),
  [.cell 2 3]⟩

theorem k_laws_toRing : cFun Tryd.prog Tryd.f6 = some C_laws_toRing.erase := by kernel_rfl

def C_laws_toTensor : Fun := ⟨1, 17,
  .seq (
  .reg [⟨some 1, none, .box (.t 0)⟩,
        ⟨some 2, none, .zer [.nil, .nil, .nil]⟩]) (
  .seq (
  .reg [⟨some 3, none, .zer [.nil, .nil, .nil]⟩]) (
  .seq (
  .reg [⟨some 4, none, .fld 0 (.t 1)⟩,
        ⟨some 5, none, .ld (.t 4)⟩,
        ⟨some 6, none, .call 17 [(.t 5)]⟩,
        ⟨some 7, none, .fld 0 (.t 3)⟩,
        ⟨none, none, .st 1 (.t 7) (.t 6)⟩]) (
  .seq (
  .reg [⟨some 8, none, .fld 1 (.t 1)⟩,
        ⟨some 9, none, .ld (.t 8)⟩,
        ⟨some 10, none, .call 17 [(.t 9)]⟩,
        ⟨some 11, none, .fld 1 (.t 3)⟩,
        ⟨none, none, .st 1 (.t 11) (.t 10)⟩]) (
  .seq (
  .reg [⟨some 12, none, .fld 2 (.t 1)⟩,
        ⟨some 13, none, .ld (.t 12)⟩,
        ⟨some 14, none, .call 17 [(.t 13)]⟩,
        ⟨some 15, none, .fld 2 (.t 3)⟩,
        ⟨none, none, .st 1 (.t 15) (.t 14)⟩]) (
  .seq (
  .reg [⟨some 16, none, .ldn 3 (.t 3)⟩,
        ⟨none, none, .st 3 (.t 2) (.t 16)⟩]) (
  .ret)))))),
  [.cell 2 3]⟩

theorem k_laws_toTensor : cFun Tryd.prog Tryd.f7 = some C_laws_toTensor.erase := by kernel_rfl

def C_laws_szIntS : Fun := ⟨2, 12,
  .seq (
  .reg [⟨some 4, none, .mv (.c (.d (.int 0)))⟩]) (
  .seq (
  .reg [⟨some 5, none, .mv (.t 1)⟩,
        ⟨some 6, none, .mv (.t 0)⟩,
        ⟨some 7, none, .len (.t 6)⟩,
        ⟨some 8, none, .bin .sub (.t 5) (.t 7)⟩,
        ⟨some 1, none, .mv (.t 8)⟩]) (
  .seq (
  .seq (
  .reg [⟨some 9, none, .mv (.t 1)⟩,
        ⟨some 10, none, .bin .lss (.t 9) (.c (.d (.int 0)))⟩]) (
  .cond (.t 10) (
    .seq (
    .reg [⟨some 4, none, .mv (.c (.d (.int (-1))))⟩]) (
    .ret)) (
    .skip))) (
  .seq (
  .reg [⟨some 11, none, .mv (.t 1)⟩,
        ⟨some 4, none, .mv (.t 11)⟩]) (
  .ret)))),
  [.t 4]⟩

theorem k_laws_szIntS : cFun Tryd.prog Tryd.f10 = some C_laws_szIntS.erase := by kernel_rfl

def C_laws_szTensor : Fun := ⟨2, 24,
  .seq (
  .reg [⟨some 2, none, .box (.t 0)⟩,
        ⟨some 4, none, .mv (.c (.d (.int 0)))⟩]) (
  .seq (
  .reg [⟨some 5, none, .fld 0 (.t 2)⟩,
        ⟨some 6, none, .ld (.t 5)⟩,
        ⟨some 7, none, .mv (.t 1)⟩,
        ⟨some 8, none, .call 10 [(.t 6), (.t 7)]⟩,
        ⟨some 1, none, .mv (.t 8)⟩]) (
  .seq (
  .seq (
  .reg [⟨some 9, none, .mv (.t 1)⟩,
        ⟨some 10, none, .bin .lss (.t 9) (.c (.d (.int 0)))⟩]) (
  .cond (.t 10) (
    .seq (
    .reg [⟨some 4, none, .mv (.c (.d (.int (-1))))⟩]) (
    .ret)) (
    .skip))) (
  .seq (
  .reg [⟨some 11, none, .fld 1 (.t 2)⟩,
        ⟨some 12, none, .ld (.t 11)⟩,
        ⟨some 13, none, .mv (.t 1)⟩,
        ⟨some 14, none, .call 10 [(.t 12), (.t 13)]⟩,
        ⟨some 1, none, .mv (.t 14)⟩]) (
  .seq (
  .seq (
  .reg [⟨some 15, none, .mv (.t 1)⟩,
        ⟨some 16, none, .bin .lss (.t 15) (.c (.d (.int 0)))⟩]) (
  .cond (.t 16) (
    .seq (
    .reg [⟨some 4, none, .mv (.c (.d (.int (-1))))⟩]) (
    .ret)) (
    .skip))) (
  .seq (
  .reg [⟨some 17, none, .fld 2 (.t 2)⟩,
        ⟨some 18, none, .ld (.t 17)⟩,
        ⟨some 19, none, .mv (.t 1)⟩,
        ⟨some 20, none, .call 10 [(.t 18), (.t 19)]⟩,
        ⟨some 1, none, .mv (.t 20)⟩]) (
  .seq (
  .seq (
  .reg [⟨some 21, none, .mv (.t 1)⟩,
        ⟨some 22, none, .bin .lss (.t 21) (.c (.d (.int 0)))⟩]) (
  .cond (.t 22) (
    .seq (
    .reg [⟨some 4, none, .mv (.c (.d (.int (-1))))⟩]) (
    .ret)) (
    .skip))) (
  .seq (
  .reg [⟨some 23, none, .mv (.t 1)⟩,
        ⟨some 4, none, .mv (.t 23)⟩]) (
  .ret)))))))),
  [.t 4]⟩

theorem k_laws_szTensor : cFun Tryd.prog Tryd.f4 = some C_laws_szTensor.erase := by kernel_rfl

def L0_laws_eqIntS : C :=
      .seq (
      .seq (
      .reg [⟨some 11, none, .mv (.t 5)⟩,
            ⟨some 12, none, .mv (.t 0)⟩,
            ⟨some 13, none, .len (.t 12)⟩,
            ⟨some 14, none, .bin .lss (.t 11) (.t 13)⟩]) (
      .cond (.t 14) (
        .skip) (
        .exit 0))) (
      .seq (
      .block 1 (
        .seq (
        .draw [⟨some 17, none, .mv (.t 0)⟩,
               ⟨some 18, none, .mv (.t 5)⟩,
               ⟨some 19, none, .idx 1 (.t 17) (.t 18)⟩,
               ⟨some 20, none, .ld (.t 19)⟩,
               ⟨some 21, none, .mv (.t 1)⟩,
               ⟨some 22, none, .mv (.t 5)⟩,
               ⟨some 23, none, .idx 1 (.t 21) (.t 22)⟩,
               ⟨some 24, none, .ld (.t 23)⟩]
          [⟨some 25, none, .bin .neq (.t 20) (.t 24)⟩]) (
        .cond (.t 25) (
          .seq (
          .reg [⟨some 4, none, .mv (.c (.d (.bool false)))⟩]) (
          .ret)) (
          .skip)))) (
      .reg [⟨some 15, none, .mv (.t 5)⟩,
            ⟨some 16, none, .bin .add (.t 15) (.c (.d (.int 1)))⟩,
            ⟨some 5, none, .mv (.t 16)⟩]))

def C_laws_eqIntS : Fun := ⟨2, 26,
  .seq (
  .reg [⟨some 4, none, .mv (.c (.d (.bool false)))⟩]) (
  .seq (
  .seq (
  .reg [⟨some 6, none, .mv (.t 0)⟩,
        ⟨some 7, none, .len (.t 6)⟩,
        ⟨some 8, none, .mv (.t 1)⟩,
        ⟨some 9, none, .len (.t 8)⟩,
        ⟨some 10, none, .bin .neq (.t 7) (.t 9)⟩]) (
  .cond (.t 10) (
    .seq (
    .reg [⟨some 4, none, .mv (.c (.d (.bool false)))⟩]) (
    .ret)) (
    .skip))) (
  .seq (
  .seq (
  .reg [⟨some 5, none, .mv (.c (.d (.int 0)))⟩]) (
  .block 0 (
    .loop L0_laws_eqIntS))) (
  .seq (
  .reg [⟨some 4, none, .mv (.c (.d (.bool true)))⟩]) (
  .ret)))),
  [.t 4]⟩

theorem k_laws_eqIntS : cFun Tryd.prog Tryd.f24 = some C_laws_eqIntS.erase := by kernel_rfl

def C_laws_eqTensor : Fun := ⟨2, 23,
  .seq (
  .reg [⟨some 2, none, .box (.t 0)⟩,
        ⟨some 3, none, .box (.t 1)⟩,
        ⟨some 4, none, .mv (.c (.d (.bool false)))⟩]) (
  .seq (
  .seq (
  .reg [⟨some 5, none, .fld 0 (.t 2)⟩,
        ⟨some 6, none, .ld (.t 5)⟩,
        ⟨some 7, none, .fld 0 (.t 3)⟩,
        ⟨some 8, none, .ld (.t 7)⟩,
        ⟨some 9, none, .call 24 [(.t 6), (.t 8)]⟩,
        ⟨some 10, none, .not (.t 9)⟩]) (
  .cond (.t 10) (
    .seq (
    .reg [⟨some 4, none, .mv (.c (.d (.bool false)))⟩]) (
    .ret)) (
    .skip))) (
  .seq (
  .seq (
  .reg [⟨some 11, none, .fld 1 (.t 2)⟩,
        ⟨some 12, none, .ld (.t 11)⟩,
        ⟨some 13, none, .fld 1 (.t 3)⟩,
        ⟨some 14, none, .ld (.t 13)⟩,
        ⟨some 15, none, .call 24 [(.t 12), (.t 14)]⟩,
        ⟨some 16, none, .not (.t 15)⟩]) (
  .cond (.t 16) (
    .seq (
    .reg [⟨some 4, none, .mv (.c (.d (.bool false)))⟩]) (
    .ret)) (
    .skip))) (
  .seq (
  .seq (
  .reg [⟨some 17, none, .fld 2 (.t 2)⟩,
        ⟨some 18, none, .ld (.t 17)⟩,
        ⟨some 19, none, .fld 2 (.t 3)⟩,
        ⟨some 20, none, .ld (.t 19)⟩,
        ⟨some 21, none, .call 24 [(.t 18), (.t 20)]⟩,
        ⟨some 22, none, .not (.t 21)⟩]) (
  .cond (.t 22) (
    .seq (
    .reg [⟨some 4, none, .mv (.c (.d (.bool false)))⟩]) (
    .ret)) (
    .skip))) (
  .seq (
  .reg [⟨some 4, none, .mv (.c (.d (.bool true)))⟩]) (
  .ret))))),
  [.t 4]⟩

theorem k_laws_eqTensor : cFun Tryd.prog Tryd.f9 = some C_laws_eqTensor.erase := by kernel_rfl

def L0_laws_markIntS : C :=
      .seq (
      .seq (
      .reg [⟨some 6, none, .mv (.t 5)⟩,
            ⟨some 7, none, .mv (.t 0)⟩,
            ⟨some 8, none, .len (.t 7)⟩,
            ⟨some 9, none, .bin .lss (.t 6) (.t 8)⟩]) (
      .cond (.t 9) (
        .skip) (
        .exit 0))) (
      .seq (
      .block 1 (
        .seq (
        .reg [⟨some 12, none, .mv (.t 0)⟩,
              ⟨some 13, none, .mv (.t 5)⟩,
              ⟨some 14, none, .mv (.t 1)⟩,
              ⟨some 15, none, .idx 1 (.t 12) (.t 13)⟩,
              ⟨none, none, .st 1 (.t 15) (.t 14)⟩]) (
        .reg [⟨some 16, none, .mv (.t 1)⟩,
              ⟨some 17, none, .bin .add (.t 16) (.c (.d (.int 1)))⟩,
              ⟨some 1, none, .mv (.t 17)⟩]))) (
      .reg [⟨some 10, none, .mv (.t 5)⟩,
            ⟨some 11, none, .bin .add (.t 10) (.c (.d (.int 1)))⟩,
            ⟨some 5, none, .mv (.t 11)⟩]))

def C_laws_markIntS : Fun := ⟨2, 19,
  .seq (
  .reg [⟨some 4, none, .mv (.c (.d (.int 0)))⟩]) (
  .seq (
  .seq (
  .reg [⟨some 5, none, .mv (.c (.d (.int 0)))⟩]) (
  .block 0 (
    .loop L0_laws_markIntS))) (
  .seq (
  .reg [⟨some 18, none, .mv (.t 1)⟩,
        ⟨some 4, none, .mv (.t 18)⟩]) (
  .ret))),
  [.t 4]⟩

def L0_laws_heldIntS : C :=
      .seq (
      .seq (
      .reg [⟨some 6, none, .mv (.t 5)⟩,
            ⟨some 7, none, .mv (.t 0)⟩,
            ⟨some 8, none, .len (.t 7)⟩,
            ⟨some 9, none, .bin .lss (.t 6) (.t 8)⟩]) (
      .cond (.t 9) (
        .skip) (
        .exit 0))) (
      .seq (
      .block 1 (
        .seq (
        .seq (
        .reg [⟨some 12, none, .mv (.t 0)⟩,
              ⟨some 13, none, .mv (.t 5)⟩,
              ⟨some 14, none, .idx 1 (.t 12) (.t 13)⟩,
              ⟨some 15, none, .ld (.t 14)⟩,
              ⟨some 16, none, .mv (.t 1)⟩,
              ⟨some 17, none, .bin .neq (.t 15) (.t 16)⟩]) (
        .cond (.t 17) (
          .seq (
          .reg [⟨some 4, none, .mv (.c (.d (.int (-1))))⟩]) (
          .ret)) (
          .skip))) (
        .reg [⟨some 18, none, .mv (.t 1)⟩,
              ⟨some 19, none, .bin .add (.t 18) (.c (.d (.int 1)))⟩,
              ⟨some 1, none, .mv (.t 19)⟩]))) (
      .reg [⟨some 10, none, .mv (.t 5)⟩,
            ⟨some 11, none, .bin .add (.t 10) (.c (.d (.int 1)))⟩,
            ⟨some 5, none, .mv (.t 11)⟩]))

def C_laws_heldIntS : Fun := ⟨2, 21,
  .seq (
  .reg [⟨some 4, none, .mv (.c (.d (.int 0)))⟩]) (
  .seq (
  .seq (
  .reg [⟨some 5, none, .mv (.c (.d (.int 0)))⟩]) (
  .block 0 (
    .loop L0_laws_heldIntS))) (
  .seq (
  .reg [⟨some 20, none, .mv (.t 1)⟩,
        ⟨some 4, none, .mv (.t 20)⟩]) (
  .ret))),
  [.t 4]⟩

def C_impl_copyInts : Fun := ⟨1, 5,
  .seq (
  .reg [⟨some 2, none, .mv (.c (.nil))⟩]) (
  .seq (
  .reg [⟨some 3, none, .mv (.t 0)⟩,
        ⟨some 4, none, .app 1 8 [.d (.int 0)] (.c (.nil)) (.t 3)⟩,
        ⟨some 2, none, .mv (.t 4)⟩]) (
  .ret)),
  [.t 2]⟩

def C_impl_rawElem : Fun := ⟨3, 20,
  .seq (
  .reg [⟨some 3, none, .box (.t 0)⟩,
        ⟨some 4, none, .box (.t 1)⟩,
        ⟨some 6, none, .mv (.c (.nil))⟩]) (
  .seq (
  .reg [⟨some 8, none, .ldn 3 (.t 3)⟩,
        ⟨some 9, none, .call 33 [(.t 8)]⟩,
        ⟨some 7, none, .mv (.t 9)⟩]) (
  .seq (
  .reg [⟨some 10, none, .fld 2 (.t 4)⟩,
        ⟨some 11, none, .ld (.t 10)⟩,
        ⟨some 12, none, .mv (.t 2)⟩,
        ⟨some 13, none, .mv (.t 7)⟩,
        ⟨some 14, none, .bin .mul (.t 12) (.t 13)⟩,
        ⟨some 15, none, .mv (.t 2)⟩,
        ⟨some 16, none, .bin .add (.t 15) (.c (.d (.int 1)))⟩,
        ⟨some 17, none, .mv (.t 7)⟩,
        ⟨some 18, none, .bin .mul (.t 16) (.t 17)⟩,
        ⟨some 19, none, .slc 1 (.t 11) (some (.t 14)) (some (.t 18))⟩,
        ⟨some 6, none, .mv (.t 19)⟩]) (
  .ret))),
  [.t 6]⟩

theorem k_impl_rawElem : cFun Tryd.prog Tryd.f22 = some C_impl_rawElem.erase := by kernel_rfl

def C_spec_l05Get : Fun := ⟨3, 23,
  .seq (
  .reg [⟨some 3, none, .box (.t 0)⟩,
        ⟨some 4, none, .box (.t 1)⟩,
        ⟨some 6, none, .mv (.c (.nil))⟩]) (
  .seq (
  .reg [⟨some 8, none, .ldn 3 (.t 3)⟩,
        ⟨some 9, none, .call 27 [(.t 8)]⟩,
        ⟨some 7, none, .mv (.t 9)⟩]) (
  .seq (
  .reg [⟨some 10, none, .mksl 1 0 [.d (.int 0)] []⟩,
        ⟨some 11, none, .fld 2 (.t 4)⟩,
        ⟨some 12, none, .ld (.t 11)⟩,
        ⟨some 13, none, .mv (.t 2)⟩,
        ⟨some 14, none, .mv (.t 7)⟩,
        ⟨some 15, none, .bin .mul (.t 13) (.t 14)⟩,
        ⟨some 16, none, .mv (.t 2)⟩,
        ⟨some 17, none, .mv (.t 7)⟩,
        ⟨some 18, none, .bin .mul (.t 16) (.t 17)⟩,
        ⟨some 19, none, .mv (.t 7)⟩,
        ⟨some 20, none, .bin .add (.t 18) (.t 19)⟩,
        ⟨some 21, none, .slc 1 (.t 12) (some (.t 15)) (some (.t 20))⟩,
        ⟨some 22, none, .app 1 8 [.d (.int 0)] (.t 10) (.t 21)⟩,
        ⟨some 6, none, .mv (.t 22)⟩]) (
  .ret))),
  [.t 6]⟩

theorem k_spec_l05Get : cFun Tryd.prog Tryd.f15 = some C_spec_l05Get.erase := by kernel_rfl

end Go.Proofs.YtodlbhjnmdhjiaaDoor

/-
  The compiled code of functions of the seat (written by mkcode.py). No condition.
-/
namespace Go.Proofs.YtodlbhjnmdhjiaaDoor
open Go.Lift

def C_spec_TensorSize : Fun := ⟨1, 16,
 .seq (
 .reg [⟨some 1, none, .box (.t 0)⟩,
 ⟨some 2, none, .mv (.c (.d (.int 0)))⟩]) (
 .seq (
 .seq (
 .reg [⟨some 4, none, .fld 0 (.t 1)⟩,
 ⟨some 5, none, .ld (.t 4)⟩,
 ⟨some 6, none, .fld 1 (.t 1)⟩,
 ⟨some 7, none, .ld (.t 6)⟩,
 ⟨some 8, none, .call 37 [(.t 5), (.t 7)]⟩,
 ⟨some 9, none, .not (.t 8)⟩]) (
 .cond (.t 9) (
 .seq (
 .reg [⟨some 2, none, .mv (.c (.d (.int (-1))))⟩]) (
 .ret)) (
 .skip))) (
 .seq (
 .reg [⟨some 10, none, .fld 1 (.t 1)⟩,
 ⟨some 11, none, .ld (.t 10)⟩,
 ⟨some 12, none, .call 13 [(.t 11), (.c (.d (.int 4096)))]⟩,
 ⟨some 3, none, .mv (.t 12)⟩]) (
 .seq (
 .seq (
 .reg [⟨some 13, none, .mv (.t 3)⟩,
 ⟨some 14, none, .bin .gtr (.t 13) (.c (.d (.int 4096)))⟩]) (
 .cond (.t 14) (
 .seq (
 .reg [⟨some 2, none, .mv (.c (.d (.int (-1))))⟩]) (
 .ret)) (
 .skip))) (
 .seq (
 .reg [⟨some 15, none, .mv (.t 3)⟩,
 ⟨some 2, none, .mv (.t 15)⟩]) (
 .ret))))),
 [.t 2]⟩

theorem k_spec_TensorSize : cFun Tryd.prog Tryd.f25 = some C_spec_TensorSize.erase := by kernel_rfl

def L0_impl_TensorSize : C :=
 .seq (
 .reg [⟨some 24, none, .bin .lss (.t 23) (.t 22)⟩]) (
 .seq (
 .cond (.t 24) (
 .skip) (
 .exit 0)) (
 .seq (
 .block 1 (
 .seq (
 .reg [⟨some 25, none, .mv (.t 23)⟩,
 ⟨some 26, none, .idx 1 (.t 21) (.t 23)⟩,
 ⟨some 27, none, .ld (.t 26)⟩,
 ⟨some 4, none, .mv (.t 25)⟩,
 ⟨some 5, none, .mv (.t 27)⟩]) (
 .seq (
 .seq (
 .reg [⟨some 28, none, .mv (.t 5)⟩,
 ⟨some 29, none, .bin .lss (.t 28) (.c (.d (.int 0)))⟩,
 ⟨some 30, none, .mv (.t 29)⟩,
 ⟨some 31, some (30, false), .mv (.t 5)⟩,
 ⟨some 32, some (30, false), .bin .gtr (.t 31) (.c (.d (.int 99)))⟩,
 ⟨some 33, none, .pick (.t 30) (.c (.d (.bool true))) (.t 32)⟩,
 ⟨some 34, none, .mv (.t 33)⟩,
 ⟨some 35, some (34, false), .fld 0 (.t 1)⟩,
 ⟨some 36, some (34, false), .ld (.t 35)⟩,
 ⟨some 37, some (34, false), .mv (.t 4)⟩,
 ⟨some 38, some (34, false), .slc 1 (.t 36) none (some (.t 37))⟩,
 ⟨some 39, some (34, false), .mv (.t 5)⟩,
 ⟨some 40, some (34, false), .call 41 [(.t 38), (.t 39)]⟩,
 ⟨some 41, none, .pick (.t 34) (.c (.d (.bool true))) (.t 40)⟩]) (
 .cond (.t 41) (
 .seq (
 .reg [⟨some 2, none, .mv (.c (.d (.int (-1))))⟩]) (
 .ret)) (
 .skip))) (
 .seq (
 .reg [⟨some 42, none, .fld 1 (.t 1)⟩,
 ⟨some 43, none, .ld (.t 42)⟩,
 ⟨some 44, none, .mv (.t 4)⟩,
 ⟨some 45, none, .idx 1 (.t 43) (.t 44)⟩,
 ⟨some 46, none, .ld (.t 45)⟩,
 ⟨some 6, none, .mv (.t 46)⟩]) (
 .seq (
 .seq (
 .reg [⟨some 47, none, .mv (.t 6)⟩,
 ⟨some 48, none, .bin .lss (.t 47) (.c (.d (.int 1)))⟩,
 ⟨some 49, none, .mv (.t 48)⟩,
 ⟨some 50, some (49, false), .mv (.t 6)⟩,
 ⟨some 51, some (49, false), .bin .gtr (.t 50) (.c (.d (.int 8)))⟩,
 ⟨some 52, none, .pick (.t 49) (.c (.d (.bool true))) (.t 51)⟩,
 ⟨some 53, none, .mv (.t 52)⟩,
 ⟨some 54, some (53, false), .mv (.t 3)⟩,
 ⟨some 55, some (53, false), .mv (.t 6)⟩,
 ⟨some 56, some (53, false), .bin .mul (.t 54) (.t 55)⟩,
 ⟨some 57, some (53, false), .bin .gtr (.t 56) (.c (.d (.int 4096)))⟩,
 ⟨some 58, none, .pick (.t 53) (.c (.d (.bool true))) (.t 57)⟩]) (
 .cond (.t 58) (
 .seq (
 .reg [⟨some 2, none, .mv (.c (.d (.int (-1))))⟩]) (
 .ret)) (
 .skip))) (
 .reg [⟨some 59, none, .mv (.t 3)⟩,
 ⟨some 60, none, .mv (.t 6)⟩,
 ⟨some 61, none, .bin .mul (.t 59) (.t 60)⟩,
 ⟨some 3, none, .mv (.t 61)⟩])))))) (
 .reg [⟨some 62, none, .bin .add (.t 23) (.c (.d (.int 1)))⟩,
 ⟨some 23, none, .mv (.t 62)⟩])))

def C_impl_TensorSize : Fun := ⟨1, 64,
 .seq (
 .reg [⟨some 1, none, .box (.t 0)⟩,
 ⟨some 2, none, .mv (.c (.d (.int 0)))⟩]) (
 .seq (
 .seq (
 .reg [⟨some 7, none, .fld 0 (.t 1)⟩,
 ⟨some 8, none, .ld (.t 7)⟩,
 ⟨some 9, none, .len (.t 8)⟩,
 ⟨some 10, none, .bin .gtr (.t 9) (.c (.d (.int 12)))⟩,
 ⟨some 11, none, .mv (.t 10)⟩,
 ⟨some 12, some (11, false), .fld 0 (.t 1)⟩,
 ⟨some 13, some (11, false), .ld (.t 12)⟩,
 ⟨some 14, some (11, false), .len (.t 13)⟩,
 ⟨some 15, some (11, false), .fld 1 (.t 1)⟩,
 ⟨some 16, some (11, false), .ld (.t 15)⟩,
 ⟨some 17, some (11, false), .len (.t 16)⟩,
 ⟨some 18, some (11, false), .bin .neq (.t 14) (.t 17)⟩,
 ⟨some 19, none, .pick (.t 11) (.c (.d (.bool true))) (.t 18)⟩]) (
 .cond (.t 19) (
 .seq (
 .reg [⟨some 2, none, .mv (.c (.d (.int (-1))))⟩]) (
 .ret)) (
 .skip))) (
 .seq (
 .reg [⟨some 3, none, .mv (.c (.d (.int 1)))⟩]) (
 .seq (
 .seq (
 .reg [⟨some 20, none, .fld 0 (.t 1)⟩,
 ⟨some 21, none, .ld (.t 20)⟩,
 ⟨some 22, none, .len (.t 21)⟩,
 ⟨some 23, none, .mv (.c (.d (.int 0)))⟩]) (
 .block 0 (
 .loop L0_impl_TensorSize))) (
 .seq (
 .reg [⟨some 63, none, .mv (.t 3)⟩,
 ⟨some 2, none, .mv (.t 63)⟩]) (
 .ret))))),
 [.t 2]⟩

theorem k_impl_TensorSize : cFun Tryd.prog Tryd.f32 = some C_impl_TensorSize.erase := by kernel_rfl

def L0_spec_OffsetOf : C :=
 .seq (
 .reg [⟨some 22, none, .bin .lss (.t 21) (.t 20)⟩]) (
 .seq (
 .cond (.t 22) (
 .skip) (
 .exit 0)) (
 .seq (
 .block 1 (
 .seq (
 .reg [⟨some 23, none, .mv (.t 21)⟩,
 ⟨some 24, none, .idx 1 (.t 19) (.t 21)⟩,
 ⟨some 25, none, .ld (.t 24)⟩,
 ⟨some 5, none, .mv (.t 23)⟩,
 ⟨some 6, none, .mv (.t 25)⟩]) (
 .seq (
 .reg [⟨some 26, none, .mv (.t 1)⟩,
 ⟨some 27, none, .mv (.t 5)⟩,
 ⟨some 28, none, .idx 1 (.t 26) (.t 27)⟩,
 ⟨some 29, none, .ld (.t 28)⟩,
 ⟨some 30, none, .mv (.t 6)⟩,
 ⟨some 31, none, .bin .sub (.t 30) (.c (.d (.int 1)))⟩,
 ⟨some 32, none, .call 28 [(.t 29), (.c (.d (.int 0))), (.t 31)]⟩,
 ⟨some 33, none, .not (.t 32)⟩]) (
 .cond (.t 33) (
 .seq (
 .reg [⟨some 4, none, .mv (.c (.d (.int (-1))))⟩]) (
 .ret)) (
 .skip))))) (
 .reg [⟨some 34, none, .bin .add (.t 21) (.c (.d (.int 1)))⟩,
 ⟨some 21, none, .mv (.t 34)⟩])))

def L0_spec_TensorOk : C :=
 .seq (
 .reg [⟨some 31, none, .bin .lss (.t 30) (.t 29)⟩]) (
 .seq (
 .cond (.t 31) (
 .skip) (
 .exit 0)) (
 .seq (
 .block 1 (
 .seq (
 .reg [⟨some 32, none, .idx 1 (.t 28) (.t 30)⟩,
 ⟨some 33, none, .ld (.t 32)⟩,
 ⟨some 7, none, .mv (.t 33)⟩]) (
 .seq (
 .reg [⟨some 34, none, .mv (.t 7)⟩,
 ⟨some 35, none, .ldn 3 (.t 2)⟩,
 ⟨some 36, none, .call 29 [(.t 35)]⟩,
 ⟨some 37, none, .call 28 [(.t 34), (.c (.d (.int 0))), (.t 36)]⟩,
 ⟨some 38, none, .not (.t 37)⟩]) (
 .cond (.t 38) (
 .seq (
 .reg [⟨some 4, none, .mv (.c (.d (.bool false)))⟩]) (
 .ret)) (
 .skip))))) (
 .reg [⟨some 39, none, .bin .add (.t 30) (.c (.d (.int 1)))⟩,
 ⟨some 30, none, .mv (.t 39)⟩])))

def C_spec_TensorOk : Fun := ⟨2, 40,
 .seq (
 .reg [⟨some 2, none, .box (.t 0)⟩,
 ⟨some 3, none, .box (.t 1)⟩,
 ⟨some 4, none, .mv (.c (.d (.bool false)))⟩]) (
 .seq (
 .reg [⟨some 8, none, .ldn 3 (.t 3)⟩,
 ⟨some 9, none, .call 25 [(.t 8)]⟩,
 ⟨some 5, none, .mv (.t 9)⟩]) (
 .seq (
 .seq (
 .draw [⟨some 10, none, .ldn 3 (.t 2)⟩,
 ⟨some 11, none, .call 26 [(.t 10)]⟩,
 ⟨some 12, none, .not (.t 11)⟩,
 ⟨some 13, none, .mv (.t 12)⟩,
 ⟨some 14, some (13, false), .mv (.t 5)⟩,
 ⟨some 15, some (13, false), .bin .lss (.t 14) (.c (.d (.int 0)))⟩,
 ⟨some 16, none, .pick (.t 13) (.c (.d (.bool true))) (.t 15)⟩,
 ⟨some 17, none, .mv (.t 16)⟩,
 ⟨some 18, some (17, false), .fld 2 (.t 3)⟩,
 ⟨some 19, some (17, false), .ld (.t 18)⟩,
 ⟨some 20, some (17, false), .len (.t 19)⟩,
 ⟨some 21, some (17, false), .mv (.t 5)⟩,
 ⟨some 22, some (17, false), .ldn 3 (.t 2)⟩,
 ⟨some 23, some (17, false), .call 27 [(.t 22)]⟩,
 ⟨some 24, some (17, false), .bin .mul (.t 21) (.t 23)⟩]
 [⟨some 25, some (17, false), .bin .neq (.t 20) (.t 24)⟩,
 ⟨some 26, none, .pick (.t 17) (.c (.d (.bool true))) (.t 25)⟩]) (
 .cond (.t 26) (
 .seq (
 .reg [⟨some 4, none, .mv (.c (.d (.bool false)))⟩]) (
 .ret)) (
 .skip))) (
 .seq (
 .seq (
 .reg [⟨some 27, none, .fld 2 (.t 3)⟩,
 ⟨some 28, none, .ld (.t 27)⟩,
 ⟨some 29, none, .len (.t 28)⟩,
 ⟨some 30, none, .mv (.c (.d (.int 0)))⟩]) (
 .block 0 (
 .loop L0_spec_TensorOk))) (
 .seq (
 .reg [⟨some 4, none, .mv (.c (.d (.bool true)))⟩]) (
 .ret))))),
 [.t 4]⟩

theorem k_spec_TensorOk : cFun Tryd.prog Tryd.f11 = some C_spec_TensorOk.erase := by kernel_rfl

def C_impl_TensorOk : Fun := ⟨2, 29,
 .seq (
 .reg [⟨some 2, none, .box (.t 0)⟩,
 ⟨some 3, none, .box (.t 1)⟩,
 ⟨some 4, none, .mv (.c (.d (.bool false)))⟩]) (
 .seq (
 .seq (
 .reg [⟨some 6, none, .ldn 3 (.t 2)⟩,
 ⟨some 7, none, .call 31 [(.t 6)]⟩,
 ⟨some 8, none, .not (.t 7)⟩]) (
 .cond (.t 8) (
 .seq (
 .reg [⟨some 4, none, .mv (.c (.d (.bool false)))⟩]) (
 .ret)) (
 .skip))) (
 .seq (
 .reg [⟨some 9, none, .ldn 3 (.t 3)⟩,
 ⟨some 10, none, .call 32 [(.t 9)]⟩,
 ⟨some 5, none, .mv (.t 10)⟩]) (
 .seq (
 .draw [⟨some 11, none, .mv (.t 5)⟩,
 ⟨some 12, none, .bin .neq (.t 11) (.c (.d (.int (-1))))⟩,
 ⟨some 13, none, .mv (.t 12)⟩,
 ⟨some 14, some (13, true), .fld 2 (.t 3)⟩,
 ⟨some 15, some (13, true), .ld (.t 14)⟩,
 ⟨some 16, some (13, true), .len (.t 15)⟩,
 ⟨some 17, some (13, true), .mv (.t 5)⟩,
 ⟨some 18, some (13, true), .ldn 3 (.t 2)⟩,
 ⟨some 19, some (13, true), .call 33 [(.t 18)]⟩,
 ⟨some 20, some (13, true), .bin .mul (.t 17) (.t 19)⟩,
 ⟨some 21, some (13, true), .bin .eql (.t 16) (.t 20)⟩,
 ⟨some 22, none, .pick (.t 13) (.t 21) (.c (.d (.bool false)))⟩,
 ⟨some 23, none, .mv (.t 22)⟩,
 ⟨some 24, some (23, true), .ldn 3 (.t 2)⟩,
 ⟨some 25, some (23, true), .fld 2 (.t 3)⟩,
 ⟨some 26, some (23, true), .ld (.t 25)⟩]
 [⟨some 27, some (23, true), .call 34 [(.t 24), (.t 26)]⟩,
 ⟨some 28, none, .pick (.t 23) (.t 27) (.c (.d (.bool false)))⟩,
 ⟨some 4, none, .mv (.t 28)⟩]) (
 .ret)))),
 [.t 4]⟩

theorem k_impl_TensorOk : cFun Tryd.prog Tryd.f18 = some C_impl_TensorOk.erase := by kernel_rfl

def L0_spec_DiagonalTensor : C :=
 .seq (
 .reg [⟨some 107, none, .bin .lss (.t 106) (.t 105)⟩]) (
 .seq (
 .cond (.t 107) (
 .skip) (
 .exit 4)) (
 .seq (
 .block 5 (
 .seq (
 .reg [⟨some 108, none, .mv (.t 106)⟩,
 ⟨some 109, none, .idx 1 (.t 104) (.t 106)⟩,
 ⟨some 110, none, .ld (.t 109)⟩,
 ⟨some 18, none, .mv (.t 108)⟩,
 ⟨some 19, none, .mv (.t 110)⟩]) (
 .draw [⟨some 111, none, .mv (.t 17)⟩,
 ⟨some 112, none, .fld 0 (.t 5)⟩,
 ⟨some 113, none, .ld (.t 112)⟩,
 ⟨some 114, none, .mv (.t 19)⟩,
 ⟨some 115, none, .call 47 [(.t 113), (.t 114)]⟩,
 ⟨some 116, none, .mv (.t 16)⟩,
 ⟨some 117, none, .mv (.t 18)⟩,
 ⟨some 118, none, .idx 1 (.t 116) (.t 117)⟩,
 ⟨some 119, none, .ld (.t 118)⟩]
 [⟨some 120, none, .idx 1 (.t 111) (.t 115)⟩,
 ⟨none, none, .st 1 (.t 120) (.t 119)⟩]))) (
 .reg [⟨some 121, none, .bin .add (.t 106) (.c (.d (.int 1)))⟩,
 ⟨some 106, none, .mv (.t 121)⟩])))

def L2_spec_DiagonalTensor : C :=
 .seq (
 .reg [⟨some 64, none, .bin .lss (.t 63) (.t 62)⟩]) (
 .seq (
 .cond (.t 64) (
 .skip) (
 .exit 0)) (
 .seq (
 .block 1 (
 .seq (
 .reg [⟨some 65, none, .mv (.t 63)⟩,
 ⟨some 66, none, .idx 1 (.t 61) (.t 63)⟩,
 ⟨some 67, none, .ld (.t 66)⟩,
 ⟨some 13, none, .mv (.t 65)⟩,
 ⟨some 14, none, .mv (.t 67)⟩]) (
 .seq (
 .reg [⟨some 68, none, .mv (.t 13)⟩,
 ⟨some 69, none, .mv (.t 11)⟩,
 ⟨some 70, none, .bin .neq (.t 68) (.t 69)⟩]) (
 .cond (.t 70) (
 .seq (
 .reg [⟨some 71, none, .fld 0 (.t 12)⟩,
 ⟨some 72, none, .ld (.t 71)⟩,
 ⟨some 73, none, .mv (.t 14)⟩,
 ⟨some 74, none, .mksl 1 1 [.d (.int 0)] [(0, 1, (.t 73))]⟩,
 ⟨some 75, none, .app 1 8 [.d (.int 0)] (.t 72) (.t 74)⟩,
 ⟨some 76, none, .fld 0 (.t 12)⟩,
 ⟨none, none, .st 1 (.t 76) (.t 75)⟩]) (
 .draw [⟨some 77, none, .fld 1 (.t 12)⟩,
 ⟨some 78, none, .ld (.t 77)⟩,
 ⟨some 79, none, .fld 1 (.t 5)⟩,
 ⟨some 80, none, .ld (.t 79)⟩,
 ⟨some 81, none, .mv (.t 13)⟩,
 ⟨some 82, none, .idx 1 (.t 80) (.t 81)⟩,
 ⟨some 83, none, .ld (.t 82)⟩,
 ⟨some 84, none, .mksl 1 1 [.d (.int 0)] [(0, 1, (.t 83))]⟩]
 [⟨some 85, none, .app 1 8 [.d (.int 0)] (.t 78) (.t 84)⟩,
 ⟨some 86, none, .fld 1 (.t 12)⟩,
 ⟨none, none, .st 1 (.t 86) (.t 85)⟩])) (
 .skip))))) (
 .reg [⟨some 87, none, .bin .add (.t 63) (.c (.d (.int 1)))⟩,
 ⟨some 63, none, .mv (.t 87)⟩])))

def L1_impl_DiagonalTensor : C :=
 .seq (
 .reg [⟨some 95, none, .bin .lss (.t 94) (.t 93)⟩]) (
 .seq (
 .cond (.t 95) (
 .skip) (
 .exit 2)) (
 .seq (
 .block 3 (
 .seq (
 .reg [⟨some 96, none, .mv (.t 94)⟩,
 ⟨some 97, none, .idx 1 (.t 92) (.t 94)⟩,
 ⟨some 98, none, .ld (.t 97)⟩,
 ⟨some 17, none, .mv (.t 96)⟩,
 ⟨some 18, none, .mv (.t 98)⟩]) (
 .seq (
 .reg [⟨some 99, none, .mv (.t 18)⟩,
 ⟨some 100, none, .mv (.t 2)⟩,
 ⟨some 101, none, .bin .eql (.t 99) (.t 100)⟩]) (
 .cond (.t 101) (
 .reg [⟨some 102, none, .mv (.t 15)⟩,
 ⟨some 103, none, .mv (.t 17)⟩,
 ⟨some 104, none, .idx 1 (.t 102) (.t 103)⟩,
 ⟨some 105, none, .ld (.t 104)⟩,
 ⟨some 106, none, .mv (.t 16)⟩,
 ⟨some 107, none, .bin .add (.t 105) (.t 106)⟩,
 ⟨some 108, none, .idx 1 (.t 102) (.t 103)⟩,
 ⟨none, none, .st 1 (.t 108) (.t 107)⟩]) (
 .skip))))) (
 .reg [⟨some 109, none, .bin .add (.t 94) (.c (.d (.int 1)))⟩,
 ⟨some 94, none, .mv (.t 109)⟩])))

def L0_spec_l05Axes : C :=
 .seq (
 .reg [⟨some 20, none, .bin .lss (.t 19) (.t 18)⟩]) (
 .seq (
 .cond (.t 20) (
 .skip) (
 .exit 0)) (
 .seq (
 .block 1 (
 .seq (
 .reg [⟨some 21, none, .mv (.t 19)⟩,
 ⟨some 22, none, .idx 1 (.t 17) (.t 19)⟩,
 ⟨some 23, none, .ld (.t 22)⟩,
 ⟨some 5, none, .mv (.t 21)⟩,
 ⟨some 6, none, .mv (.t 23)⟩]) (
 .seq (
 .reg [⟨some 24, none, .mv (.t 6)⟩,
 ⟨some 25, none, .call 28 [(.t 24), (.c (.d (.int 0))), (.c (.d (.int 99)))]⟩,
 ⟨some 26, none, .not (.t 25)⟩,
 ⟨some 27, none, .mv (.t 26)⟩,
 ⟨some 28, some (27, false), .mv (.t 1)⟩,
 ⟨some 29, some (27, false), .mv (.t 5)⟩,
 ⟨some 30, some (27, false), .idx 1 (.t 28) (.t 29)⟩,
 ⟨some 31, some (27, false), .ld (.t 30)⟩,
 ⟨some 32, some (27, false), .call 28 [(.t 31), (.c (.d (.int 1))), (.c (.d (.int 8)))]⟩,
 ⟨some 33, some (27, false), .not (.t 32)⟩,
 ⟨some 34, none, .pick (.t 27) (.c (.d (.bool true))) (.t 33)⟩,
 ⟨some 35, none, .mv (.t 34)⟩,
 ⟨some 36, some (35, false), .mv (.t 0)⟩,
 ⟨some 37, some (35, false), .mv (.t 5)⟩,
 ⟨some 38, some (35, false), .slc 1 (.t 36) none (some (.t 37))⟩,
 ⟨some 39, some (35, false), .mv (.t 6)⟩,
 ⟨some 40, some (35, false), .call 47 [(.t 38), (.t 39)]⟩,
 ⟨some 41, some (35, false), .bin .geq (.t 40) (.c (.d (.int 0)))⟩,
 ⟨some 42, none, .pick (.t 35) (.c (.d (.bool true))) (.t 41)⟩]) (
 .cond (.t 42) (
 .seq (
 .reg [⟨some 4, none, .mv (.c (.d (.bool false)))⟩]) (
 .ret)) (
 .skip))))) (
 .reg [⟨some 43, none, .bin .add (.t 19) (.c (.d (.int 1)))⟩,
 ⟨some 19, none, .mv (.t 43)⟩])))

def C_spec_l05Axes : Fun := ⟨2, 44,
 .seq (
 .reg [⟨some 4, none, .mv (.c (.d (.bool false)))⟩]) (
 .seq (
 .seq (
 .reg [⟨some 7, none, .mv (.t 0)⟩,
 ⟨some 8, none, .len (.t 7)⟩,
 ⟨some 9, none, .bin .gtr (.t 8) (.c (.d (.int 12)))⟩,
 ⟨some 10, none, .mv (.t 9)⟩,
 ⟨some 11, some (10, false), .mv (.t 0)⟩,
 ⟨some 12, some (10, false), .len (.t 11)⟩,
 ⟨some 13, some (10, false), .mv (.t 1)⟩,
 ⟨some 14, some (10, false), .len (.t 13)⟩,
 ⟨some 15, some (10, false), .bin .neq (.t 12) (.t 14)⟩,
 ⟨some 16, none, .pick (.t 10) (.c (.d (.bool true))) (.t 15)⟩]) (
 .cond (.t 16) (
 .seq (
 .reg [⟨some 4, none, .mv (.c (.d (.bool false)))⟩]) (
 .ret)) (
 .skip))) (
 .seq (
 .seq (
 .reg [⟨some 17, none, .mv (.t 0)⟩,
 ⟨some 18, none, .len (.t 17)⟩,
 ⟨some 19, none, .mv (.c (.d (.int 0)))⟩]) (
 .block 0 (
 .loop L0_spec_l05Axes))) (
 .seq (
 .reg [⟨some 4, none, .mv (.c (.d (.bool true)))⟩]) (
 .ret)))),
 [.t 4]⟩

theorem k_spec_l05Axes : cFun Tryd.prog Tryd.f37 = some C_spec_l05Axes.erase := by kernel_rfl

def L0_spec_l05Product : C :=
 .seq (
 .reg [⟨some 11, none, .bin .lss (.t 10) (.t 9)⟩]) (
 .seq (
 .cond (.t 11) (
 .skip) (
 .exit 0)) (
 .seq (
 .block 1 (
 .seq (
 .reg [⟨some 12, none, .idx 1 (.t 8) (.t 10)⟩,
 ⟨some 13, none, .ld (.t 12)⟩,
 ⟨some 7, none, .mv (.t 13)⟩]) (
 .reg [⟨some 14, none, .mv (.t 5)⟩,
 ⟨some 15, none, .mv (.t 7)⟩,
 ⟨some 16, none, .bin .mul (.t 14) (.t 15)⟩,
 ⟨some 17, none, .mv (.t 1)⟩,
 ⟨some 18, none, .bin .add (.t 17) (.c (.d (.int 1)))⟩,
 ⟨some 19, none, .mnx false (.t 16) (.t 18)⟩,
 ⟨some 5, none, .mv (.t 19)⟩]))) (
 .reg [⟨some 20, none, .bin .add (.t 10) (.c (.d (.int 1)))⟩,
 ⟨some 10, none, .mv (.t 20)⟩])))

def C_spec_l05Product : Fun := ⟨2, 22,
 .seq (
 .reg [⟨some 4, none, .mv (.c (.d (.int 0)))⟩]) (
 .seq (
 .reg [⟨some 5, none, .mv (.c (.d (.int 1)))⟩]) (
 .seq (
 .seq (
 .reg [⟨some 8, none, .mv (.t 0)⟩,
 ⟨some 9, none, .len (.t 8)⟩,
 ⟨some 10, none, .mv (.c (.d (.int 0)))⟩]) (
 .block 0 (
 .loop L0_spec_l05Product))) (
 .seq (
 .reg [⟨some 21, none, .mv (.t 5)⟩,
 ⟨some 4, none, .mv (.t 21)⟩]) (
 .ret)))),
 [.t 4]⟩

theorem k_spec_l05Product : cFun Tryd.prog Tryd.f13 = some C_spec_l05Product.erase := by kernel_rfl

def L0_impl_hasInt : C :=
 .seq (
 .reg [⟨some 10, none, .bin .lss (.t 9) (.t 8)⟩]) (
 .seq (
 .cond (.t 10) (
 .skip) (
 .exit 0)) (
 .seq (
 .block 1 (
 .seq (
 .reg [⟨some 11, none, .idx 1 (.t 7) (.t 9)⟩,
 ⟨some 12, none, .ld (.t 11)⟩,
 ⟨some 6, none, .mv (.t 12)⟩]) (
 .seq (
 .reg [⟨some 13, none, .mv (.t 1)⟩,
 ⟨some 14, none, .mv (.t 6)⟩,
 ⟨some 15, none, .bin .eql (.t 13) (.t 14)⟩]) (
 .cond (.t 15) (
 .seq (
 .reg [⟨some 4, none, .mv (.c (.d (.bool true)))⟩]) (
 .ret)) (
 .skip))))) (
 .reg [⟨some 16, none, .bin .add (.t 9) (.c (.d (.int 1)))⟩,
 ⟨some 9, none, .mv (.t 16)⟩])))

def C_impl_hasInt : Fun := ⟨2, 17,
 .seq (
 .reg [⟨some 4, none, .mv (.c (.d (.bool false)))⟩]) (
 .seq (
 .seq (
 .reg [⟨some 7, none, .mv (.t 0)⟩,
 ⟨some 8, none, .len (.t 7)⟩,
 ⟨some 9, none, .mv (.c (.d (.int 0)))⟩]) (
 .block 0 (
 .loop L0_impl_hasInt))) (
 .seq (
 .reg [⟨some 4, none, .mv (.c (.d (.bool false)))⟩]) (
 .ret))),
 [.t 4]⟩

theorem k_impl_hasInt : cFun Tryd.prog Tryd.f41 = some C_impl_hasInt.erase := by kernel_rfl

def C_spec_l01In : Fun := ⟨3, 15,
 .seq (
 .reg [⟨some 6, none, .mv (.c (.d (.bool false)))⟩]) (
 .seq (
 .reg [⟨some 7, none, .mv (.t 0)⟩,
 ⟨some 8, none, .mv (.t 1)⟩,
 ⟨some 9, none, .bin .geq (.t 7) (.t 8)⟩,
 ⟨some 10, none, .mv (.t 9)⟩,
 ⟨some 11, some (10, true), .mv (.t 0)⟩,
 ⟨some 12, some (10, true), .mv (.t 2)⟩,
 ⟨some 13, some (10, true), .bin .leq (.t 11) (.t 12)⟩,
 ⟨some 14, none, .pick (.t 10) (.t 13) (.c (.d (.bool false)))⟩,
 ⟨some 6, none, .mv (.t 14)⟩]) (
 .ret)),
 [.t 6]⟩

theorem k_spec_l01In : cFun Tryd.prog Tryd.f28 = some C_spec_l01In.erase := by kernel_rfl

def L0_spec_l05Offset : C :=
 .seq (
 .reg [⟨some 11, none, .bin .lss (.t 10) (.t 9)⟩]) (
 .seq (
 .cond (.t 11) (
 .skip) (
 .exit 0)) (
 .seq (
 .block 1 (
 .seq (
 .reg [⟨some 12, none, .mv (.t 10)⟩,
 ⟨some 13, none, .idx 1 (.t 8) (.t 10)⟩,
 ⟨some 14, none, .ld (.t 13)⟩,
 ⟨some 6, none, .mv (.t 12)⟩,
 ⟨some 7, none, .mv (.t 14)⟩]) (
 .reg [⟨some 15, none, .mv (.t 5)⟩,
 ⟨some 16, none, .mv (.t 7)⟩,
 ⟨some 17, none, .bin .mul (.t 15) (.t 16)⟩,
 ⟨some 18, none, .mv (.t 1)⟩,
 ⟨some 19, none, .mv (.t 6)⟩,
 ⟨some 20, none, .idx 1 (.t 18) (.t 19)⟩,
 ⟨some 21, none, .ld (.t 20)⟩,
 ⟨some 22, none, .bin .add (.t 17) (.t 21)⟩,
 ⟨some 5, none, .mv (.t 22)⟩]))) (
 .reg [⟨some 23, none, .bin .add (.t 10) (.c (.d (.int 1)))⟩,
 ⟨some 10, none, .mv (.t 23)⟩])))

def C_spec_l05Offset : Fun := ⟨2, 25,
 .seq (
 .reg [⟨some 4, none, .mv (.c (.d (.int 0)))⟩]) (
 .seq (
 .reg [⟨some 5, none, .mv (.c (.d (.int 0)))⟩]) (
 .seq (
 .seq (
 .reg [⟨some 8, none, .mv (.t 0)⟩,
 ⟨some 9, none, .len (.t 8)⟩,
 ⟨some 10, none, .mv (.c (.d (.int 0)))⟩]) (
 .block 0 (
 .loop L0_spec_l05Offset))) (
 .seq (
 .reg [⟨some 24, none, .mv (.t 5)⟩,
 ⟨some 4, none, .mv (.t 24)⟩]) (
 .ret)))),
 [.t 4]⟩

def L0_impl_indexOk : C :=
 .seq (
 .reg [⟨some 15, none, .bin .lss (.t 14) (.t 13)⟩]) (
 .seq (
 .cond (.t 15) (
 .skip) (
 .exit 0)) (
 .seq (
 .block 1 (
 .seq (
 .reg [⟨some 16, none, .mv (.t 14)⟩,
 ⟨some 17, none, .idx 1 (.t 12) (.t 14)⟩,
 ⟨some 18, none, .ld (.t 17)⟩,
 ⟨some 5, none, .mv (.t 16)⟩,
 ⟨some 6, none, .mv (.t 18)⟩]) (
 .seq (
 .reg [⟨some 19, none, .mv (.t 6)⟩,
 ⟨some 20, none, .bin .lss (.t 19) (.c (.d (.int 0)))⟩,
 ⟨some 21, none, .mv (.t 20)⟩,
 ⟨some 22, some (21, false), .mv (.t 6)⟩,
 ⟨some 23, some (21, false), .mv (.t 0)⟩,
 ⟨some 24, some (21, false), .mv (.t 5)⟩,
 ⟨some 25, some (21, false), .idx 1 (.t 23) (.t 24)⟩,
 ⟨some 26, some (21, false), .ld (.t 25)⟩,
 ⟨some 27, some (21, false), .bin .geq (.t 22) (.t 26)⟩,
 ⟨some 28, none, .pick (.t 21) (.c (.d (.bool true))) (.t 27)⟩]) (
 .cond (.t 28) (
 .seq (
 .reg [⟨some 4, none, .mv (.c (.d (.bool false)))⟩]) (
 .ret)) (
 .skip))))) (
 .reg [⟨some 29, none, .bin .add (.t 14) (.c (.d (.int 1)))⟩,
 ⟨some 14, none, .mv (.t 29)⟩])))

def C_impl_indexOk : Fun := ⟨2, 30,
 .seq (
 .reg [⟨some 4, none, .mv (.c (.d (.bool false)))⟩]) (
 .seq (
 .seq (
 .reg [⟨some 7, none, .mv (.t 1)⟩,
 ⟨some 8, none, .len (.t 7)⟩,
 ⟨some 9, none, .mv (.t 0)⟩,
 ⟨some 10, none, .len (.t 9)⟩,
 ⟨some 11, none, .bin .neq (.t 8) (.t 10)⟩]) (
 .cond (.t 11) (
 .seq (
 .reg [⟨some 4, none, .mv (.c (.d (.bool false)))⟩]) (
 .ret)) (
 .skip))) (
 .seq (
 .seq (
 .reg [⟨some 12, none, .mv (.t 1)⟩,
 ⟨some 13, none, .len (.t 12)⟩,
 ⟨some 14, none, .mv (.c (.d (.int 0)))⟩]) (
 .block 0 (
 .loop L0_impl_indexOk))) (
 .seq (
 .reg [⟨some 4, none, .mv (.c (.d (.bool true)))⟩]) (
 .ret)))),
 [.t 4]⟩

def L0_impl_offsetIn : C :=
 .seq (
 .reg [⟨some 11, none, .bin .lss (.t 10) (.t 9)⟩]) (
 .seq (
 .cond (.t 11) (
 .skip) (
 .exit 0)) (
 .seq (
 .block 1 (
 .seq (
 .reg [⟨some 12, none, .mv (.t 10)⟩,
 ⟨some 13, none, .idx 1 (.t 8) (.t 10)⟩,
 ⟨some 14, none, .ld (.t 13)⟩,
 ⟨some 6, none, .mv (.t 12)⟩,
 ⟨some 7, none, .mv (.t 14)⟩]) (
 .reg [⟨some 15, none, .mv (.t 5)⟩,
 ⟨some 16, none, .mv (.t 0)⟩,
 ⟨some 17, none, .mv (.t 6)⟩,
 ⟨some 18, none, .idx 1 (.t 16) (.t 17)⟩,
 ⟨some 19, none, .ld (.t 18)⟩,
 ⟨some 20, none, .bin .mul (.t 15) (.t 19)⟩,
 ⟨some 21, none, .mv (.t 7)⟩,
 ⟨some 22, none, .bin .add (.t 20) (.t 21)⟩,
 ⟨some 5, none, .mv (.t 22)⟩]))) (
 .reg [⟨some 23, none, .bin .add (.t 10) (.c (.d (.int 1)))⟩,
 ⟨some 10, none, .mv (.t 23)⟩])))

def C_impl_offsetIn : Fun := ⟨2, 25,
 .seq (
 .reg [⟨some 4, none, .mv (.c (.d (.int 0)))⟩]) (
 .seq (
 .reg [⟨some 5, none, .mv (.c (.d (.int 0)))⟩]) (
 .seq (
 .seq (
 .reg [⟨some 8, none, .mv (.t 1)⟩,
 ⟨some 9, none, .len (.t 8)⟩,
 ⟨some 10, none, .mv (.c (.d (.int 0)))⟩]) (
 .block 0 (
 .loop L0_impl_offsetIn))) (
 .seq (
 .reg [⟨some 24, none, .mv (.t 5)⟩,
 ⟨some 4, none, .mv (.t 24)⟩]) (
 .ret)))),
 [.t 4]⟩

def L0_spec_l05Index : C :=
 .seq (
 .seq (
 .reg [⟨some 13, none, .mv (.t 6)⟩,
 ⟨some 14, none, .bin .geq (.t 13) (.c (.d (.int 0)))⟩]) (
 .cond (.t 14) (
 .skip) (
 .exit 0))) (
 .seq (
 .block 1 (
 .seq (
 .reg [⟨some 17, none, .mv (.t 5)⟩,
 ⟨some 18, none, .mv (.t 6)⟩,
 ⟨some 19, none, .mv (.t 1)⟩,
 ⟨some 20, none, .mv (.t 0)⟩,
 ⟨some 21, none, .mv (.t 6)⟩,
 ⟨some 22, none, .idx 1 (.t 20) (.t 21)⟩,
 ⟨some 23, none, .ld (.t 22)⟩,
 ⟨some 24, none, .bin .rem (.t 19) (.t 23)⟩,
 ⟨some 25, none, .idx 1 (.t 17) (.t 18)⟩,
 ⟨none, none, .st 1 (.t 25) (.t 24)⟩]) (
 .reg [⟨some 26, none, .mv (.t 1)⟩,
 ⟨some 27, none, .mv (.t 0)⟩,
 ⟨some 28, none, .mv (.t 6)⟩,
 ⟨some 29, none, .idx 1 (.t 27) (.t 28)⟩,
 ⟨some 30, none, .ld (.t 29)⟩,
 ⟨some 31, none, .bin .quo (.t 26) (.t 30)⟩,
 ⟨some 1, none, .mv (.t 31)⟩]))) (
 .reg [⟨some 15, none, .mv (.t 6)⟩,
 ⟨some 16, none, .bin .sub (.t 15) (.c (.d (.int 1)))⟩,
 ⟨some 6, none, .mv (.t 16)⟩]))

def C_spec_l05Index : Fun := ⟨2, 33,
 .seq (
 .reg [⟨some 4, none, .mv (.c (.nil))⟩]) (
 .seq (
 .reg [⟨some 7, none, .mv (.t 0)⟩,
 ⟨some 8, none, .len (.t 7)⟩,
 ⟨some 9, none, .make 1 8 [.d (.int 0)] (.t 8) (.t 8)⟩,
 ⟨some 5, none, .mv (.t 9)⟩]) (
 .seq (
 .seq (
 .reg [⟨some 10, none, .mv (.t 0)⟩,
 ⟨some 11, none, .len (.t 10)⟩,
 ⟨some 12, none, .bin .sub (.t 11) (.c (.d (.int 1)))⟩,
 ⟨some 6, none, .mv (.t 12)⟩]) (
 .block 0 (
 .loop L0_spec_l05Index))) (
 .seq (
 .reg [⟨some 32, none, .mv (.t 5)⟩,
 ⟨some 4, none, .mv (.t 32)⟩]) (
 .ret)))),
 [.t 4]⟩

def L0_impl_indexIn : C :=
 .seq (
 .seq (
 .reg [⟨some 13, none, .mv (.t 6)⟩,
 ⟨some 14, none, .bin .geq (.t 13) (.c (.d (.int 0)))⟩]) (
 .cond (.t 14) (
 .skip) (
 .exit 0))) (
 .seq (
 .block 1 (
 .seq (
 .reg [⟨some 17, none, .mv (.t 5)⟩,
 ⟨some 18, none, .mv (.t 6)⟩,
 ⟨some 19, none, .mv (.t 1)⟩,
 ⟨some 20, none, .mv (.t 0)⟩,
 ⟨some 21, none, .mv (.t 6)⟩,
 ⟨some 22, none, .idx 1 (.t 20) (.t 21)⟩,
 ⟨some 23, none, .ld (.t 22)⟩,
 ⟨some 24, none, .bin .rem (.t 19) (.t 23)⟩,
 ⟨some 25, none, .idx 1 (.t 17) (.t 18)⟩,
 ⟨none, none, .st 1 (.t 25) (.t 24)⟩]) (
 .reg [⟨some 26, none, .mv (.t 1)⟩,
 ⟨some 27, none, .mv (.t 0)⟩,
 ⟨some 28, none, .mv (.t 6)⟩,
 ⟨some 29, none, .idx 1 (.t 27) (.t 28)⟩,
 ⟨some 30, none, .ld (.t 29)⟩,
 ⟨some 31, none, .bin .quo (.t 26) (.t 30)⟩,
 ⟨some 1, none, .mv (.t 31)⟩]))) (
 .reg [⟨some 15, none, .mv (.t 6)⟩,
 ⟨some 16, none, .bin .sub (.t 15) (.c (.d (.int 1)))⟩,
 ⟨some 6, none, .mv (.t 16)⟩]))

def C_impl_indexIn : Fun := ⟨2, 33,
 .seq (
 .reg [⟨some 4, none, .mv (.c (.nil))⟩]) (
 .seq (
 .reg [⟨some 7, none, .mv (.t 0)⟩,
 ⟨some 8, none, .len (.t 7)⟩,
 ⟨some 9, none, .make 1 8 [.d (.int 0)] (.t 8) (.t 8)⟩,
 ⟨some 5, none, .mv (.t 9)⟩]) (
 .seq (
 .seq (
 .reg [⟨some 10, none, .mv (.t 0)⟩,
 ⟨some 11, none, .len (.t 10)⟩,
 ⟨some 12, none, .bin .sub (.t 11) (.c (.d (.int 1)))⟩,
 ⟨some 6, none, .mv (.t 12)⟩]) (
 .block 0 (
 .loop L0_impl_indexIn))) (
 .seq (
 .reg [⟨some 32, none, .mv (.t 5)⟩,
 ⟨some 4, none, .mv (.t 32)⟩]) (
 .ret)))),
 [.t 4]⟩

def L0_spec_l08Join : C :=
 .seq (
 .reg [⟨some 22, none, .bin .lss (.t 21) (.t 20)⟩]) (
 .seq (
 .cond (.t 22) (
 .skip) (
 .exit 0)) (
 .seq (
 .block 1 (
 .seq (
 .reg [⟨some 23, none, .mv (.t 21)⟩,
 ⟨some 24, none, .idx 1 (.t 19) (.t 21)⟩,
 ⟨some 25, none, .ld (.t 24)⟩,
 ⟨some 9, none, .mv (.t 23)⟩,
 ⟨some 10, none, .mv (.t 25)⟩]) (
 .seq (
 .reg [⟨some 26, none, .mv (.t 7)⟩,
 ⟨some 27, none, .mv (.t 10)⟩,
 ⟨some 28, none, .call 47 [(.t 26), (.t 27)]⟩,
 ⟨some 11, none, .mv (.t 28)⟩]) (
 .seq (
 .seq (
 .draw [⟨some 29, none, .mv (.t 11)⟩,
 ⟨some 30, none, .bin .geq (.t 29) (.c (.d (.int 0)))⟩,
 ⟨some 31, none, .mv (.t 30)⟩,
 ⟨some 32, some (31, true), .mv (.t 8)⟩,
 ⟨some 33, some (31, true), .mv (.t 11)⟩,
 ⟨some 34, some (31, true), .idx 1 (.t 32) (.t 33)⟩,
 ⟨some 35, some (31, true), .ld (.t 34)⟩,
 ⟨some 36, some (31, true), .fld 1 (.t 3)⟩,
 ⟨some 37, some (31, true), .ld (.t 36)⟩,
 ⟨some 38, some (31, true), .mv (.t 9)⟩,
 ⟨some 39, some (31, true), .idx 1 (.t 37) (.t 38)⟩,
 ⟨some 40, some (31, true), .ld (.t 39)⟩]
 [⟨some 41, some (31, true), .bin .neq (.t 35) (.t 40)⟩,
 ⟨some 42, none, .pick (.t 31) (.t 41) (.c (.d (.bool false)))⟩]) (
 .cond (.t 42) (
 .seq (
 .reg [⟨some 4, none, .mv (.c (.nil))⟩,
 ⟨some 5, none, .mv (.c (.nil))⟩,
 ⟨some 6, none, .mv (.c (.d (.bool false)))⟩]) (
 .ret)) (
 .skip))) (
 .seq (
 .reg [⟨some 43, none, .mv (.t 11)⟩,
 ⟨some 44, none, .bin .lss (.t 43) (.c (.d (.int 0)))⟩]) (
 .cond (.t 44) (
 .seq (
 .reg [⟨some 45, none, .mv (.t 7)⟩,
 ⟨some 46, none, .mv (.t 10)⟩,
 ⟨some 47, none, .mksl 1 1 [.d (.int 0)] [(0, 1, (.t 46))]⟩,
 ⟨some 48, none, .app 1 8 [.d (.int 0)] (.t 45) (.t 47)⟩,
 ⟨some 7, none, .mv (.t 48)⟩]) (
 .reg [⟨some 49, none, .mv (.t 8)⟩,
 ⟨some 50, none, .fld 1 (.t 3)⟩,
 ⟨some 51, none, .ld (.t 50)⟩,
 ⟨some 52, none, .mv (.t 9)⟩,
 ⟨some 53, none, .idx 1 (.t 51) (.t 52)⟩,
 ⟨some 54, none, .ld (.t 53)⟩,
 ⟨some 55, none, .mksl 1 1 [.d (.int 0)] [(0, 1, (.t 54))]⟩,
 ⟨some 56, none, .app 1 8 [.d (.int 0)] (.t 49) (.t 55)⟩,
 ⟨some 8, none, .mv (.t 56)⟩])) (
 .skip))))))) (
 .reg [⟨some 57, none, .bin .add (.t 21) (.c (.d (.int 1)))⟩,
 ⟨some 21, none, .mv (.t 57)⟩])))

def L0_impl_productOf : C :=
 .seq (
 .reg [⟨some 9, none, .bin .lss (.t 8) (.t 7)⟩]) (
 .seq (
 .cond (.t 9) (
 .skip) (
 .exit 0)) (
 .seq (
 .block 1 (
 .seq (
 .reg [⟨some 10, none, .idx 1 (.t 6) (.t 8)⟩,
 ⟨some 11, none, .ld (.t 10)⟩,
 ⟨some 5, none, .mv (.t 11)⟩]) (
 .reg [⟨some 12, none, .mv (.t 3)⟩,
 ⟨some 13, none, .mv (.t 5)⟩,
 ⟨some 14, none, .bin .mul (.t 12) (.t 13)⟩,
 ⟨some 3, none, .mv (.t 14)⟩]))) (
 .reg [⟨some 15, none, .bin .add (.t 8) (.c (.d (.int 1)))⟩,
 ⟨some 8, none, .mv (.t 15)⟩])))

def C_impl_productOf : Fun := ⟨1, 17,
 .seq (
 .reg [⟨some 2, none, .mv (.c (.d (.int 0)))⟩]) (
 .seq (
 .reg [⟨some 3, none, .mv (.c (.d (.int 1)))⟩]) (
 .seq (
 .seq (
 .reg [⟨some 6, none, .mv (.t 0)⟩,
 ⟨some 7, none, .len (.t 6)⟩,
 ⟨some 8, none, .mv (.c (.d (.int 0)))⟩]) (
 .block 0 (
 .loop L0_impl_productOf))) (
 .seq (
 .reg [⟨some 16, none, .mv (.t 3)⟩,
 ⟨some 2, none, .mv (.t 16)⟩]) (
 .ret)))),
 [.t 2]⟩

theorem k_impl_productOf : cFun Tryd.prog Tryd.f20 = some C_impl_productOf.erase := by kernel_rfl

def C_spec_RingOk : Fun := ⟨1, 72,
 .seq (
 .reg [⟨some 1, none, .box (.t 0)⟩,
 ⟨some 2, none, .mv (.c (.d (.bool false)))⟩]) (
 .seq (
 .seq (
 .reg [⟨some 3, none, .fld 0 (.t 1)⟩,
 ⟨some 4, none, .ld (.t 3)⟩]) (
 .block 0 (
 .seq (
 .reg [⟨some 6, none, .bin .eql (.t 4) (.c (.d (.int 1)))⟩,
 ⟨some 5, none, .mv (.t 6)⟩]) (
 .cond (.t 5) (
 .seq (
 .reg [⟨some 7, none, .fld 1 (.t 1)⟩,
 ⟨some 8, none, .ld (.t 7)⟩,
 ⟨some 9, none, .bin .eql (.t 8) (.c (.d (.int 0)))⟩,
 ⟨some 10, none, .mv (.t 9)⟩,
 ⟨some 11, some (10, true), .fld 2 (.t 1)⟩,
 ⟨some 12, some (10, true), .ld (.t 11)⟩,
 ⟨some 13, some (10, true), .bin .eql (.t 12) (.c (.d (.int 0)))⟩,
 ⟨some 14, none, .pick (.t 10) (.t 13) (.c (.d (.bool false)))⟩,
 ⟨some 2, none, .mv (.t 14)⟩]) (
 .ret)) (
 .seq (
 .reg [⟨some 16, none, .bin .eql (.t 4) (.c (.d (.int 2)))⟩,
 ⟨some 15, none, .mv (.t 16)⟩]) (
 .cond (.t 15) (
 .seq (
 .reg [⟨some 17, none, .fld 1 (.t 1)⟩,
 ⟨some 18, none, .ld (.t 17)⟩,
 ⟨some 19, none, .call 38 [(.t 18)]⟩,
 ⟨some 20, none, .mv (.t 19)⟩,
 ⟨some 21, some (20, true), .fld 2 (.t 1)⟩,
 ⟨some 22, some (20, true), .ld (.t 21)⟩,
 ⟨some 23, some (20, true), .bin .eql (.t 22) (.c (.d (.int 0)))⟩,
 ⟨some 24, none, .pick (.t 20) (.t 23) (.c (.d (.bool false)))⟩,
 ⟨some 2, none, .mv (.t 24)⟩]) (
 .ret)) (
 .seq (
 .seq (
 .reg [⟨some 26, none, .bin .eql (.t 4) (.c (.d (.int 3)))⟩,
 ⟨some 25, none, .mv (.t 26)⟩]) (
 .cond (.t 25) (
 .skip) (
 .seq (
 .reg [⟨some 27, none, .bin .eql (.t 4) (.c (.d (.int 4)))⟩,
 ⟨some 25, none, .mv (.t 27)⟩]) (
 .cond (.t 25) (
 .skip) (
 .reg [⟨some 28, none, .bin .eql (.t 4) (.c (.d (.int 5)))⟩,
 ⟨some 25, none, .mv (.t 28)⟩]))))) (
 .cond (.t 25) (
 .seq (
 .reg [⟨some 29, none, .fld 1 (.t 1)⟩,
 ⟨some 30, none, .ld (.t 29)⟩,
 ⟨some 31, none, .call 28 [(.t 30), (.c (.d (.int 1))), (.c (.d (.int 1000000)))]⟩,
 ⟨some 32, none, .mv (.t 31)⟩,
 ⟨some 33, some (32, true), .fld 2 (.t 1)⟩,
 ⟨some 34, some (32, true), .ld (.t 33)⟩,
 ⟨some 35, some (32, true), .bin .eql (.t 34) (.c (.d (.int 0)))⟩,
 ⟨some 36, none, .pick (.t 32) (.t 35) (.c (.d (.bool false)))⟩,
 ⟨some 2, none, .mv (.t 36)⟩]) (
 .ret)) (
 .seq (
 .reg [⟨some 38, none, .bin .eql (.t 4) (.c (.d (.int 6)))⟩,
 ⟨some 37, none, .mv (.t 38)⟩]) (
 .cond (.t 37) (
 .seq (
 .reg [⟨some 39, none, .fld 1 (.t 1)⟩,
 ⟨some 40, none, .ld (.t 39)⟩,
 ⟨some 41, none, .bin .eql (.t 40) (.c (.d (.int 0)))⟩,
 ⟨some 42, none, .mv (.t 41)⟩,
 ⟨some 43, some (42, true), .fld 2 (.t 1)⟩,
 ⟨some 44, some (42, true), .ld (.t 43)⟩,
 ⟨some 45, some (42, true), .call 28 [(.t 44), (.c (.d (.int 1))), (.c (.d (.int 20)))]⟩,
 ⟨some 46, none, .pick (.t 42) (.t 45) (.c (.d (.bool false)))⟩,
 ⟨some 2, none, .mv (.t 46)⟩]) (
 .ret)) (
 .seq (
 .reg [⟨some 48, none, .bin .eql (.t 4) (.c (.d (.int 7)))⟩,
 ⟨some 47, none, .mv (.t 48)⟩]) (
 .cond (.t 47) (
 .seq (
 .reg [⟨some 49, none, .fld 1 (.t 1)⟩,
 ⟨some 50, none, .ld (.t 49)⟩,
 ⟨some 51, none, .call 38 [(.t 50)]⟩,
 ⟨some 52, none, .mv (.t 51)⟩,
 ⟨some 53, some (52, true), .fld 2 (.t 1)⟩,
 ⟨some 54, some (52, true), .ld (.t 53)⟩,
 ⟨some 55, some (52, true), .call 28 [(.t 54), (.c (.d (.int 1))), (.c (.d (.int 6)))]⟩,
 ⟨some 56, none, .pick (.t 52) (.t 55) (.c (.d (.bool false)))⟩,
 ⟨some 2, none, .mv (.t 56)⟩]) (
 .ret)) (
 .seq (
 .reg [⟨some 58, none, .bin .eql (.t 4) (.c (.d (.int 8)))⟩,
 ⟨some 57, none, .mv (.t 58)⟩]) (
 .cond (.t 57) (
 .seq (
 .reg [⟨some 59, none, .fld 1 (.t 1)⟩,
 ⟨some 60, none, .ld (.t 59)⟩,
 ⟨some 61, none, .call 38 [(.t 60)]⟩,
 ⟨some 62, none, .mv (.t 61)⟩,
 ⟨some 63, some (62, true), .fld 1 (.t 1)⟩,
 ⟨some 64, some (62, true), .ld (.t 63)⟩,
 ⟨some 65, some (62, true), .bin .gtr (.t 64) (.c (.d (.int 2)))⟩,
 ⟨some 66, none, .pick (.t 62) (.t 65) (.c (.d (.bool false)))⟩,
 ⟨some 67, none, .mv (.t 66)⟩,
 ⟨some 68, some (67, true), .fld 2 (.t 1)⟩,
 ⟨some 69, some (67, true), .ld (.t 68)⟩,
 ⟨some 70, some (67, true), .bin .eql (.t 69) (.c (.d (.int 0)))⟩,
 ⟨some 71, none, .pick (.t 67) (.t 70) (.c (.d (.bool false)))⟩,
 ⟨some 2, none, .mv (.t 71)⟩]) (
 .ret)) (
 .skip))))))))))))))) (
 .seq (
 .reg [⟨some 2, none, .mv (.c (.d (.bool false)))⟩]) (
 .ret))),
 [.t 2]⟩

theorem k_spec_RingOk : cFun Tryd.prog Tryd.f26 = some C_spec_RingOk.erase := by kernel_rfl

def C_spec_l02Width : Fun := ⟨1, 11,
 .seq (
 .reg [⟨some 1, none, .box (.t 0)⟩,
 ⟨some 2, none, .mv (.c (.d (.int 0)))⟩]) (
 .seq (
 .seq (
 .reg [⟨some 3, none, .fld 0 (.t 1)⟩,
 ⟨some 4, none, .ld (.t 3)⟩]) (
 .block 0 (
 .seq (
 .reg [⟨some 6, none, .bin .eql (.t 4) (.c (.d (.int 7)))⟩,
 ⟨some 5, none, .mv (.t 6)⟩]) (
 .cond (.t 5) (
 .seq (
 .reg [⟨some 7, none, .fld 2 (.t 1)⟩,
 ⟨some 8, none, .ld (.t 7)⟩,
 ⟨some 2, none, .mv (.t 8)⟩]) (
 .ret)) (
 .seq (
 .reg [⟨some 10, none, .bin .eql (.t 4) (.c (.d (.int 8)))⟩,
 ⟨some 9, none, .mv (.t 10)⟩]) (
 .cond (.t 9) (
 .seq (
 .reg [⟨some 2, none, .mv (.c (.d (.int 4)))⟩]) (
 .ret)) (
 .skip))))))) (
 .seq (
 .reg [⟨some 2, none, .mv (.c (.d (.int 1)))⟩]) (
 .ret))),
 [.t 2]⟩

theorem k_spec_l02Width : cFun Tryd.prog Tryd.f27 = some C_spec_l02Width.erase := by kernel_rfl

def C_spec_l02Top : Fun := ⟨1, 22,
 .seq (
 .reg [⟨some 1, none, .box (.t 0)⟩,
 ⟨some 2, none, .mv (.c (.d (.int 0)))⟩]) (
 .seq (
 .seq (
 .reg [⟨some 3, none, .fld 0 (.t 1)⟩,
 ⟨some 4, none, .ld (.t 3)⟩]) (
 .block 0 (
 .seq (
 .reg [⟨some 6, none, .bin .eql (.t 4) (.c (.d (.int 1)))⟩,
 ⟨some 5, none, .mv (.t 6)⟩]) (
 .cond (.t 5) (
 .seq (
 .reg [⟨some 2, none, .mv (.c (.d (.int 1)))⟩]) (
 .ret)) (
 .seq (
 .seq (
 .reg [⟨some 8, none, .bin .eql (.t 4) (.c (.d (.int 3)))⟩,
 ⟨some 7, none, .mv (.t 8)⟩]) (
 .cond (.t 7) (
 .skip) (
 .seq (
 .reg [⟨some 9, none, .bin .eql (.t 4) (.c (.d (.int 4)))⟩,
 ⟨some 7, none, .mv (.t 9)⟩]) (
 .cond (.t 7) (
 .skip) (
 .reg [⟨some 10, none, .bin .eql (.t 4) (.c (.d (.int 5)))⟩,
 ⟨some 7, none, .mv (.t 10)⟩]))))) (
 .cond (.t 7) (
 .seq (
 .reg [⟨some 11, none, .fld 1 (.t 1)⟩,
 ⟨some 12, none, .ld (.t 11)⟩,
 ⟨some 2, none, .mv (.t 12)⟩]) (
 .ret)) (
 .seq (
 .reg [⟨some 14, none, .bin .eql (.t 4) (.c (.d (.int 6)))⟩,
 ⟨some 13, none, .mv (.t 14)⟩]) (
 .cond (.t 13) (
 .seq (
 .reg [⟨some 15, none, .fld 2 (.t 1)⟩,
 ⟨some 16, none, .ld (.t 15)⟩,
 ⟨some 17, none, .bin .shl (.c (.d (.int 1))) (.t 16)⟩,
 ⟨some 18, none, .bin .sub (.t 17) (.c (.d (.int 1)))⟩,
 ⟨some 2, none, .mv (.t 18)⟩]) (
 .ret)) (
 .skip))))))))) (
 .seq (
 .reg [⟨some 19, none, .fld 1 (.t 1)⟩,
 ⟨some 20, none, .ld (.t 19)⟩,
 ⟨some 21, none, .bin .sub (.t 20) (.c (.d (.int 1)))⟩,
 ⟨some 2, none, .mv (.t 21)⟩]) (
 .ret))),
 [.t 2]⟩

theorem k_spec_l02Top : cFun Tryd.prog Tryd.f29 = some C_spec_l02Top.erase := by kernel_rfl

def C_impl_RingOk : Fun := ⟨1, 87,
 .seq (
 .reg [⟨some 1, none, .box (.t 0)⟩,
 ⟨some 2, none, .mv (.c (.d (.bool false)))⟩]) (
 .seq (
 .seq (
 .reg [⟨some 3, none, .fld 0 (.t 1)⟩,
 ⟨some 4, none, .ld (.t 3)⟩]) (
 .block 0 (
 .seq (
 .reg [⟨some 6, none, .bin .eql (.t 4) (.c (.d (.int 1)))⟩,
 ⟨some 5, none, .mv (.t 6)⟩]) (
 .cond (.t 5) (
 .seq (
 .reg [⟨some 7, none, .fld 1 (.t 1)⟩,
 ⟨some 8, none, .ld (.t 7)⟩,
 ⟨some 9, none, .bin .eql (.t 8) (.c (.d (.int 0)))⟩,
 ⟨some 10, none, .mv (.t 9)⟩,
 ⟨some 11, some (10, true), .fld 2 (.t 1)⟩,
 ⟨some 12, some (10, true), .ld (.t 11)⟩,
 ⟨some 13, some (10, true), .bin .eql (.t 12) (.c (.d (.int 0)))⟩,
 ⟨some 14, none, .pick (.t 10) (.t 13) (.c (.d (.bool false)))⟩,
 ⟨some 2, none, .mv (.t 14)⟩]) (
 .ret)) (
 .seq (
 .reg [⟨some 16, none, .bin .eql (.t 4) (.c (.d (.int 2)))⟩,
 ⟨some 15, none, .mv (.t 16)⟩]) (
 .cond (.t 15) (
 .seq (
 .reg [⟨some 17, none, .fld 1 (.t 1)⟩,
 ⟨some 18, none, .ld (.t 17)⟩,
 ⟨some 19, none, .call 40 [(.t 18)]⟩,
 ⟨some 20, none, .mv (.t 19)⟩,
 ⟨some 21, some (20, true), .fld 2 (.t 1)⟩,
 ⟨some 22, some (20, true), .ld (.t 21)⟩,
 ⟨some 23, some (20, true), .bin .eql (.t 22) (.c (.d (.int 0)))⟩,
 ⟨some 24, none, .pick (.t 20) (.t 23) (.c (.d (.bool false)))⟩,
 ⟨some 2, none, .mv (.t 24)⟩]) (
 .ret)) (
 .seq (
 .seq (
 .reg [⟨some 26, none, .bin .eql (.t 4) (.c (.d (.int 3)))⟩,
 ⟨some 25, none, .mv (.t 26)⟩]) (
 .cond (.t 25) (
 .skip) (
 .seq (
 .reg [⟨some 27, none, .bin .eql (.t 4) (.c (.d (.int 4)))⟩,
 ⟨some 25, none, .mv (.t 27)⟩]) (
 .cond (.t 25) (
 .skip) (
 .reg [⟨some 28, none, .bin .eql (.t 4) (.c (.d (.int 5)))⟩,
 ⟨some 25, none, .mv (.t 28)⟩]))))) (
 .cond (.t 25) (
 .seq (
 .reg [⟨some 29, none, .fld 1 (.t 1)⟩,
 ⟨some 30, none, .ld (.t 29)⟩,
 ⟨some 31, none, .bin .geq (.t 30) (.c (.d (.int 1)))⟩,
 ⟨some 32, none, .mv (.t 31)⟩,
 ⟨some 33, some (32, true), .fld 1 (.t 1)⟩,
 ⟨some 34, some (32, true), .ld (.t 33)⟩,
 ⟨some 35, some (32, true), .bin .leq (.t 34) (.c (.d (.int 1000000)))⟩,
 ⟨some 36, none, .pick (.t 32) (.t 35) (.c (.d (.bool false)))⟩,
 ⟨some 37, none, .mv (.t 36)⟩,
 ⟨some 38, some (37, true), .fld 2 (.t 1)⟩,
 ⟨some 39, some (37, true), .ld (.t 38)⟩,
 ⟨some 40, some (37, true), .bin .eql (.t 39) (.c (.d (.int 0)))⟩,
 ⟨some 41, none, .pick (.t 37) (.t 40) (.c (.d (.bool false)))⟩,
 ⟨some 2, none, .mv (.t 41)⟩]) (
 .ret)) (
 .seq (
 .reg [⟨some 43, none, .bin .eql (.t 4) (.c (.d (.int 6)))⟩,
 ⟨some 42, none, .mv (.t 43)⟩]) (
 .cond (.t 42) (
 .seq (
 .reg [⟨some 44, none, .fld 1 (.t 1)⟩,
 ⟨some 45, none, .ld (.t 44)⟩,
 ⟨some 46, none, .bin .eql (.t 45) (.c (.d (.int 0)))⟩,
 ⟨some 47, none, .mv (.t 46)⟩,
 ⟨some 48, some (47, true), .fld 2 (.t 1)⟩,
 ⟨some 49, some (47, true), .ld (.t 48)⟩,
 ⟨some 50, some (47, true), .bin .geq (.t 49) (.c (.d (.int 1)))⟩,
 ⟨some 51, none, .pick (.t 47) (.t 50) (.c (.d (.bool false)))⟩,
 ⟨some 52, none, .mv (.t 51)⟩,
 ⟨some 53, some (52, true), .fld 2 (.t 1)⟩,
 ⟨some 54, some (52, true), .ld (.t 53)⟩,
 ⟨some 55, some (52, true), .bin .leq (.t 54) (.c (.d (.int 20)))⟩,
 ⟨some 56, none, .pick (.t 52) (.t 55) (.c (.d (.bool false)))⟩,
 ⟨some 2, none, .mv (.t 56)⟩]) (
 .ret)) (
 .seq (
 .reg [⟨some 58, none, .bin .eql (.t 4) (.c (.d (.int 7)))⟩,
 ⟨some 57, none, .mv (.t 58)⟩]) (
 .cond (.t 57) (
 .seq (
 .reg [⟨some 59, none, .fld 1 (.t 1)⟩,
 ⟨some 60, none, .ld (.t 59)⟩,
 ⟨some 61, none, .call 40 [(.t 60)]⟩,
 ⟨some 62, none, .mv (.t 61)⟩,
 ⟨some 63, some (62, true), .fld 2 (.t 1)⟩,
 ⟨some 64, some (62, true), .ld (.t 63)⟩,
 ⟨some 65, some (62, true), .bin .geq (.t 64) (.c (.d (.int 1)))⟩,
 ⟨some 66, none, .pick (.t 62) (.t 65) (.c (.d (.bool false)))⟩,
 ⟨some 67, none, .mv (.t 66)⟩,
 ⟨some 68, some (67, true), .fld 2 (.t 1)⟩,
 ⟨some 69, some (67, true), .ld (.t 68)⟩,
 ⟨some 70, some (67, true), .bin .leq (.t 69) (.c (.d (.int 6)))⟩,
 ⟨some 71, none, .pick (.t 67) (.t 70) (.c (.d (.bool false)))⟩,
 ⟨some 2, none, .mv (.t 71)⟩]) (
 .ret)) (
 .seq (
 .reg [⟨some 73, none, .bin .eql (.t 4) (.c (.d (.int 8)))⟩,
 ⟨some 72, none, .mv (.t 73)⟩]) (
 .cond (.t 72) (
 .seq (
 .reg [⟨some 74, none, .fld 1 (.t 1)⟩,
 ⟨some 75, none, .ld (.t 74)⟩,
 ⟨some 76, none, .call 40 [(.t 75)]⟩,
 ⟨some 77, none, .mv (.t 76)⟩,
 ⟨some 78, some (77, true), .fld 1 (.t 1)⟩,
 ⟨some 79, some (77, true), .ld (.t 78)⟩,
 ⟨some 80, some (77, true), .bin .neq (.t 79) (.c (.d (.int 2)))⟩,
 ⟨some 81, none, .pick (.t 77) (.t 80) (.c (.d (.bool false)))⟩,
 ⟨some 82, none, .mv (.t 81)⟩,
 ⟨some 83, some (82, true), .fld 2 (.t 1)⟩,
 ⟨some 84, some (82, true), .ld (.t 83)⟩,
 ⟨some 85, some (82, true), .bin .eql (.t 84) (.c (.d (.int 0)))⟩,
 ⟨some 86, none, .pick (.t 82) (.t 85) (.c (.d (.bool false)))⟩,
 ⟨some 2, none, .mv (.t 86)⟩]) (
 .ret)) (
 .skip))))))))))))))) (
 .seq (
 .reg [⟨some 2, none, .mv (.c (.d (.bool false)))⟩]) (
 .ret))),
 [.t 2]⟩

theorem k_impl_RingOk : cFun Tryd.prog Tryd.f31 = some C_impl_RingOk.erase := by kernel_rfl

def C_impl_rawWidth : Fun := ⟨1, 11,
 .seq (
 .reg [⟨some 1, none, .box (.t 0)⟩,
 ⟨some 2, none, .mv (.c (.d (.int 0)))⟩]) (
 .seq (
 .seq (
 .reg [⟨some 3, none, .fld 0 (.t 1)⟩,
 ⟨some 4, none, .ld (.t 3)⟩]) (
 .block 0 (
 .seq (
 .reg [⟨some 6, none, .bin .eql (.t 4) (.c (.d (.int 7)))⟩,
 ⟨some 5, none, .mv (.t 6)⟩]) (
 .cond (.t 5) (
 .seq (
 .reg [⟨some 7, none, .fld 2 (.t 1)⟩,
 ⟨some 8, none, .ld (.t 7)⟩,
 ⟨some 2, none, .mv (.t 8)⟩]) (
 .ret)) (
 .seq (
 .reg [⟨some 10, none, .bin .eql (.t 4) (.c (.d (.int 8)))⟩,
 ⟨some 9, none, .mv (.t 10)⟩]) (
 .cond (.t 9) (
 .seq (
 .reg [⟨some 2, none, .mv (.c (.d (.int 4)))⟩]) (
 .ret)) (
 .skip))))))) (
 .seq (
 .reg [⟨some 2, none, .mv (.c (.d (.int 1)))⟩]) (
 .ret))),
 [.t 2]⟩

theorem k_impl_rawWidth : cFun Tryd.prog Tryd.f33 = some C_impl_rawWidth.erase := by kernel_rfl

def L0_impl_inRing : C :=
 .seq (
 .reg [⟨some 13, none, .bin .lss (.t 12) (.t 11)⟩]) (
 .seq (
 .cond (.t 13) (
 .skip) (
 .exit 0)) (
 .seq (
 .block 1 (
 .seq (
 .reg [⟨some 14, none, .idx 1 (.t 10) (.t 12)⟩,
 ⟨some 15, none, .ld (.t 14)⟩,
 ⟨some 7, none, .mv (.t 15)⟩]) (
 .seq (
 .reg [⟨some 16, none, .mv (.t 7)⟩,
 ⟨some 17, none, .bin .lss (.t 16) (.c (.d (.int 0)))⟩,
 ⟨some 18, none, .mv (.t 17)⟩,
 ⟨some 19, some (18, false), .mv (.t 7)⟩,
 ⟨some 20, some (18, false), .mv (.t 5)⟩,
 ⟨some 21, some (18, false), .bin .gtr (.t 19) (.t 20)⟩,
 ⟨some 22, none, .pick (.t 18) (.c (.d (.bool true))) (.t 21)⟩]) (
 .cond (.t 22) (
 .seq (
 .reg [⟨some 4, none, .mv (.c (.d (.bool false)))⟩]) (
 .ret)) (
 .skip))))) (
 .reg [⟨some 23, none, .bin .add (.t 12) (.c (.d (.int 1)))⟩,
 ⟨some 12, none, .mv (.t 23)⟩])))

def C_impl_inRing : Fun := ⟨2, 24,
 .seq (
 .reg [⟨some 2, none, .box (.t 0)⟩,
 ⟨some 4, none, .mv (.c (.d (.bool false)))⟩]) (
 .seq (
 .reg [⟨some 8, none, .ldn 3 (.t 2)⟩,
 ⟨some 9, none, .call 42 [(.t 8)]⟩,
 ⟨some 5, none, .mv (.t 9)⟩]) (
 .seq (
 .seq (
 .reg [⟨some 10, none, .mv (.t 1)⟩,
 ⟨some 11, none, .len (.t 10)⟩,
 ⟨some 12, none, .mv (.c (.d (.int 0)))⟩]) (
 .block 0 (
 .loop L0_impl_inRing))) (
 .seq (
 .reg [⟨some 4, none, .mv (.c (.d (.bool true)))⟩]) (
 .ret)))),
 [.t 4]⟩

theorem k_impl_inRing : cFun Tryd.prog Tryd.f34 = some C_impl_inRing.erase := by kernel_rfl

def L0_spec_l06Names : C :=
 .seq (
 .reg [⟨some 16, none, .bin .lss (.t 15) (.t 14)⟩]) (
 .seq (
 .cond (.t 16) (
 .skip) (
 .exit 0)) (
 .seq (
 .block 1 (
 .seq (
 .reg [⟨some 17, none, .mv (.t 15)⟩,
 ⟨some 18, none, .idx 1 (.t 13) (.t 15)⟩,
 ⟨some 19, none, .ld (.t 18)⟩,
 ⟨some 8, none, .mv (.t 17)⟩,
 ⟨some 9, none, .mv (.t 19)⟩]) (
 .seq (
 .reg [⟨some 20, none, .mv (.t 1)⟩,
 ⟨some 21, none, .mv (.t 9)⟩,
 ⟨some 22, none, .call 47 [(.t 20), (.t 21)]⟩,
 ⟨some 10, none, .mv (.t 22)⟩]) (
 .seq (
 .reg [⟨some 23, none, .mv (.t 10)⟩,
 ⟨some 24, none, .bin .geq (.t 23) (.c (.d (.int 0)))⟩]) (
 .cond (.t 24) (
 .reg [⟨some 25, none, .mv (.t 7)⟩,
 ⟨some 26, none, .mv (.t 8)⟩,
 ⟨some 27, none, .mv (.t 2)⟩,
 ⟨some 28, none, .mv (.t 10)⟩,
 ⟨some 29, none, .idx 1 (.t 27) (.t 28)⟩,
 ⟨some 30, none, .ld (.t 29)⟩,
 ⟨some 31, none, .idx 1 (.t 25) (.t 26)⟩,
 ⟨none, none, .st 1 (.t 31) (.t 30)⟩]) (
 .skip)))))) (
 .reg [⟨some 32, none, .bin .add (.t 15) (.c (.d (.int 1)))⟩,
 ⟨some 15, none, .mv (.t 32)⟩])))

def L0_impl_renamed : C :=
 .seq (
 .reg [⟨some 12, none, .bin .lss (.t 11) (.t 10)⟩]) (
 .seq (
 .cond (.t 12) (
 .skip) (
 .exit 0)) (
 .seq (
 .block 1 (
 .seq (
 .reg [⟨some 13, none, .mv (.t 11)⟩,
 ⟨some 14, none, .idx 1 (.t 9) (.t 11)⟩,
 ⟨some 15, none, .ld (.t 14)⟩,
 ⟨some 7, none, .mv (.t 13)⟩,
 ⟨some 8, none, .mv (.t 15)⟩]) (
 .seq (
 .reg [⟨some 16, none, .mv (.t 8)⟩,
 ⟨some 17, none, .mv (.t 0)⟩,
 ⟨some 18, none, .bin .eql (.t 16) (.t 17)⟩]) (
 .cond (.t 18) (
 .seq (
 .reg [⟨some 19, none, .mv (.t 2)⟩,
 ⟨some 20, none, .mv (.t 7)⟩,
 ⟨some 21, none, .idx 1 (.t 19) (.t 20)⟩,
 ⟨some 22, none, .ld (.t 21)⟩,
 ⟨some 6, none, .mv (.t 22)⟩]) (
 .ret)) (
 .skip))))) (
 .reg [⟨some 23, none, .bin .add (.t 11) (.c (.d (.int 1)))⟩,
 ⟨some 11, none, .mv (.t 23)⟩])))

def C_impl_renamed : Fun := ⟨3, 25,
 .seq (
 .reg [⟨some 6, none, .mv (.c (.d (.int 0)))⟩]) (
 .seq (
 .seq (
 .reg [⟨some 9, none, .mv (.t 1)⟩,
 ⟨some 10, none, .len (.t 9)⟩,
 ⟨some 11, none, .mv (.c (.d (.int 0)))⟩]) (
 .block 0 (
 .loop L0_impl_renamed))) (
 .seq (
 .reg [⟨some 24, none, .mv (.t 0)⟩,
 ⟨some 6, none, .mv (.t 24)⟩]) (
 .ret))),
 [.t 6]⟩

def C_spec_ElemOk : Fun := ⟨2, 12,
 .seq (
 .reg [⟨some 2, none, .box (.t 0)⟩,
 ⟨some 4, none, .mv (.c (.d (.bool false)))⟩]) (
 .seq (
 .reg [⟨some 5, none, .ldn 3 (.t 2)⟩,
 ⟨some 6, none, .call 26 [(.t 5)]⟩,
 ⟨some 7, none, .mv (.t 6)⟩,
 ⟨some 8, some (7, true), .ldn 3 (.t 2)⟩,
 ⟨some 9, some (7, true), .mv (.t 1)⟩,
 ⟨some 10, some (7, true), .call 39 [(.t 8), (.t 9)]⟩,
 ⟨some 11, none, .pick (.t 7) (.t 10) (.c (.d (.bool false)))⟩,
 ⟨some 4, none, .mv (.t 11)⟩]) (
 .ret)),
 [.t 4]⟩

theorem k_spec_ElemOk : cFun Tryd.prog Tryd.f30 = some C_spec_ElemOk.erase := by kernel_rfl

def L0_spec_l05Put : C :=
 .seq (
 .reg [⟨some 15, none, .bin .lss (.t 14) (.t 13)⟩]) (
 .seq (
 .cond (.t 15) (
 .skip) (
 .exit 0)) (
 .seq (
 .block 1 (
 .seq (
 .reg [⟨some 16, none, .mv (.t 14)⟩,
 ⟨some 9, none, .mv (.t 16)⟩]) (
 .draw [⟨some 17, none, .fld 2 (.t 5)⟩,
 ⟨some 18, none, .ld (.t 17)⟩,
 ⟨some 19, none, .mv (.t 2)⟩,
 ⟨some 20, none, .mv (.t 8)⟩,
 ⟨some 21, none, .bin .mul (.t 19) (.t 20)⟩,
 ⟨some 22, none, .mv (.t 9)⟩,
 ⟨some 23, none, .bin .add (.t 21) (.t 22)⟩,
 ⟨some 24, none, .mv (.t 3)⟩,
 ⟨some 25, none, .mv (.t 9)⟩,
 ⟨some 26, none, .idx 1 (.t 24) (.t 25)⟩,
 ⟨some 27, none, .ld (.t 26)⟩]
 [⟨some 28, none, .idx 1 (.t 18) (.t 23)⟩,
 ⟨none, none, .st 1 (.t 28) (.t 27)⟩]))) (
 .reg [⟨some 29, none, .bin .add (.t 14) (.c (.d (.int 1)))⟩,
 ⟨some 14, none, .mv (.t 29)⟩])))

def C_spec_l05Put : Fun := ⟨4, 30,
 .seq (
 .reg [⟨some 4, none, .box (.t 0)⟩,
 ⟨some 5, none, .box (.t 1)⟩]) (
 .seq (
 .reg [⟨some 10, none, .ldn 3 (.t 4)⟩,
 ⟨some 11, none, .call 27 [(.t 10)]⟩,
 ⟨some 8, none, .mv (.t 11)⟩]) (
 .seq (
 .reg [⟨some 12, none, .mv (.t 3)⟩,
 ⟨some 13, none, .len (.t 12)⟩,
 ⟨some 14, none, .mv (.c (.d (.int 0)))⟩]) (
 .block 0 (
 .loop L0_spec_l05Put)))),
 []⟩

def C_impl_ElemOk : Fun := ⟨2, 19,
 .seq (
 .reg [⟨some 2, none, .box (.t 0)⟩,
 ⟨some 4, none, .mv (.c (.d (.bool false)))⟩]) (
 .seq (
 .reg [⟨some 5, none, .ldn 3 (.t 2)⟩,
 ⟨some 6, none, .call 31 [(.t 5)]⟩,
 ⟨some 7, none, .mv (.t 6)⟩,
 ⟨some 8, some (7, true), .mv (.t 1)⟩,
 ⟨some 9, some (7, true), .len (.t 8)⟩,
 ⟨some 10, some (7, true), .ldn 3 (.t 2)⟩,
 ⟨some 11, some (7, true), .call 33 [(.t 10)]⟩,
 ⟨some 12, some (7, true), .bin .eql (.t 9) (.t 11)⟩,
 ⟨some 13, none, .pick (.t 7) (.t 12) (.c (.d (.bool false)))⟩,
 ⟨some 14, none, .mv (.t 13)⟩,
 ⟨some 15, some (14, true), .ldn 3 (.t 2)⟩,
 ⟨some 16, some (14, true), .mv (.t 1)⟩,
 ⟨some 17, some (14, true), .call 34 [(.t 15), (.t 16)]⟩,
 ⟨some 18, none, .pick (.t 14) (.t 17) (.c (.d (.bool false)))⟩,
 ⟨some 4, none, .mv (.t 18)⟩]) (
 .ret)),
 [.t 4]⟩

def L0_spec_l05Find : C :=
 .seq (
 .reg [⟨some 10, none, .bin .lss (.t 9) (.t 8)⟩]) (
 .seq (
 .cond (.t 10) (
 .skip) (
 .exit 0)) (
 .seq (
 .block 1 (
 .seq (
 .reg [⟨some 11, none, .mv (.t 9)⟩,
 ⟨some 12, none, .idx 1 (.t 7) (.t 9)⟩,
 ⟨some 13, none, .ld (.t 12)⟩,
 ⟨some 5, none, .mv (.t 11)⟩,
 ⟨some 6, none, .mv (.t 13)⟩]) (
 .seq (
 .reg [⟨some 14, none, .mv (.t 6)⟩,
 ⟨some 15, none, .mv (.t 1)⟩,
 ⟨some 16, none, .bin .eql (.t 14) (.t 15)⟩]) (
 .cond (.t 16) (
 .seq (
 .reg [⟨some 17, none, .mv (.t 5)⟩,
 ⟨some 4, none, .mv (.t 17)⟩]) (
 .ret)) (
 .skip))))) (
 .reg [⟨some 18, none, .bin .add (.t 9) (.c (.d (.int 1)))⟩,
 ⟨some 9, none, .mv (.t 18)⟩])))

def C_spec_l05Find : Fun := ⟨2, 19,
 .seq (
 .reg [⟨some 4, none, .mv (.c (.d (.int 0)))⟩]) (
 .seq (
 .seq (
 .reg [⟨some 7, none, .mv (.t 0)⟩,
 ⟨some 8, none, .len (.t 7)⟩,
 ⟨some 9, none, .mv (.c (.d (.int 0)))⟩]) (
 .block 0 (
 .loop L0_spec_l05Find))) (
 .seq (
 .reg [⟨some 4, none, .mv (.c (.d (.int (-1))))⟩]) (
 .ret))),
 [.t 4]⟩

theorem k_spec_l05Find : cFun Tryd.prog Tryd.f47 = some C_spec_l05Find.erase := by kernel_rfl

def L1_spec_l09Slice : C :=
 .seq (
 .reg [⟨some 23, none, .bin .lss (.t 22) (.t 21)⟩]) (
 .seq (
 .cond (.t 23) (
 .skip) (
 .exit 0)) (
 .seq (
 .block 1 (
 .seq (
 .reg [⟨some 24, none, .mv (.t 22)⟩,
 ⟨some 25, none, .idx 1 (.t 20) (.t 22)⟩,
 ⟨some 26, none, .ld (.t 25)⟩,
 ⟨some 11, none, .mv (.t 24)⟩,
 ⟨some 12, none, .mv (.t 26)⟩]) (
 .seq (
 .reg [⟨some 27, none, .mv (.t 11)⟩,
 ⟨some 28, none, .mv (.t 10)⟩,
 ⟨some 29, none, .bin .neq (.t 27) (.t 28)⟩]) (
 .cond (.t 29) (
 .seq (
 .reg [⟨some 30, none, .fld 0 (.t 9)⟩,
 ⟨some 31, none, .ld (.t 30)⟩,
 ⟨some 32, none, .mv (.t 12)⟩,
 ⟨some 33, none, .mksl 1 1 [.d (.int 0)] [(0, 1, (.t 32))]⟩,
 ⟨some 34, none, .app 1 8 [.d (.int 0)] (.t 31) (.t 33)⟩,
 ⟨some 35, none, .fld 0 (.t 9)⟩,
 ⟨none, none, .st 1 (.t 35) (.t 34)⟩]) (
 .draw [⟨some 36, none, .fld 1 (.t 9)⟩,
 ⟨some 37, none, .ld (.t 36)⟩,
 ⟨some 38, none, .fld 1 (.t 5)⟩,
 ⟨some 39, none, .ld (.t 38)⟩,
 ⟨some 40, none, .mv (.t 11)⟩,
 ⟨some 41, none, .idx 1 (.t 39) (.t 40)⟩,
 ⟨some 42, none, .ld (.t 41)⟩,
 ⟨some 43, none, .mksl 1 1 [.d (.int 0)] [(0, 1, (.t 42))]⟩]
 [⟨some 44, none, .app 1 8 [.d (.int 0)] (.t 37) (.t 43)⟩,
 ⟨some 45, none, .fld 1 (.t 9)⟩,
 ⟨none, none, .st 1 (.t 45) (.t 44)⟩])) (
 .skip))))) (
 .reg [⟨some 46, none, .bin .add (.t 22) (.c (.d (.int 1)))⟩,
 ⟨some 22, none, .mv (.t 46)⟩])))

def L0_impl_axisOf : C :=
 .seq (
 .reg [⟨some 11, none, .bin .lss (.t 10) (.t 9)⟩]) (
 .seq (
 .cond (.t 11) (
 .skip) (
 .exit 0)) (
 .seq (
 .block 1 (
 .seq (
 .reg [⟨some 12, none, .mv (.t 10)⟩,
 ⟨some 13, none, .idx 1 (.t 8) (.t 10)⟩,
 ⟨some 14, none, .ld (.t 13)⟩,
 ⟨some 5, none, .mv (.t 12)⟩,
 ⟨some 6, none, .mv (.t 14)⟩]) (
 .seq (
 .reg [⟨some 15, none, .mv (.t 6)⟩,
 ⟨some 16, none, .mv (.t 1)⟩,
 ⟨some 17, none, .bin .eql (.t 15) (.t 16)⟩]) (
 .cond (.t 17) (
 .seq (
 .reg [⟨some 18, none, .mv (.t 5)⟩,
 ⟨some 4, none, .mv (.t 18)⟩]) (
 .ret)) (
 .skip))))) (
 .reg [⟨some 19, none, .bin .add (.t 10) (.c (.d (.int 1)))⟩,
 ⟨some 10, none, .mv (.t 19)⟩])))

def C_impl_axisOf : Fun := ⟨2, 20,
 .seq (
 .reg [⟨some 2, none, .box (.t 0)⟩,
 ⟨some 4, none, .mv (.c (.d (.int 0)))⟩]) (
 .seq (
 .seq (
 .reg [⟨some 7, none, .fld 0 (.t 2)⟩,
 ⟨some 8, none, .ld (.t 7)⟩,
 ⟨some 9, none, .len (.t 8)⟩,
 ⟨some 10, none, .mv (.c (.d (.int 0)))⟩]) (
 .block 0 (
 .loop L0_impl_axisOf))) (
 .seq (
 .reg [⟨some 4, none, .mv (.c (.d (.int (-1))))⟩]) (
 .ret))),
 [.t 4]⟩

def L0_impl_withoutInt : C :=
 .seq (
 .reg [⟨some 11, none, .bin .lss (.t 10) (.t 9)⟩]) (
 .seq (
 .cond (.t 11) (
 .skip) (
 .exit 0)) (
 .seq (
 .block 1 (
 .seq (
 .reg [⟨some 12, none, .idx 1 (.t 8) (.t 10)⟩,
 ⟨some 13, none, .ld (.t 12)⟩,
 ⟨some 7, none, .mv (.t 13)⟩]) (
 .seq (
 .reg [⟨some 14, none, .mv (.t 7)⟩,
 ⟨some 15, none, .mv (.t 1)⟩,
 ⟨some 16, none, .bin .neq (.t 14) (.t 15)⟩]) (
 .cond (.t 16) (
 .reg [⟨some 17, none, .mv (.t 5)⟩,
 ⟨some 18, none, .mv (.t 7)⟩,
 ⟨some 19, none, .mksl 1 1 [.d (.int 0)] [(0, 1, (.t 18))]⟩,
 ⟨some 20, none, .app 1 8 [.d (.int 0)] (.t 17) (.t 19)⟩,
 ⟨some 5, none, .mv (.t 20)⟩]) (
 .skip))))) (
 .reg [⟨some 21, none, .bin .add (.t 10) (.c (.d (.int 1)))⟩,
 ⟨some 10, none, .mv (.t 21)⟩])))

def C_impl_withoutInt : Fun := ⟨2, 23,
 .seq (
 .reg [⟨some 4, none, .mv (.c (.nil))⟩]) (
 .seq (
 .reg [⟨some 5, none, .mv (.c (.nil))⟩]) (
 .seq (
 .seq (
 .reg [⟨some 8, none, .mv (.t 0)⟩,
 ⟨some 9, none, .len (.t 8)⟩,
 ⟨some 10, none, .mv (.c (.d (.int 0)))⟩]) (
 .block 0 (
 .loop L0_impl_withoutInt))) (
 .seq (
 .reg [⟨some 22, none, .mv (.t 5)⟩,
 ⟨some 4, none, .mv (.t 22)⟩]) (
 .ret)))),
 [.t 4]⟩

def L0_impl_stridesOf : C :=
 .seq (
 .reg [⟨some 24, none, .bin .lss (.t 23) (.t 22)⟩]) (
 .seq (
 .cond (.t 24) (
 .skip) (
 .exit 2)) (
 .seq (
 .block 3 (
 .seq (
 .reg [⟨some 25, none, .mv (.t 23)⟩,
 ⟨some 26, none, .idx 1 (.t 21) (.t 23)⟩,
 ⟨some 27, none, .ld (.t 26)⟩,
 ⟨some 8, none, .mv (.t 25)⟩,
 ⟨some 9, none, .mv (.t 27)⟩]) (
 .seq (
 .reg [⟨some 28, none, .mv (.t 9)⟩,
 ⟨some 29, none, .fld 0 (.t 2)⟩,
 ⟨some 30, none, .ld (.t 29)⟩,
 ⟨some 31, none, .mv (.t 7)⟩,
 ⟨some 32, none, .idx 1 (.t 30) (.t 31)⟩,
 ⟨some 33, none, .ld (.t 32)⟩,
 ⟨some 34, none, .bin .eql (.t 28) (.t 33)⟩]) (
 .cond (.t 34) (
 .reg [⟨some 35, none, .mv (.t 5)⟩,
 ⟨some 36, none, .mv (.t 8)⟩,
 ⟨some 37, none, .mv (.t 6)⟩,
 ⟨some 38, none, .idx 1 (.t 35) (.t 36)⟩,
 ⟨none, none, .st 1 (.t 38) (.t 37)⟩]) (
 .skip))))) (
 .reg [⟨some 39, none, .bin .add (.t 23) (.c (.d (.int 1)))⟩,
 ⟨some 23, none, .mv (.t 39)⟩])))

def L1_impl_stridesOf : C :=
 .seq (
 .seq (
 .reg [⟨some 17, none, .mv (.t 7)⟩,
 ⟨some 18, none, .bin .geq (.t 17) (.c (.d (.int 0)))⟩]) (
 .cond (.t 18) (
 .skip) (
 .exit 0))) (
 .seq (
 .block 1 (
 .seq (
 .seq (
 .reg [⟨some 21, none, .mv (.t 1)⟩,
 ⟨some 22, none, .len (.t 21)⟩,
 ⟨some 23, none, .mv (.c (.d (.int 0)))⟩]) (
 .block 2 (
 .loop L0_impl_stridesOf))) (
 .reg [⟨some 40, none, .mv (.t 6)⟩,
 ⟨some 41, none, .fld 1 (.t 2)⟩,
 ⟨some 42, none, .ld (.t 41)⟩,
 ⟨some 43, none, .mv (.t 7)⟩,
 ⟨some 44, none, .idx 1 (.t 42) (.t 43)⟩,
 ⟨some 45, none, .ld (.t 44)⟩,
 ⟨some 46, none, .bin .mul (.t 40) (.t 45)⟩,
 ⟨some 6, none, .mv (.t 46)⟩]))) (
 .reg [⟨some 19, none, .mv (.t 7)⟩,
 ⟨some 20, none, .bin .sub (.t 19) (.c (.d (.int 1)))⟩,
 ⟨some 7, none, .mv (.t 20)⟩]))

def C_impl_stridesOf : Fun := ⟨2, 48,
 .seq (
 .reg [⟨some 2, none, .box (.t 0)⟩,
 ⟨some 4, none, .mv (.c (.nil))⟩]) (
 .seq (
 .reg [⟨some 10, none, .mv (.t 1)⟩,
 ⟨some 11, none, .len (.t 10)⟩,
 ⟨some 12, none, .make 1 8 [.d (.int 0)] (.t 11) (.t 11)⟩,
 ⟨some 5, none, .mv (.t 12)⟩]) (
 .seq (
 .reg [⟨some 6, none, .mv (.c (.d (.int 1)))⟩]) (
 .seq (
 .seq (
 .reg [⟨some 13, none, .fld 1 (.t 2)⟩,
 ⟨some 14, none, .ld (.t 13)⟩,
 ⟨some 15, none, .len (.t 14)⟩,
 ⟨some 16, none, .bin .sub (.t 15) (.c (.d (.int 1)))⟩,
 ⟨some 7, none, .mv (.t 16)⟩]) (
 .block 0 (
 .loop L1_impl_stridesOf))) (
 .seq (
 .reg [⟨some 47, none, .mv (.t 5)⟩,
 ⟨some 4, none, .mv (.t 47)⟩]) (
 .ret))))),
 [.t 4]⟩

def L0_impl_dotOf : C :=
 .seq (
 .reg [⟨some 10, none, .bin .lss (.t 9) (.t 8)⟩]) (
 .seq (
 .cond (.t 10) (
 .skip) (
 .exit 0)) (
 .seq (
 .block 1 (
 .seq (
 .reg [⟨some 11, none, .mv (.t 9)⟩,
 ⟨some 6, none, .mv (.t 11)⟩]) (
 .draw [⟨some 12, none, .mv (.t 5)⟩,
 ⟨some 13, none, .mv (.t 0)⟩,
 ⟨some 14, none, .mv (.t 6)⟩,
 ⟨some 15, none, .idx 1 (.t 13) (.t 14)⟩,
 ⟨some 16, none, .ld (.t 15)⟩,
 ⟨some 17, none, .mv (.t 1)⟩,
 ⟨some 18, none, .mv (.t 6)⟩,
 ⟨some 19, none, .idx 1 (.t 17) (.t 18)⟩,
 ⟨some 20, none, .ld (.t 19)⟩,
 ⟨some 21, none, .bin .mul (.t 16) (.t 20)⟩]
 [⟨some 22, none, .bin .add (.t 12) (.t 21)⟩,
 ⟨some 5, none, .mv (.t 22)⟩]))) (
 .reg [⟨some 23, none, .bin .add (.t 9) (.c (.d (.int 1)))⟩,
 ⟨some 9, none, .mv (.t 23)⟩])))

def C_impl_dotOf : Fun := ⟨2, 25,
 .seq (
 .reg [⟨some 4, none, .mv (.c (.d (.int 0)))⟩]) (
 .seq (
 .reg [⟨some 5, none, .mv (.c (.d (.int 0)))⟩]) (
 .seq (
 .seq (
 .reg [⟨some 7, none, .mv (.t 0)⟩,
 ⟨some 8, none, .len (.t 7)⟩,
 ⟨some 9, none, .mv (.c (.d (.int 0)))⟩]) (
 .block 0 (
 .loop L0_impl_dotOf))) (
 .seq (
 .reg [⟨some 24, none, .mv (.t 5)⟩,
 ⟨some 4, none, .mv (.t 24)⟩]) (
 .ret)))),
 [.t 4]⟩

def L0_impl_nextIndex : C :=
 .seq (
 .seq (
 .reg [⟨some 9, none, .mv (.t 5)⟩,
 ⟨some 10, none, .bin .geq (.t 9) (.c (.d (.int 0)))⟩]) (
 .cond (.t 10) (
 .skip) (
 .exit 0))) (
 .seq (
 .block 1 (
 .seq (
 .reg [⟨some 13, none, .mv (.t 1)⟩,
 ⟨some 14, none, .mv (.t 5)⟩,
 ⟨some 15, none, .idx 1 (.t 13) (.t 14)⟩,
 ⟨some 16, none, .ld (.t 15)⟩,
 ⟨some 17, none, .bin .add (.t 16) (.c (.d (.int 1)))⟩,
 ⟨some 18, none, .idx 1 (.t 13) (.t 14)⟩,
 ⟨none, none, .st 1 (.t 18) (.t 17)⟩]) (
 .seq (
 .seq (
 .draw [⟨some 19, none, .mv (.t 1)⟩,
 ⟨some 20, none, .mv (.t 5)⟩,
 ⟨some 21, none, .idx 1 (.t 19) (.t 20)⟩,
 ⟨some 22, none, .ld (.t 21)⟩,
 ⟨some 23, none, .mv (.t 0)⟩,
 ⟨some 24, none, .mv (.t 5)⟩,
 ⟨some 25, none, .idx 1 (.t 23) (.t 24)⟩,
 ⟨some 26, none, .ld (.t 25)⟩]
 [⟨some 27, none, .bin .lss (.t 22) (.t 26)⟩]) (
 .cond (.t 27) (
 .seq (
 .reg [⟨some 4, none, .mv (.c (.d (.bool true)))⟩]) (
 .ret)) (
 .skip))) (
 .reg [⟨some 28, none, .mv (.t 1)⟩,
 ⟨some 29, none, .mv (.t 5)⟩,
 ⟨some 30, none, .idx 1 (.t 28) (.t 29)⟩,
 ⟨none, none, .st 1 (.t 30) (.c (.d (.int 0)))⟩])))) (
 .reg [⟨some 11, none, .mv (.t 5)⟩,
 ⟨some 12, none, .bin .sub (.t 11) (.c (.d (.int 1)))⟩,
 ⟨some 5, none, .mv (.t 12)⟩]))

def C_impl_nextIndex : Fun := ⟨2, 31,
 .seq (
 .reg [⟨some 4, none, .mv (.c (.d (.bool false)))⟩]) (
 .seq (
 .seq (
 .reg [⟨some 6, none, .mv (.t 0)⟩,
 ⟨some 7, none, .len (.t 6)⟩,
 ⟨some 8, none, .bin .sub (.t 7) (.c (.d (.int 1)))⟩,
 ⟨some 5, none, .mv (.t 8)⟩]) (
 .block 0 (
 .loop L0_impl_nextIndex))) (
 .seq (
 .reg [⟨some 4, none, .mv (.c (.d (.bool false)))⟩]) (
 .ret))),
 [.t 4]⟩

def L0_spec_l02Elem : C :=
 .seq (
 .reg [⟨some 10, none, .bin .lss (.t 9) (.t 8)⟩]) (
 .seq (
 .cond (.t 10) (
 .skip) (
 .exit 0)) (
 .seq (
 .block 1 (
 .seq (
 .reg [⟨some 11, none, .idx 1 (.t 7) (.t 9)⟩,
 ⟨some 12, none, .ld (.t 11)⟩,
 ⟨some 6, none, .mv (.t 12)⟩]) (
 .seq (
 .reg [⟨some 13, none, .mv (.t 6)⟩,
 ⟨some 14, none, .ldn 3 (.t 2)⟩,
 ⟨some 15, none, .call 29 [(.t 14)]⟩,
 ⟨some 16, none, .call 28 [(.t 13), (.c (.d (.int 0))), (.t 15)]⟩,
 ⟨some 17, none, .not (.t 16)⟩]) (
 .cond (.t 17) (
 .seq (
 .reg [⟨some 4, none, .mv (.c (.d (.bool false)))⟩]) (
 .ret)) (
 .skip))))) (
 .reg [⟨some 18, none, .bin .add (.t 9) (.c (.d (.int 1)))⟩,
 ⟨some 9, none, .mv (.t 18)⟩])))

def C_spec_l02Elem : Fun := ⟨2, 24,
 .seq (
 .reg [⟨some 2, none, .box (.t 0)⟩,
 ⟨some 4, none, .mv (.c (.d (.bool false)))⟩]) (
 .seq (
 .seq (
 .reg [⟨some 7, none, .mv (.t 1)⟩,
 ⟨some 8, none, .len (.t 7)⟩,
 ⟨some 9, none, .mv (.c (.d (.int 0)))⟩]) (
 .block 0 (
 .loop L0_spec_l02Elem))) (
 .seq (
 .reg [⟨some 19, none, .mv (.t 1)⟩,
 ⟨some 20, none, .len (.t 19)⟩,
 ⟨some 21, none, .ldn 3 (.t 2)⟩,
 ⟨some 22, none, .call 27 [(.t 21)]⟩,
 ⟨some 23, none, .bin .eql (.t 20) (.t 22)⟩,
 ⟨some 4, none, .mv (.t 23)⟩]) (
 .ret))),
 [.t 4]⟩

theorem k_spec_l02Elem : cFun Tryd.prog Tryd.f39 = some C_spec_l02Elem.erase := by kernel_rfl

def L0_spec_l02Mul : C :=
 .seq (
 .reg [⟨some 27, none, .bin .lss (.t 26) (.t 25)⟩]) (
 .seq (
 .cond (.t 27) (
 .skip) (
 .exit 3)) (
 .seq (
 .block 4 (
 .seq (
 .reg [⟨some 28, none, .mv (.t 26)⟩,
 ⟨some 29, none, .idx 1 (.t 24) (.t 26)⟩,
 ⟨some 30, none, .ld (.t 29)⟩,
 ⟨some 10, none, .mv (.t 28)⟩,
 ⟨some 11, none, .mv (.t 30)⟩]) (
 .block 5 (
 .seq (
 .reg [⟨some 32, none, .mv (.t 8)⟩,
 ⟨some 33, none, .mv (.t 10)⟩,
 ⟨some 34, none, .bin .add (.t 32) (.t 33)⟩,
 ⟨some 35, none, .mv (.t 7)⟩,
 ⟨some 36, none, .len (.t 35)⟩,
 ⟨some 37, none, .bin .lss (.t 34) (.t 36)⟩,
 ⟨some 31, none, .mv (.t 37)⟩]) (
 .cond (.t 31) (
 .draw [⟨some 38, none, .mv (.t 7)⟩,
 ⟨some 39, none, .mv (.t 8)⟩,
 ⟨some 40, none, .mv (.t 10)⟩,
 ⟨some 41, none, .bin .add (.t 39) (.t 40)⟩,
 ⟨some 42, none, .mv (.t 7)⟩,
 ⟨some 43, none, .mv (.t 8)⟩,
 ⟨some 44, none, .mv (.t 10)⟩,
 ⟨some 45, none, .bin .add (.t 43) (.t 44)⟩,
 ⟨some 46, none, .idx 1 (.t 42) (.t 45)⟩,
 ⟨some 47, none, .ld (.t 46)⟩,
 ⟨some 48, none, .mv (.t 9)⟩,
 ⟨some 49, none, .mv (.t 11)⟩,
 ⟨some 50, none, .bin .mul (.t 48) (.t 49)⟩,
 ⟨some 51, none, .bin .add (.t 47) (.t 50)⟩,
 ⟨some 52, none, .fld 1 (.t 3)⟩,
 ⟨some 53, none, .ld (.t 52)⟩,
 ⟨some 54, none, .bin .rem (.t 51) (.t 53)⟩]
 [⟨some 55, none, .idx 1 (.t 38) (.t 41)⟩,
 ⟨none, none, .st 1 (.t 55) (.t 54)⟩]) (
 .seq (
 .reg [⟨some 57, none, .fld 0 (.t 3)⟩,
 ⟨some 58, none, .ld (.t 57)⟩,
 ⟨some 59, none, .bin .eql (.t 58) (.c (.d (.int 8)))⟩,
 ⟨some 56, none, .mv (.t 59)⟩]) (
 .cond (.t 56) (
 .draw [⟨some 60, none, .mv (.t 7)⟩,
 ⟨some 61, none, .mv (.t 8)⟩,
 ⟨some 62, none, .mv (.t 10)⟩,
 ⟨some 63, none, .bin .add (.t 61) (.t 62)⟩,
 ⟨some 64, none, .bin .sub (.t 63) (.c (.d (.int 4)))⟩,
 ⟨some 65, none, .mv (.t 7)⟩,
 ⟨some 66, none, .mv (.t 8)⟩,
 ⟨some 67, none, .mv (.t 10)⟩,
 ⟨some 68, none, .bin .add (.t 66) (.t 67)⟩,
 ⟨some 69, none, .bin .sub (.t 68) (.c (.d (.int 4)))⟩,
 ⟨some 70, none, .idx 1 (.t 65) (.t 69)⟩,
 ⟨some 71, none, .ld (.t 70)⟩,
 ⟨some 72, none, .fld 1 (.t 3)⟩,
 ⟨some 73, none, .ld (.t 72)⟩,
 ⟨some 74, none, .mv (.t 9)⟩,
 ⟨some 75, none, .bin .sub (.t 73) (.t 74)⟩,
 ⟨some 76, none, .mv (.t 11)⟩,
 ⟨some 77, none, .bin .mul (.t 75) (.t 76)⟩,
 ⟨some 78, none, .bin .add (.t 71) (.t 77)⟩,
 ⟨some 79, none, .fld 1 (.t 3)⟩,
 ⟨some 80, none, .ld (.t 79)⟩,
 ⟨some 81, none, .bin .rem (.t 78) (.t 80)⟩]
 [⟨some 82, none, .idx 1 (.t 60) (.t 64)⟩,
 ⟨none, none, .st 1 (.t 82) (.t 81)⟩]) (
 .skip)))))))) (
 .reg [⟨some 83, none, .bin .add (.t 26) (.c (.d (.int 1)))⟩,
 ⟨some 26, none, .mv (.t 83)⟩])))

def L1_spec_l02Mul : C :=
 .seq (
 .reg [⟨some 20, none, .bin .lss (.t 19) (.t 18)⟩]) (
 .seq (
 .cond (.t 20) (
 .skip) (
 .exit 1)) (
 .seq (
 .block 2 (
 .seq (
 .reg [⟨some 21, none, .mv (.t 19)⟩,
 ⟨some 22, none, .idx 1 (.t 17) (.t 19)⟩,
 ⟨some 23, none, .ld (.t 22)⟩,
 ⟨some 8, none, .mv (.t 21)⟩,
 ⟨some 9, none, .mv (.t 23)⟩]) (
 .seq (
 .reg [⟨some 24, none, .mv (.t 2)⟩,
 ⟨some 25, none, .len (.t 24)⟩,
 ⟨some 26, none, .mv (.c (.d (.int 0)))⟩]) (
 .block 3 (
 .loop L0_spec_l02Mul))))) (
 .reg [⟨some 84, none, .bin .add (.t 19) (.c (.d (.int 1)))⟩,
 ⟨some 19, none, .mv (.t 84)⟩])))

def C_spec_l02Mul : Fun := ⟨3, 151,
 .seq (
 .reg [⟨some 3, none, .box (.t 0)⟩,
 ⟨some 6, none, .mv (.c (.nil))⟩]) (
 .seq (
 .reg [⟨some 12, none, .mv (.t 1)⟩,
 ⟨some 13, none, .len (.t 12)⟩,
 ⟨some 14, none, .make 1 8 [.d (.int 0)] (.t 13) (.t 13)⟩,
 ⟨some 7, none, .mv (.t 14)⟩]) (
 .seq (
 .seq (
 .reg [⟨some 15, none, .fld 0 (.t 3)⟩,
 ⟨some 16, none, .ld (.t 15)⟩]) (
 .block 0 (
 .seq (
 .seq (
 .reg [⟨some 86, none, .bin .eql (.t 16) (.c (.d (.int 1)))⟩,
 ⟨some 85, none, .mv (.t 86)⟩]) (
 .cond (.t 85) (
 .skip) (
 .reg [⟨some 87, none, .bin .eql (.t 16) (.c (.d (.int 6)))⟩,
 ⟨some 85, none, .mv (.t 87)⟩]))) (
 .cond (.t 85) (
 .draw [⟨some 88, none, .mv (.t 7)⟩,
 ⟨some 89, none, .mv (.t 1)⟩,
 ⟨some 90, none, .idx 1 (.t 89) (.c (.d (.int 0)))⟩,
 ⟨some 91, none, .ld (.t 90)⟩,
 ⟨some 92, none, .mv (.t 2)⟩,
 ⟨some 93, none, .idx 1 (.t 92) (.c (.d (.int 0)))⟩,
 ⟨some 94, none, .ld (.t 93)⟩,
 ⟨some 95, none, .bin .and (.t 91) (.t 94)⟩]
 [⟨some 96, none, .idx 1 (.t 88) (.c (.d (.int 0)))⟩,
 ⟨none, none, .st 1 (.t 96) (.t 95)⟩]) (
 .seq (
 .reg [⟨some 98, none, .bin .eql (.t 16) (.c (.d (.int 2)))⟩,
 ⟨some 97, none, .mv (.t 98)⟩]) (
 .cond (.t 97) (
 .draw [⟨some 99, none, .mv (.t 7)⟩,
 ⟨some 100, none, .mv (.t 1)⟩,
 ⟨some 101, none, .idx 1 (.t 100) (.c (.d (.int 0)))⟩,
 ⟨some 102, none, .ld (.t 101)⟩,
 ⟨some 103, none, .mv (.t 2)⟩,
 ⟨some 104, none, .idx 1 (.t 103) (.c (.d (.int 0)))⟩,
 ⟨some 105, none, .ld (.t 104)⟩,
 ⟨some 106, none, .bin .mul (.t 102) (.t 105)⟩,
 ⟨some 107, none, .fld 1 (.t 3)⟩,
 ⟨some 108, none, .ld (.t 107)⟩,
 ⟨some 109, none, .bin .rem (.t 106) (.t 108)⟩]
 [⟨some 110, none, .idx 1 (.t 99) (.c (.d (.int 0)))⟩,
 ⟨none, none, .st 1 (.t 110) (.t 109)⟩]) (
 .seq (
 .reg [⟨some 112, none, .bin .eql (.t 16) (.c (.d (.int 3)))⟩,
 ⟨some 111, none, .mv (.t 112)⟩]) (
 .cond (.t 111) (
 .draw [⟨some 113, none, .mv (.t 7)⟩,
 ⟨some 114, none, .mv (.t 1)⟩,
 ⟨some 115, none, .idx 1 (.t 114) (.c (.d (.int 0)))⟩,
 ⟨some 116, none, .ld (.t 115)⟩,
 ⟨some 117, none, .mv (.t 2)⟩,
 ⟨some 118, none, .idx 1 (.t 117) (.c (.d (.int 0)))⟩,
 ⟨some 119, none, .ld (.t 118)⟩,
 ⟨some 120, none, .bin .mul (.t 116) (.t 119)⟩,
 ⟨some 121, none, .fld 1 (.t 3)⟩,
 ⟨some 122, none, .ld (.t 121)⟩,
 ⟨some 123, none, .mnx false (.t 120) (.t 122)⟩]
 [⟨some 124, none, .idx 1 (.t 113) (.c (.d (.int 0)))⟩,
 ⟨none, none, .st 1 (.t 124) (.t 123)⟩]) (
 .seq (
 .reg [⟨some 126, none, .bin .eql (.t 16) (.c (.d (.int 4)))⟩,
 ⟨some 125, none, .mv (.t 126)⟩]) (
 .cond (.t 125) (
 .draw [⟨some 127, none, .mv (.t 7)⟩,
 ⟨some 128, none, .mv (.t 1)⟩,
 ⟨some 129, none, .idx 1 (.t 128) (.c (.d (.int 0)))⟩,
 ⟨some 130, none, .ld (.t 129)⟩,
 ⟨some 131, none, .mv (.t 2)⟩,
 ⟨some 132, none, .idx 1 (.t 131) (.c (.d (.int 0)))⟩,
 ⟨some 133, none, .ld (.t 132)⟩,
 ⟨some 134, none, .bin .add (.t 130) (.t 133)⟩,
 ⟨some 135, none, .fld 1 (.t 3)⟩,
 ⟨some 136, none, .ld (.t 135)⟩,
 ⟨some 137, none, .mnx false (.t 134) (.t 136)⟩]
 [⟨some 138, none, .idx 1 (.t 127) (.c (.d (.int 0)))⟩,
 ⟨none, none, .st 1 (.t 138) (.t 137)⟩]) (
 .seq (
 .reg [⟨some 140, none, .bin .eql (.t 16) (.c (.d (.int 5)))⟩,
 ⟨some 139, none, .mv (.t 140)⟩]) (
 .cond (.t 139) (
 .draw [⟨some 141, none, .mv (.t 7)⟩,
 ⟨some 142, none, .mv (.t 1)⟩,
 ⟨some 143, none, .idx 1 (.t 142) (.c (.d (.int 0)))⟩,
 ⟨some 144, none, .ld (.t 143)⟩,
 ⟨some 145, none, .mv (.t 2)⟩,
 ⟨some 146, none, .idx 1 (.t 145) (.c (.d (.int 0)))⟩,
 ⟨some 147, none, .ld (.t 146)⟩,
 ⟨some 148, none, .mnx false (.t 144) (.t 147)⟩]
 [⟨some 149, none, .idx 1 (.t 141) (.c (.d (.int 0)))⟩,
 ⟨none, none, .st 1 (.t 149) (.t 148)⟩]) (
 .seq (
 .reg [⟨some 17, none, .mv (.t 1)⟩,
 ⟨some 18, none, .len (.t 17)⟩,
 ⟨some 19, none, .mv (.c (.d (.int 0)))⟩]) (
 .block 1 (
 .loop L1_spec_l02Mul))))))))))))))) (
 .seq (
 .reg [⟨some 150, none, .mv (.t 7)⟩,
 ⟨some 6, none, .mv (.t 150)⟩]) (
 .ret)))),
 [.t 6]⟩

def L0_spec_l06Set : C :=
 .seq (
 .reg [⟨some 10, none, .bin .lss (.t 9) (.t 8)⟩]) (
 .seq (
 .cond (.t 10) (
 .skip) (
 .exit 0)) (
 .seq (
 .block 1 (
 .seq (
 .reg [⟨some 11, none, .mv (.t 9)⟩,
 ⟨some 12, none, .idx 1 (.t 7) (.t 9)⟩,
 ⟨some 13, none, .ld (.t 12)⟩,
 ⟨some 5, none, .mv (.t 11)⟩,
 ⟨some 6, none, .mv (.t 13)⟩]) (
 .seq (
 .reg [⟨some 14, none, .mv (.t 0)⟩,
 ⟨some 15, none, .mv (.t 6)⟩,
 ⟨some 16, none, .call 47 [(.t 14), (.t 15)]⟩,
 ⟨some 17, none, .bin .lss (.t 16) (.c (.d (.int 0)))⟩,
 ⟨some 18, none, .mv (.t 17)⟩,
 ⟨some 19, some (18, false), .mv (.t 1)⟩,
 ⟨some 20, some (18, false), .mv (.t 5)⟩,
 ⟨some 21, some (18, false), .slc 1 (.t 19) none (some (.t 20))⟩,
 ⟨some 22, some (18, false), .mv (.t 6)⟩,
 ⟨some 23, some (18, false), .call 47 [(.t 21), (.t 22)]⟩,
 ⟨some 24, some (18, false), .bin .geq (.t 23) (.c (.d (.int 0)))⟩,
 ⟨some 25, none, .pick (.t 18) (.c (.d (.bool true))) (.t 24)⟩]) (
 .cond (.t 25) (
 .seq (
 .reg [⟨some 4, none, .mv (.c (.d (.bool false)))⟩]) (
 .ret)) (
 .skip))))) (
 .reg [⟨some 26, none, .bin .add (.t 9) (.c (.d (.int 1)))⟩,
 ⟨some 9, none, .mv (.t 26)⟩])))

def C_spec_l06Set : Fun := ⟨2, 32,
 .seq (
 .reg [⟨some 4, none, .mv (.c (.d (.bool false)))⟩]) (
 .seq (
 .seq (
 .reg [⟨some 7, none, .mv (.t 1)⟩,
 ⟨some 8, none, .len (.t 7)⟩,
 ⟨some 9, none, .mv (.c (.d (.int 0)))⟩]) (
 .block 0 (
 .loop L0_spec_l06Set))) (
 .seq (
 .reg [⟨some 27, none, .mv (.t 0)⟩,
 ⟨some 28, none, .len (.t 27)⟩,
 ⟨some 29, none, .mv (.t 1)⟩,
 ⟨some 30, none, .len (.t 29)⟩,
 ⟨some 31, none, .bin .eql (.t 28) (.t 30)⟩,
 ⟨some 4, none, .mv (.t 31)⟩]) (
 .ret))),
 [.t 4]⟩

def L0_spec_l06Permute : C :=
 .seq (
 .reg [⟨some 60, none, .bin .lss (.t 59) (.t 58)⟩]) (
 .seq (
 .cond (.t 60) (
 .skip) (
 .exit 4)) (
 .seq (
 .block 5 (
 .seq (
 .reg [⟨some 61, none, .mv (.t 59)⟩,
 ⟨some 62, none, .idx 1 (.t 57) (.t 59)⟩,
 ⟨some 63, none, .ld (.t 62)⟩,
 ⟨some 15, none, .mv (.t 61)⟩,
 ⟨some 16, none, .mv (.t 63)⟩]) (
 .reg [⟨some 64, none, .mv (.t 13)⟩,
 ⟨some 65, none, .mv (.t 8)⟩,
 ⟨some 66, none, .mv (.t 15)⟩,
 ⟨some 67, none, .idx 1 (.t 65) (.t 66)⟩,
 ⟨some 68, none, .ld (.t 67)⟩,
 ⟨some 69, none, .mv (.t 16)⟩,
 ⟨some 70, none, .idx 1 (.t 64) (.t 68)⟩,
 ⟨none, none, .st 1 (.t 70) (.t 69)⟩]))) (
 .reg [⟨some 71, none, .bin .add (.t 59) (.c (.d (.int 1)))⟩,
 ⟨some 59, none, .mv (.t 71)⟩])))

def L2_spec_l06Permute : C :=
 .seq (
 .reg [⟨some 22, none, .bin .lss (.t 21) (.t 20)⟩]) (
 .seq (
 .cond (.t 22) (
 .skip) (
 .exit 0)) (
 .seq (
 .block 1 (
 .seq (
 .reg [⟨some 23, none, .idx 1 (.t 19) (.t 21)⟩,
 ⟨some 24, none, .ld (.t 23)⟩,
 ⟨some 10, none, .mv (.t 24)⟩]) (
 .seq (
 .reg [⟨some 25, none, .fld 0 (.t 4)⟩,
 ⟨some 26, none, .ld (.t 25)⟩,
 ⟨some 27, none, .mv (.t 10)⟩,
 ⟨some 28, none, .call 47 [(.t 26), (.t 27)]⟩,
 ⟨some 11, none, .mv (.t 28)⟩]) (
 .seq (
 .reg [⟨some 29, none, .mv (.t 8)⟩,
 ⟨some 30, none, .mv (.t 11)⟩,
 ⟨some 31, none, .mksl 1 1 [.d (.int 0)] [(0, 1, (.t 30))]⟩,
 ⟨some 32, none, .app 1 8 [.d (.int 0)] (.t 29) (.t 31)⟩,
 ⟨some 8, none, .mv (.t 32)⟩]) (
 .reg [⟨some 33, none, .mv (.t 7)⟩,
 ⟨some 34, none, .fld 1 (.t 4)⟩,
 ⟨some 35, none, .ld (.t 34)⟩,
 ⟨some 36, none, .mv (.t 11)⟩,
 ⟨some 37, none, .idx 1 (.t 35) (.t 36)⟩,
 ⟨some 38, none, .ld (.t 37)⟩,
 ⟨some 39, none, .mksl 1 1 [.d (.int 0)] [(0, 1, (.t 38))]⟩,
 ⟨some 40, none, .app 1 8 [.d (.int 0)] (.t 33) (.t 39)⟩,
 ⟨some 7, none, .mv (.t 40)⟩]))))) (
 .reg [⟨some 41, none, .bin .add (.t 21) (.c (.d (.int 1)))⟩,
 ⟨some 21, none, .mv (.t 41)⟩])))

def L0_impl_sameLabels : C :=
 .seq (
 .reg [⟨some 15, none, .bin .lss (.t 14) (.t 13)⟩]) (
 .seq (
 .cond (.t 15) (
 .skip) (
 .exit 0)) (
 .seq (
 .block 1 (
 .seq (
 .reg [⟨some 16, none, .mv (.t 14)⟩,
 ⟨some 17, none, .idx 1 (.t 12) (.t 14)⟩,
 ⟨some 18, none, .ld (.t 17)⟩,
 ⟨some 5, none, .mv (.t 16)⟩,
 ⟨some 6, none, .mv (.t 18)⟩]) (
 .seq (
 .reg [⟨some 19, none, .mv (.t 1)⟩,
 ⟨some 20, none, .mv (.t 5)⟩,
 ⟨some 21, none, .slc 1 (.t 19) none (some (.t 20))⟩,
 ⟨some 22, none, .mv (.t 6)⟩,
 ⟨some 23, none, .call 41 [(.t 21), (.t 22)]⟩,
 ⟨some 24, none, .mv (.t 23)⟩,
 ⟨some 25, some (24, false), .mv (.t 0)⟩,
 ⟨some 26, some (24, false), .mv (.t 6)⟩,
 ⟨some 27, some (24, false), .call 41 [(.t 25), (.t 26)]⟩,
 ⟨some 28, some (24, false), .not (.t 27)⟩,
 ⟨some 29, none, .pick (.t 24) (.c (.d (.bool true))) (.t 28)⟩]) (
 .cond (.t 29) (
 .seq (
 .reg [⟨some 4, none, .mv (.c (.d (.bool false)))⟩]) (
 .ret)) (
 .skip))))) (
 .reg [⟨some 30, none, .bin .add (.t 14) (.c (.d (.int 1)))⟩,
 ⟨some 14, none, .mv (.t 30)⟩])))

def C_impl_sameLabels : Fun := ⟨2, 31,
 .seq (
 .reg [⟨some 4, none, .mv (.c (.d (.bool false)))⟩]) (
 .seq (
 .seq (
 .reg [⟨some 7, none, .mv (.t 1)⟩,
 ⟨some 8, none, .len (.t 7)⟩,
 ⟨some 9, none, .mv (.t 0)⟩,
 ⟨some 10, none, .len (.t 9)⟩,
 ⟨some 11, none, .bin .neq (.t 8) (.t 10)⟩]) (
 .cond (.t 11) (
 .seq (
 .reg [⟨some 4, none, .mv (.c (.d (.bool false)))⟩]) (
 .ret)) (
 .skip))) (
 .seq (
 .seq (
 .reg [⟨some 12, none, .mv (.t 1)⟩,
 ⟨some 13, none, .len (.t 12)⟩,
 ⟨some 14, none, .mv (.c (.d (.int 0)))⟩]) (
 .block 0 (
 .loop L0_impl_sameLabels))) (
 .seq (
 .reg [⟨some 4, none, .mv (.c (.d (.bool true)))⟩]) (
 .ret)))),
 [.t 4]⟩

def C_spec_l05Ints : Fun := ⟨1, 6,
 .seq (
 .reg [⟨some 2, none, .mv (.c (.nil))⟩]) (
 .seq (
 .reg [⟨some 3, none, .mksl 1 0 [.d (.int 0)] []⟩,
 ⟨some 4, none, .mv (.t 0)⟩,
 ⟨some 5, none, .app 1 8 [.d (.int 0)] (.t 3) (.t 4)⟩,
 ⟨some 2, none, .mv (.t 5)⟩]) (
 .ret)),
 [.t 2]⟩

def L0_impl_joinLabels : C :=
 .seq (
 .reg [⟨some 13, none, .bin .lss (.t 12) (.t 11)⟩]) (
 .seq (
 .cond (.t 13) (
 .skip) (
 .exit 0)) (
 .seq (
 .block 1 (
 .seq (
 .reg [⟨some 14, none, .idx 1 (.t 10) (.t 12)⟩,
 ⟨some 15, none, .ld (.t 14)⟩,
 ⟨some 7, none, .mv (.t 15)⟩]) (
 .seq (
 .reg [⟨some 16, none, .mv (.t 0)⟩,
 ⟨some 17, none, .mv (.t 7)⟩,
 ⟨some 18, none, .call 41 [(.t 16), (.t 17)]⟩,
 ⟨some 19, none, .not (.t 18)⟩]) (
 .cond (.t 19) (
 .reg [⟨some 20, none, .mv (.t 5)⟩,
 ⟨some 21, none, .mv (.t 7)⟩,
 ⟨some 22, none, .mksl 1 1 [.d (.int 0)] [(0, 1, (.t 21))]⟩,
 ⟨some 23, none, .app 1 8 [.d (.int 0)] (.t 20) (.t 22)⟩,
 ⟨some 5, none, .mv (.t 23)⟩]) (
 .skip))))) (
 .reg [⟨some 24, none, .bin .add (.t 12) (.c (.d (.int 1)))⟩,
 ⟨some 12, none, .mv (.t 24)⟩])))

def L0_spec_IsPrime : C :=
 .seq (
 .seq (
 .reg [⟨some 4, none, .mv (.t 3)⟩,
 ⟨some 5, none, .mv (.t 3)⟩,
 ⟨some 6, none, .bin .mul (.t 4) (.t 5)⟩,
 ⟨some 7, none, .mv (.t 0)⟩,
 ⟨some 8, none, .bin .leq (.t 6) (.t 7)⟩,
 ⟨some 9, none, .mv (.t 8)⟩,
 ⟨some 10, some (9, true), .mv (.t 0)⟩,
 ⟨some 11, some (9, true), .bin .leq (.t 10) (.c (.d (.int 1000003)))⟩,
 ⟨some 12, none, .pick (.t 9) (.t 11) (.c (.d (.bool false)))⟩]) (
 .cond (.t 12) (
 .skip) (
 .exit 0))) (
 .seq (
 .block 1 (
 .seq (
 .reg [⟨some 15, none, .mv (.t 0)⟩,
 ⟨some 16, none, .mv (.t 3)⟩,
 ⟨some 17, none, .bin .rem (.t 15) (.t 16)⟩,
 ⟨some 18, none, .bin .eql (.t 17) (.c (.d (.int 0)))⟩]) (
 .cond (.t 18) (
 .seq (
 .reg [⟨some 2, none, .mv (.c (.d (.bool false)))⟩]) (
 .ret)) (
 .skip)))) (
 .reg [⟨some 13, none, .mv (.t 3)⟩,
 ⟨some 14, none, .bin .add (.t 13) (.c (.d (.int 1)))⟩,
 ⟨some 3, none, .mv (.t 14)⟩]))

def C_spec_IsPrime : Fun := ⟨1, 21,
 .seq (
 .reg [⟨some 2, none, .mv (.c (.d (.bool false)))⟩]) (
 .seq (
 .seq (
 .reg [⟨some 3, none, .mv (.c (.d (.int 2)))⟩]) (
 .block 0 (
 .loop L0_spec_IsPrime))) (
 .seq (
 .reg [⟨some 19, none, .mv (.t 0)⟩,
 ⟨some 20, none, .call 28 [(.t 19), (.c (.d (.int 2))), (.c (.d (.int 1000003)))]⟩,
 ⟨some 2, none, .mv (.t 20)⟩]) (
 .ret))),
 [.t 2]⟩

theorem k_spec_IsPrime : cFun Tryd.prog Tryd.f38 = some C_spec_IsPrime.erase := by kernel_rfl

def L0_impl_IsPrime : C :=
 .seq (
 .seq (
 .reg [⟨some 10, none, .mv (.t 3)⟩,
 ⟨some 11, none, .mv (.t 3)⟩,
 ⟨some 12, none, .bin .mul (.t 10) (.t 11)⟩,
 ⟨some 13, none, .mv (.t 0)⟩,
 ⟨some 14, none, .bin .leq (.t 12) (.t 13)⟩]) (
 .cond (.t 14) (
 .skip) (
 .exit 0))) (
 .seq (
 .block 1 (
 .seq (
 .reg [⟨some 17, none, .mv (.t 0)⟩,
 ⟨some 18, none, .mv (.t 3)⟩,
 ⟨some 19, none, .bin .rem (.t 17) (.t 18)⟩,
 ⟨some 20, none, .bin .eql (.t 19) (.c (.d (.int 0)))⟩]) (
 .cond (.t 20) (
 .seq (
 .reg [⟨some 2, none, .mv (.c (.d (.bool false)))⟩]) (
 .ret)) (
 .skip)))) (
 .reg [⟨some 15, none, .mv (.t 3)⟩,
 ⟨some 16, none, .bin .add (.t 15) (.c (.d (.int 1)))⟩,
 ⟨some 3, none, .mv (.t 16)⟩]))

def C_impl_IsPrime : Fun := ⟨1, 21,
 .seq (
 .reg [⟨some 2, none, .mv (.c (.d (.bool false)))⟩]) (
 .seq (
 .seq (
 .reg [⟨some 4, none, .mv (.t 0)⟩,
 ⟨some 5, none, .bin .lss (.t 4) (.c (.d (.int 2)))⟩,
 ⟨some 6, none, .mv (.t 5)⟩,
 ⟨some 7, some (6, false), .mv (.t 0)⟩,
 ⟨some 8, some (6, false), .bin .gtr (.t 7) (.c (.d (.int 1000003)))⟩,
 ⟨some 9, none, .pick (.t 6) (.c (.d (.bool true))) (.t 8)⟩]) (
 .cond (.t 9) (
 .seq (
 .reg [⟨some 2, none, .mv (.c (.d (.bool false)))⟩]) (
 .ret)) (
 .skip))) (
 .seq (
 .seq (
 .reg [⟨some 3, none, .mv (.c (.d (.int 2)))⟩]) (
 .block 0 (
 .loop L0_impl_IsPrime))) (
 .seq (
 .reg [⟨some 2, none, .mv (.c (.d (.bool true)))⟩]) (
 .ret)))),
 [.t 2]⟩

theorem k_impl_IsPrime : cFun Tryd.prog Tryd.f40 = some C_impl_IsPrime.erase := by kernel_rfl

def C_impl_rawTop : Fun := ⟨1, 22,
 .seq (
 .reg [⟨some 1, none, .box (.t 0)⟩,
 ⟨some 2, none, .mv (.c (.d (.int 0)))⟩]) (
 .seq (
 .seq (
 .reg [⟨some 3, none, .fld 0 (.t 1)⟩,
 ⟨some 4, none, .ld (.t 3)⟩]) (
 .block 0 (
 .seq (
 .reg [⟨some 6, none, .bin .eql (.t 4) (.c (.d (.int 1)))⟩,
 ⟨some 5, none, .mv (.t 6)⟩]) (
 .cond (.t 5) (
 .seq (
 .reg [⟨some 2, none, .mv (.c (.d (.int 1)))⟩]) (
 .ret)) (
 .seq (
 .seq (
 .reg [⟨some 8, none, .bin .eql (.t 4) (.c (.d (.int 3)))⟩,
 ⟨some 7, none, .mv (.t 8)⟩]) (
 .cond (.t 7) (
 .skip) (
 .seq (
 .reg [⟨some 9, none, .bin .eql (.t 4) (.c (.d (.int 4)))⟩,
 ⟨some 7, none, .mv (.t 9)⟩]) (
 .cond (.t 7) (
 .skip) (
 .reg [⟨some 10, none, .bin .eql (.t 4) (.c (.d (.int 5)))⟩,
 ⟨some 7, none, .mv (.t 10)⟩]))))) (
 .cond (.t 7) (
 .seq (
 .reg [⟨some 11, none, .fld 1 (.t 1)⟩,
 ⟨some 12, none, .ld (.t 11)⟩,
 ⟨some 2, none, .mv (.t 12)⟩]) (
 .ret)) (
 .seq (
 .reg [⟨some 14, none, .bin .eql (.t 4) (.c (.d (.int 6)))⟩,
 ⟨some 13, none, .mv (.t 14)⟩]) (
 .cond (.t 13) (
 .seq (
 .reg [⟨some 15, none, .fld 2 (.t 1)⟩,
 ⟨some 16, none, .ld (.t 15)⟩,
 ⟨some 17, none, .bin .shl (.c (.d (.int 1))) (.t 16)⟩,
 ⟨some 18, none, .bin .sub (.t 17) (.c (.d (.int 1)))⟩,
 ⟨some 2, none, .mv (.t 18)⟩]) (
 .ret)) (
 .skip))))))))) (
 .seq (
 .reg [⟨some 19, none, .fld 1 (.t 1)⟩,
 ⟨some 20, none, .ld (.t 19)⟩,
 ⟨some 21, none, .bin .sub (.t 20) (.c (.d (.int 1)))⟩,
 ⟨some 2, none, .mv (.t 21)⟩]) (
 .ret))),
 [.t 2]⟩

theorem k_impl_rawTop : cFun Tryd.prog Tryd.f42 = some C_impl_rawTop.erase := by kernel_rfl

def L0_impl_mulCoefficients : C :=
 .seq (
 .reg [⟨some 21, none, .bin .lss (.t 20) (.t 19)⟩]) (
 .seq (
 .cond (.t 21) (
 .skip) (
 .exit 2)) (
 .seq (
 .block 3 (
 .seq (
 .reg [⟨some 22, none, .mv (.t 20)⟩,
 ⟨some 9, none, .mv (.t 22)⟩]) (
 .seq (
 .draw [⟨some 23, none, .mv (.t 2)⟩,
 ⟨some 24, none, .mv (.t 8)⟩,
 ⟨some 25, none, .idx 1 (.t 23) (.t 24)⟩,
 ⟨some 26, none, .ld (.t 25)⟩,
 ⟨some 27, none, .mv (.t 3)⟩,
 ⟨some 28, none, .mv (.t 9)⟩,
 ⟨some 29, none, .idx 1 (.t 27) (.t 28)⟩,
 ⟨some 30, none, .ld (.t 29)⟩,
 ⟨some 31, none, .bin .mul (.t 26) (.t 30)⟩,
 ⟨some 32, none, .fld 1 (.t 4)⟩,
 ⟨some 33, none, .ld (.t 32)⟩]
 [⟨some 34, none, .bin .rem (.t 31) (.t 33)⟩,
 ⟨some 10, none, .mv (.t 34)⟩]) (
 .seq (
 .reg [⟨some 35, none, .mv (.t 8)⟩,
 ⟨some 36, none, .mv (.t 9)⟩,
 ⟨some 37, none, .bin .add (.t 35) (.t 36)⟩,
 ⟨some 11, none, .mv (.t 37)⟩]) (
 .seq (
 .reg [⟨some 38, none, .mv (.t 11)⟩,
 ⟨some 39, none, .mv (.t 1)⟩,
 ⟨some 40, none, .len (.t 39)⟩,
 ⟨some 41, none, .bin .lss (.t 38) (.t 40)⟩]) (
 .cond (.t 41) (
 .draw [⟨some 42, none, .mv (.t 1)⟩,
 ⟨some 43, none, .mv (.t 11)⟩,
 ⟨some 44, none, .mv (.t 1)⟩,
 ⟨some 45, none, .mv (.t 11)⟩,
 ⟨some 46, none, .idx 1 (.t 44) (.t 45)⟩,
 ⟨some 47, none, .ld (.t 46)⟩,
 ⟨some 48, none, .mv (.t 10)⟩,
 ⟨some 49, none, .bin .add (.t 47) (.t 48)⟩,
 ⟨some 50, none, .fld 1 (.t 4)⟩,
 ⟨some 51, none, .ld (.t 50)⟩,
 ⟨some 52, none, .bin .rem (.t 49) (.t 51)⟩]
 [⟨some 53, none, .idx 1 (.t 42) (.t 43)⟩,
 ⟨none, none, .st 1 (.t 53) (.t 52)⟩]) (
 .seq (
 .reg [⟨some 54, none, .fld 0 (.t 4)⟩,
 ⟨some 55, none, .ld (.t 54)⟩,
 ⟨some 56, none, .bin .eql (.t 55) (.c (.d (.int 8)))⟩]) (
 .cond (.t 56) (
 .draw [⟨some 57, none, .mv (.t 1)⟩,
 ⟨some 58, none, .mv (.t 11)⟩,
 ⟨some 59, none, .bin .sub (.t 58) (.c (.d (.int 4)))⟩,
 ⟨some 60, none, .mv (.t 1)⟩,
 ⟨some 61, none, .mv (.t 11)⟩,
 ⟨some 62, none, .bin .sub (.t 61) (.c (.d (.int 4)))⟩,
 ⟨some 63, none, .idx 1 (.t 60) (.t 62)⟩,
 ⟨some 64, none, .ld (.t 63)⟩,
 ⟨some 65, none, .fld 1 (.t 4)⟩,
 ⟨some 66, none, .ld (.t 65)⟩,
 ⟨some 67, none, .bin .add (.t 64) (.t 66)⟩,
 ⟨some 68, none, .mv (.t 10)⟩,
 ⟨some 69, none, .bin .sub (.t 67) (.t 68)⟩,
 ⟨some 70, none, .fld 1 (.t 4)⟩,
 ⟨some 71, none, .ld (.t 70)⟩,
 ⟨some 72, none, .bin .rem (.t 69) (.t 71)⟩]
 [⟨some 73, none, .idx 1 (.t 57) (.t 59)⟩,
 ⟨none, none, .st 1 (.t 73) (.t 72)⟩]) (
 .skip))))))))) (
 .reg [⟨some 74, none, .bin .add (.t 20) (.c (.d (.int 1)))⟩,
 ⟨some 20, none, .mv (.t 74)⟩])))

def L1_impl_mulCoefficients : C :=
 .seq (
 .reg [⟨some 16, none, .bin .lss (.t 15) (.t 14)⟩]) (
 .seq (
 .cond (.t 16) (
 .skip) (
 .exit 0)) (
 .seq (
 .block 1 (
 .seq (
 .reg [⟨some 17, none, .mv (.t 15)⟩,
 ⟨some 8, none, .mv (.t 17)⟩]) (
 .seq (
 .reg [⟨some 18, none, .mv (.t 3)⟩,
 ⟨some 19, none, .len (.t 18)⟩,
 ⟨some 20, none, .mv (.c (.d (.int 0)))⟩]) (
 .block 2 (
 .loop L0_impl_mulCoefficients))))) (
 .reg [⟨some 75, none, .bin .add (.t 15) (.c (.d (.int 1)))⟩,
 ⟨some 15, none, .mv (.t 75)⟩])))

def C_impl_mulCoefficients : Fun := ⟨4, 76,
 .seq (
 .reg [⟨some 4, none, .box (.t 0)⟩]) (
 .seq (
 .reg [⟨some 12, none, .mv (.t 1)⟩,
 ⟨none, none, .clear 1 [.d (.int 0)] (.t 12)⟩]) (
 .seq (
 .reg [⟨some 13, none, .mv (.t 2)⟩,
 ⟨some 14, none, .len (.t 13)⟩,
 ⟨some 15, none, .mv (.c (.d (.int 0)))⟩]) (
 .block 0 (
 .loop L1_impl_mulCoefficients)))),
 []⟩

end Go.Proofs.YtodlbhjnmdhjiaaDoor
