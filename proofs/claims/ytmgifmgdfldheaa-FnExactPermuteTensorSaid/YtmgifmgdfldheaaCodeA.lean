/-
  The compiled code of functions of the seat (written by mkcode.py). No condition.
-/
import Derived.Test.YtmgifmgdfldheaaLiftE
import Derived.Test.YtmgifmgdfldheaaProg
import Derived.KernelRfl
namespace Go.Proofs.Ytmgifmgdfldheaa
open Go.Lift

def L0_laws_toIntS : C :=
      .seq (
      .seq (
      .reg [⟨some 8, none, .mv (.t 4)⟩,
            ⟨some 9, none, .mv (.t 0)⟩,
            ⟨some 10, none, .len (.t 9)⟩,
            ⟨some 11, none, .bin .lss (.t 8) (.t 10)⟩]) (
      .cond (.t 11) (
        .skip) (
        .exit 0))) (
      .seq (
      .block 1 (
        .reg [⟨some 14, none, .mv (.t 3)⟩,
              ⟨some 15, none, .mv (.t 4)⟩,
              ⟨some 16, none, .mv (.t 0)⟩,
              ⟨some 17, none, .mv (.t 4)⟩,
              ⟨some 18, none, .idx 1 (.t 16) (.t 17)⟩,
              ⟨some 19, none, .ld (.t 18)⟩,
              ⟨some 20, none, .idx 1 (.t 14) (.t 15)⟩,
              ⟨none, none, .st 1 (.t 20) (.t 19)⟩])) (
      .reg [⟨some 12, none, .mv (.t 4)⟩,
            ⟨some 13, none, .bin .add (.t 12) (.c (.d (.int 1)))⟩,
            ⟨some 4, none, .mv (.t 13)⟩]))

def C_laws_toIntS : Fun := ⟨1, 22,
  .seq (
  .reg [⟨some 2, none, .mv (.c (.nil))⟩]) (
  .seq (
  .reg [⟨some 5, none, .mv (.t 0)⟩,
        ⟨some 6, none, .len (.t 5)⟩,
        ⟨some 7, none, .make 1 8 [.d (.int 0)] (.t 6) (.t 6)⟩,
        ⟨some 3, none, .mv (.t 7)⟩]) (
  .seq (
  .seq (
  .reg [⟨some 4, none, .mv (.c (.d (.int 0)))⟩]) (
  .block 0 (
    .loop L0_laws_toIntS))) (
  .seq (
  .reg [⟨some 21, none, .mv (.t 3)⟩,
        ⟨some 2, none, .mv (.t 21)⟩]) (
  .ret)))),
  [.t 2]⟩

theorem k_laws_toIntS : cFun Try.prog Try.f21 = some C_laws_toIntS.erase := by kernel_rfl

def C_laws_toRing : Fun := ⟨1, 14,
  .seq (
  .reg [⟨some 1, none, .box (.t 0)⟩,
        ⟨some 2, none, .zer [.d (.int 0), .d (.int 0), .d (.int 0)]⟩]) (
  .seq (
  .reg [⟨some 3, none, .zer [.d (.int 0), .d (.int 0), .d (.int 0)]⟩]) (
  .seq (
  .reg [⟨some 4, none, .fld 0 (.t 1)⟩,
        ⟨some 5, none, .ld (.t 4)⟩,
        ⟨some 6, none, .fld 0 (.t 3)⟩,
        ⟨none, none, .st 1 (.t 6) (.t 5)⟩]) (
  .seq (
  .reg [⟨some 7, none, .fld 1 (.t 1)⟩,
        ⟨some 8, none, .ld (.t 7)⟩,
        ⟨some 9, none, .fld 1 (.t 3)⟩,
        ⟨none, none, .st 1 (.t 9) (.t 8)⟩]) (
  .seq (
  .reg [⟨some 10, none, .fld 2 (.t 1)⟩,
        ⟨some 11, none, .ld (.t 10)⟩,
        ⟨some 12, none, .fld 2 (.t 3)⟩,
        ⟨none, none, .st 1 (.t 12) (.t 11)⟩]) (
  .seq (
  .reg [⟨some 13, none, .ldn 3 (.t 3)⟩,
        ⟨none, none, .st 3 (.t 2) (.t 13)⟩]) (
  .ret)))))),
  [.cell 2 3]⟩

theorem k_laws_toRing : cFun Try.prog Try.f32 = some C_laws_toRing.erase := by kernel_rfl

def C_laws_toTensor : Fun := ⟨1, 17,
  .seq (
  .reg [⟨some 1, none, .box (.t 0)⟩,
        ⟨some 2, none, .zer [.nil, .nil, .nil]⟩]) (
  .seq (
  .reg [⟨some 3, none, .zer [.nil, .nil, .nil]⟩]) (
  .seq (
  .reg [⟨some 4, none, .fld 0 (.t 1)⟩,
        ⟨some 5, none, .ld (.t 4)⟩,
        ⟨some 6, none, .call 21 [(.t 5)]⟩,
        ⟨some 7, none, .fld 0 (.t 3)⟩,
        ⟨none, none, .st 1 (.t 7) (.t 6)⟩]) (
  .seq (
  .reg [⟨some 8, none, .fld 1 (.t 1)⟩,
        ⟨some 9, none, .ld (.t 8)⟩,
        ⟨some 10, none, .call 21 [(.t 9)]⟩,
        ⟨some 11, none, .fld 1 (.t 3)⟩,
        ⟨none, none, .st 1 (.t 11) (.t 10)⟩]) (
  .seq (
  .reg [⟨some 12, none, .fld 2 (.t 1)⟩,
        ⟨some 13, none, .ld (.t 12)⟩,
        ⟨some 14, none, .call 21 [(.t 13)]⟩,
        ⟨some 15, none, .fld 2 (.t 3)⟩,
        ⟨none, none, .st 1 (.t 15) (.t 14)⟩]) (
  .seq (
  .reg [⟨some 16, none, .ldn 3 (.t 3)⟩,
        ⟨none, none, .st 3 (.t 2) (.t 16)⟩]) (
  .ret)))))),
  [.cell 2 3]⟩

theorem k_laws_toTensor : cFun Try.prog Try.f17 = some C_laws_toTensor.erase := by kernel_rfl

def C_laws_szIntS : Fun := ⟨2, 12,
  .seq (
  .reg [⟨some 4, none, .mv (.c (.d (.int 0)))⟩]) (
  .seq (
  .reg [⟨some 5, none, .mv (.t 1)⟩,
        ⟨some 6, none, .mv (.t 0)⟩,
        ⟨some 7, none, .len (.t 6)⟩,
        ⟨some 8, none, .bin .sub (.t 5) (.t 7)⟩,
        ⟨some 1, none, .mv (.t 8)⟩]) (
  .seq (
  .seq (
  .reg [⟨some 9, none, .mv (.t 1)⟩,
        ⟨some 10, none, .bin .lss (.t 9) (.c (.d (.int 0)))⟩]) (
  .cond (.t 10) (
    .seq (
    .reg [⟨some 4, none, .mv (.c (.d (.int (-1))))⟩]) (
    .ret)) (
    .skip))) (
  .seq (
  .reg [⟨some 11, none, .mv (.t 1)⟩,
        ⟨some 4, none, .mv (.t 11)⟩]) (
  .ret)))),
  [.t 4]⟩

theorem k_laws_szIntS : cFun Try.prog Try.f49 = some C_laws_szIntS.erase := by kernel_rfl

def C_laws_szTensor : Fun := ⟨2, 24,
  .seq (
  .reg [⟨some 2, none, .box (.t 0)⟩,
        ⟨some 4, none, .mv (.c (.d (.int 0)))⟩]) (
  .seq (
  .reg [⟨some 5, none, .fld 0 (.t 2)⟩,
        ⟨some 6, none, .ld (.t 5)⟩,
        ⟨some 7, none, .mv (.t 1)⟩,
        ⟨some 8, none, .call 49 [(.t 6), (.t 7)]⟩,
        ⟨some 1, none, .mv (.t 8)⟩]) (
  .seq (
  .seq (
  .reg [⟨some 9, none, .mv (.t 1)⟩,
        ⟨some 10, none, .bin .lss (.t 9) (.c (.d (.int 0)))⟩]) (
  .cond (.t 10) (
    .seq (
    .reg [⟨some 4, none, .mv (.c (.d (.int (-1))))⟩]) (
    .ret)) (
    .skip))) (
  .seq (
  .reg [⟨some 11, none, .fld 1 (.t 2)⟩,
        ⟨some 12, none, .ld (.t 11)⟩,
        ⟨some 13, none, .mv (.t 1)⟩,
        ⟨some 14, none, .call 49 [(.t 12), (.t 13)]⟩,
        ⟨some 1, none, .mv (.t 14)⟩]) (
  .seq (
  .seq (
  .reg [⟨some 15, none, .mv (.t 1)⟩,
        ⟨some 16, none, .bin .lss (.t 15) (.c (.d (.int 0)))⟩]) (
  .cond (.t 16) (
    .seq (
    .reg [⟨some 4, none, .mv (.c (.d (.int (-1))))⟩]) (
    .ret)) (
    .skip))) (
  .seq (
  .reg [⟨some 17, none, .fld 2 (.t 2)⟩,
        ⟨some 18, none, .ld (.t 17)⟩,
        ⟨some 19, none, .mv (.t 1)⟩,
        ⟨some 20, none, .call 49 [(.t 18), (.t 19)]⟩,
        ⟨some 1, none, .mv (.t 20)⟩]) (
  .seq (
  .seq (
  .reg [⟨some 21, none, .mv (.t 1)⟩,
        ⟨some 22, none, .bin .lss (.t 21) (.c (.d (.int 0)))⟩]) (
  .cond (.t 22) (
    .seq (
    .reg [⟨some 4, none, .mv (.c (.d (.int (-1))))⟩]) (
    .ret)) (
    .skip))) (
  .seq (
  .reg [⟨some 23, none, .mv (.t 1)⟩,
        ⟨some 4, none, .mv (.t 23)⟩]) (
  .ret)))))))),
  [.t 4]⟩

theorem k_laws_szTensor : cFun Try.prog Try.f15 = some C_laws_szTensor.erase := by kernel_rfl

def L0_laws_eqIntS : C :=
      .seq (
      .seq (
      .reg [⟨some 11, none, .mv (.t 5)⟩,
            ⟨some 12, none, .mv (.t 0)⟩,
            ⟨some 13, none, .len (.t 12)⟩,
            ⟨some 14, none, .bin .lss (.t 11) (.t 13)⟩]) (
      .cond (.t 14) (
        .skip) (
        .exit 0))) (
      .seq (
      .block 1 (
        .seq (
        .draw [⟨some 17, none, .mv (.t 0)⟩,
               ⟨some 18, none, .mv (.t 5)⟩,
               ⟨some 19, none, .idx 1 (.t 17) (.t 18)⟩,
               ⟨some 20, none, .ld (.t 19)⟩,
               ⟨some 21, none, .mv (.t 1)⟩,
               ⟨some 22, none, .mv (.t 5)⟩,
               ⟨some 23, none, .idx 1 (.t 21) (.t 22)⟩,
               ⟨some 24, none, .ld (.t 23)⟩]
          [⟨some 25, none, .bin .neq (.t 20) (.t 24)⟩]) (
        .cond (.t 25) (
          .seq (
          .reg [⟨some 4, none, .mv (.c (.d (.bool false)))⟩]) (
          .ret)) (
          .skip)))) (
      .reg [⟨some 15, none, .mv (.t 5)⟩,
            ⟨some 16, none, .bin .add (.t 15) (.c (.d (.int 1)))⟩,
            ⟨some 5, none, .mv (.t 16)⟩]))

def C_laws_eqIntS : Fun := ⟨2, 26,
  .seq (
  .reg [⟨some 4, none, .mv (.c (.d (.bool false)))⟩]) (
  .seq (
  .seq (
  .reg [⟨some 6, none, .mv (.t 0)⟩,
        ⟨some 7, none, .len (.t 6)⟩,
        ⟨some 8, none, .mv (.t 1)⟩,
        ⟨some 9, none, .len (.t 8)⟩,
        ⟨some 10, none, .bin .neq (.t 7) (.t 9)⟩]) (
  .cond (.t 10) (
    .seq (
    .reg [⟨some 4, none, .mv (.c (.d (.bool false)))⟩]) (
    .ret)) (
    .skip))) (
  .seq (
  .seq (
  .reg [⟨some 5, none, .mv (.c (.d (.int 0)))⟩]) (
  .block 0 (
    .loop L0_laws_eqIntS))) (
  .seq (
  .reg [⟨some 4, none, .mv (.c (.d (.bool true)))⟩]) (
  .ret)))),
  [.t 4]⟩

theorem k_laws_eqIntS : cFun Try.prog Try.f23 = some C_laws_eqIntS.erase := by kernel_rfl

def C_laws_eqTensor : Fun := ⟨2, 23,
  .seq (
  .reg [⟨some 2, none, .box (.t 0)⟩,
        ⟨some 3, none, .box (.t 1)⟩,
        ⟨some 4, none, .mv (.c (.d (.bool false)))⟩]) (
  .seq (
  .seq (
  .reg [⟨some 5, none, .fld 0 (.t 2)⟩,
        ⟨some 6, none, .ld (.t 5)⟩,
        ⟨some 7, none, .fld 0 (.t 3)⟩,
        ⟨some 8, none, .ld (.t 7)⟩,
        ⟨some 9, none, .call 23 [(.t 6), (.t 8)]⟩,
        ⟨some 10, none, .not (.t 9)⟩]) (
  .cond (.t 10) (
    .seq (
    .reg [⟨some 4, none, .mv (.c (.d (.bool false)))⟩]) (
    .ret)) (
    .skip))) (
  .seq (
  .seq (
  .reg [⟨some 11, none, .fld 1 (.t 2)⟩,
        ⟨some 12, none, .ld (.t 11)⟩,
        ⟨some 13, none, .fld 1 (.t 3)⟩,
        ⟨some 14, none, .ld (.t 13)⟩,
        ⟨some 15, none, .call 23 [(.t 12), (.t 14)]⟩,
        ⟨some 16, none, .not (.t 15)⟩]) (
  .cond (.t 16) (
    .seq (
    .reg [⟨some 4, none, .mv (.c (.d (.bool false)))⟩]) (
    .ret)) (
    .skip))) (
  .seq (
  .seq (
  .reg [⟨some 17, none, .fld 2 (.t 2)⟩,
        ⟨some 18, none, .ld (.t 17)⟩,
        ⟨some 19, none, .fld 2 (.t 3)⟩,
        ⟨some 20, none, .ld (.t 19)⟩,
        ⟨some 21, none, .call 23 [(.t 18), (.t 20)]⟩,
        ⟨some 22, none, .not (.t 21)⟩]) (
  .cond (.t 22) (
    .seq (
    .reg [⟨some 4, none, .mv (.c (.d (.bool false)))⟩]) (
    .ret)) (
    .skip))) (
  .seq (
  .reg [⟨some 4, none, .mv (.c (.d (.bool true)))⟩]) (
  .ret))))),
  [.t 4]⟩

theorem k_laws_eqTensor : cFun Try.prog Try.f19 = some C_laws_eqTensor.erase := by kernel_rfl

def L0_laws_markIntS : C :=
      .seq (
      .seq (
      .reg [⟨some 6, none, .mv (.t 5)⟩,
            ⟨some 7, none, .mv (.t 0)⟩,
            ⟨some 8, none, .len (.t 7)⟩,
            ⟨some 9, none, .bin .lss (.t 6) (.t 8)⟩]) (
      .cond (.t 9) (
        .skip) (
        .exit 0))) (
      .seq (
      .block 1 (
        .seq (
        .reg [⟨some 12, none, .mv (.t 0)⟩,
              ⟨some 13, none, .mv (.t 5)⟩,
              ⟨some 14, none, .mv (.t 1)⟩,
              ⟨some 15, none, .idx 1 (.t 12) (.t 13)⟩,
              ⟨none, none, .st 1 (.t 15) (.t 14)⟩]) (
        .reg [⟨some 16, none, .mv (.t 1)⟩,
              ⟨some 17, none, .bin .add (.t 16) (.c (.d (.int 1)))⟩,
              ⟨some 1, none, .mv (.t 17)⟩]))) (
      .reg [⟨some 10, none, .mv (.t 5)⟩,
            ⟨some 11, none, .bin .add (.t 10) (.c (.d (.int 1)))⟩,
            ⟨some 5, none, .mv (.t 11)⟩]))

def C_laws_markIntS : Fun := ⟨2, 19,
  .seq (
  .reg [⟨some 4, none, .mv (.c (.d (.int 0)))⟩]) (
  .seq (
  .seq (
  .reg [⟨some 5, none, .mv (.c (.d (.int 0)))⟩]) (
  .block 0 (
    .loop L0_laws_markIntS))) (
  .seq (
  .reg [⟨some 18, none, .mv (.t 1)⟩,
        ⟨some 4, none, .mv (.t 18)⟩]) (
  .ret))),
  [.t 4]⟩

theorem k_laws_markIntS : cFun Try.prog Try.f27 = some C_laws_markIntS.erase := by kernel_rfl

def C_laws_markTensor : Fun := ⟨2, 18,
  .seq (
  .reg [⟨some 2, none, .box (.t 0)⟩,
        ⟨some 4, none, .mv (.c (.d (.int 0)))⟩]) (
  .seq (
  .reg [⟨some 5, none, .fld 0 (.t 2)⟩,
        ⟨some 6, none, .ld (.t 5)⟩,
        ⟨some 7, none, .mv (.t 1)⟩,
        ⟨some 8, none, .call 27 [(.t 6), (.t 7)]⟩,
        ⟨some 1, none, .mv (.t 8)⟩]) (
  .seq (
  .reg [⟨some 9, none, .fld 1 (.t 2)⟩,
        ⟨some 10, none, .ld (.t 9)⟩,
        ⟨some 11, none, .mv (.t 1)⟩,
        ⟨some 12, none, .call 27 [(.t 10), (.t 11)]⟩,
        ⟨some 1, none, .mv (.t 12)⟩]) (
  .seq (
  .reg [⟨some 13, none, .fld 2 (.t 2)⟩,
        ⟨some 14, none, .ld (.t 13)⟩,
        ⟨some 15, none, .mv (.t 1)⟩,
        ⟨some 16, none, .call 27 [(.t 14), (.t 15)]⟩,
        ⟨some 1, none, .mv (.t 16)⟩]) (
  .seq (
  .reg [⟨some 17, none, .mv (.t 1)⟩,
        ⟨some 4, none, .mv (.t 17)⟩]) (
  .ret))))),
  [.t 4]⟩

theorem k_laws_markTensor : cFun Try.prog Try.f26 = some C_laws_markTensor.erase := by kernel_rfl

def L0_laws_heldIntS : C :=
      .seq (
      .seq (
      .reg [⟨some 6, none, .mv (.t 5)⟩,
            ⟨some 7, none, .mv (.t 0)⟩,
            ⟨some 8, none, .len (.t 7)⟩,
            ⟨some 9, none, .bin .lss (.t 6) (.t 8)⟩]) (
      .cond (.t 9) (
        .skip) (
        .exit 0))) (
      .seq (
      .block 1 (
        .seq (
        .seq (
        .reg [⟨some 12, none, .mv (.t 0)⟩,
              ⟨some 13, none, .mv (.t 5)⟩,
              ⟨some 14, none, .idx 1 (.t 12) (.t 13)⟩,
              ⟨some 15, none, .ld (.t 14)⟩,
              ⟨some 16, none, .mv (.t 1)⟩,
              ⟨some 17, none, .bin .neq (.t 15) (.t 16)⟩]) (
        .cond (.t 17) (
          .seq (
          .reg [⟨some 4, none, .mv (.c (.d (.int (-1))))⟩]) (
          .ret)) (
          .skip))) (
        .reg [⟨some 18, none, .mv (.t 1)⟩,
              ⟨some 19, none, .bin .add (.t 18) (.c (.d (.int 1)))⟩,
              ⟨some 1, none, .mv (.t 19)⟩]))) (
      .reg [⟨some 10, none, .mv (.t 5)⟩,
            ⟨some 11, none, .bin .add (.t 10) (.c (.d (.int 1)))⟩,
            ⟨some 5, none, .mv (.t 11)⟩]))

def C_laws_heldIntS : Fun := ⟨2, 21,
  .seq (
  .reg [⟨some 4, none, .mv (.c (.d (.int 0)))⟩]) (
  .seq (
  .seq (
  .reg [⟨some 5, none, .mv (.c (.d (.int 0)))⟩]) (
  .block 0 (
    .loop L0_laws_heldIntS))) (
  .seq (
  .reg [⟨some 20, none, .mv (.t 1)⟩,
        ⟨some 4, none, .mv (.t 20)⟩]) (
  .ret))),
  [.t 4]⟩

theorem k_laws_heldIntS : cFun Try.prog Try.f28 = some C_laws_heldIntS.erase := by kernel_rfl

def C_impl_copyInts : Fun := ⟨1, 5,
  .seq (
  .reg [⟨some 2, none, .mv (.c (.nil))⟩]) (
  .seq (
  .reg [⟨some 3, none, .mv (.t 0)⟩,
        ⟨some 4, none, .app 1 8 [.d (.int 0)] (.c (.nil)) (.t 3)⟩,
        ⟨some 2, none, .mv (.t 4)⟩]) (
  .ret)),
  [.t 2]⟩

theorem k_impl_copyInts : cFun Try.prog Try.f69 = some C_impl_copyInts.erase := by kernel_rfl

def C_impl_rawElem : Fun := ⟨3, 20,
  .seq (
  .reg [⟨some 3, none, .box (.t 0)⟩,
        ⟨some 4, none, .box (.t 1)⟩,
        ⟨some 6, none, .mv (.c (.nil))⟩]) (
  .seq (
  .reg [⟨some 8, none, .ldn 3 (.t 3)⟩,
        ⟨some 9, none, .call 66 [(.t 8)]⟩,
        ⟨some 7, none, .mv (.t 9)⟩]) (
  .seq (
  .reg [⟨some 10, none, .fld 2 (.t 4)⟩,
        ⟨some 11, none, .ld (.t 10)⟩,
        ⟨some 12, none, .mv (.t 2)⟩,
        ⟨some 13, none, .mv (.t 7)⟩,
        ⟨some 14, none, .bin .mul (.t 12) (.t 13)⟩,
        ⟨some 15, none, .mv (.t 2)⟩,
        ⟨some 16, none, .bin .add (.t 15) (.c (.d (.int 1)))⟩,
        ⟨some 17, none, .mv (.t 7)⟩,
        ⟨some 18, none, .bin .mul (.t 16) (.t 17)⟩,
        ⟨some 19, none, .slc 1 (.t 11) (some (.t 14)) (some (.t 18))⟩,
        ⟨some 6, none, .mv (.t 19)⟩]) (
  .ret))),
  [.t 6]⟩

theorem k_impl_rawElem : cFun Try.prog Try.f70 = some C_impl_rawElem.erase := by kernel_rfl

def C_spec_l05Get : Fun := ⟨3, 23,
  .seq (
  .reg [⟨some 3, none, .box (.t 0)⟩,
        ⟨some 4, none, .box (.t 1)⟩,
        ⟨some 6, none, .mv (.c (.nil))⟩]) (
  .seq (
  .reg [⟨some 8, none, .ldn 3 (.t 3)⟩,
        ⟨some 9, none, .call 63 [(.t 8)]⟩,
        ⟨some 7, none, .mv (.t 9)⟩]) (
  .seq (
  .reg [⟨some 10, none, .mksl 1 0 [.d (.int 0)] []⟩,
        ⟨some 11, none, .fld 2 (.t 4)⟩,
        ⟨some 12, none, .ld (.t 11)⟩,
        ⟨some 13, none, .mv (.t 2)⟩,
        ⟨some 14, none, .mv (.t 7)⟩,
        ⟨some 15, none, .bin .mul (.t 13) (.t 14)⟩,
        ⟨some 16, none, .mv (.t 2)⟩,
        ⟨some 17, none, .mv (.t 7)⟩,
        ⟨some 18, none, .bin .mul (.t 16) (.t 17)⟩,
        ⟨some 19, none, .mv (.t 7)⟩,
        ⟨some 20, none, .bin .add (.t 18) (.t 19)⟩,
        ⟨some 21, none, .slc 1 (.t 12) (some (.t 15)) (some (.t 20))⟩,
        ⟨some 22, none, .app 1 8 [.d (.int 0)] (.t 10) (.t 21)⟩,
        ⟨some 6, none, .mv (.t 22)⟩]) (
  .ret))),
  [.t 6]⟩

theorem k_spec_l05Get : cFun Try.prog Try.f68 = some C_spec_l05Get.erase := by kernel_rfl

def C_impl_ElemAt : Fun := ⟨3, 26,
  .seq (
  .reg [⟨some 3, none, .box (.t 0)⟩,
        ⟨some 4, none, .box (.t 1)⟩,
        ⟨some 6, none, .mv (.c (.nil))⟩]) (
  .seq (
  .seq (
  .reg [⟨some 7, none, .ldn 3 (.t 3)⟩,
        ⟨some 8, none, .ldn 3 (.t 4)⟩,
        ⟨some 9, none, .call 33 [(.t 7), (.t 8)]⟩,
        ⟨some 10, none, .not (.t 9)⟩,
        ⟨some 11, none, .mv (.t 10)⟩,
        ⟨some 12, some (11, false), .fld 1 (.t 4)⟩,
        ⟨some 13, some (11, false), .ld (.t 12)⟩,
        ⟨some 14, some (11, false), .mv (.t 2)⟩,
        ⟨some 15, some (11, false), .call 55 [(.t 13), (.t 14)]⟩,
        ⟨some 16, some (11, false), .not (.t 15)⟩,
        ⟨some 17, none, .pick (.t 11) (.c (.d (.bool true))) (.t 16)⟩]) (
  .cond (.t 17) (
    .seq (
    .reg [⟨some 6, none, .mv (.c (.nil))⟩]) (
    .ret)) (
    .skip))) (
  .seq (
  .draw [⟨some 18, none, .ldn 3 (.t 3)⟩,
         ⟨some 19, none, .ldn 3 (.t 4)⟩,
         ⟨some 20, none, .fld 1 (.t 4)⟩,
         ⟨some 21, none, .ld (.t 20)⟩,
         ⟨some 22, none, .mv (.t 2)⟩,
         ⟨some 23, none, .call 56 [(.t 21), (.t 22)]⟩]
    [⟨some 24, none, .call 70 [(.t 18), (.t 19), (.t 23)]⟩,
     ⟨some 25, none, .call 69 [(.t 24)]⟩,
     ⟨some 6, none, .mv (.t 25)⟩]) (
  .ret))),
  [.t 6]⟩

theorem k_impl_ElemAt : cFun Try.prog Try.f35 = some C_impl_ElemAt.erase := by kernel_rfl

def C_spec_ElemAt : Fun := ⟨3, 23,
  .seq (
  .reg [⟨some 3, none, .box (.t 0)⟩,
        ⟨some 4, none, .box (.t 1)⟩,
        ⟨some 6, none, .mv (.c (.nil))⟩]) (
  .seq (
  .reg [⟨some 8, none, .ldn 3 (.t 4)⟩,
        ⟨some 9, none, .mv (.t 2)⟩,
        ⟨some 10, none, .call 20 [(.t 8), (.t 9)]⟩,
        ⟨some 7, none, .mv (.t 10)⟩]) (
  .seq (
  .seq (
  .reg [⟨some 11, none, .mv (.t 7)⟩,
        ⟨some 12, none, .bin .lss (.t 11) (.c (.d (.int 0)))⟩,
        ⟨some 13, none, .mv (.t 12)⟩,
        ⟨some 14, some (13, false), .ldn 3 (.t 3)⟩,
        ⟨some 15, some (13, false), .ldn 3 (.t 4)⟩,
        ⟨some 16, some (13, false), .call 31 [(.t 14), (.t 15)]⟩,
        ⟨some 17, some (13, false), .not (.t 16)⟩,
        ⟨some 18, none, .pick (.t 13) (.c (.d (.bool true))) (.t 17)⟩]) (
  .cond (.t 18) (
    .seq (
    .reg [⟨some 6, none, .mv (.c (.nil))⟩]) (
    .ret)) (
    .skip))) (
  .seq (
  .reg [⟨some 19, none, .ldn 3 (.t 3)⟩,
        ⟨some 20, none, .ldn 3 (.t 4)⟩,
        ⟨some 21, none, .mv (.t 7)⟩,
        ⟨some 22, none, .call 68 [(.t 19), (.t 20), (.t 21)]⟩,
        ⟨some 6, none, .mv (.t 22)⟩]) (
  .ret)))),
  [.t 6]⟩

theorem k_spec_ElemAt : cFun Try.prog Try.f34 = some C_spec_ElemAt.erase := by kernel_rfl

end Go.Proofs.Ytmgifmgdfldheaa
