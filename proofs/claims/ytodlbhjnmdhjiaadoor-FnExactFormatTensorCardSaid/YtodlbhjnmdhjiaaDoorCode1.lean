/-
  The compiled code of functions of the seat (written by mkcode.py). No condition.
-/
import Derived.Test.YtodlbhjnmdhjiaaDoorLiftK
import Derived.Test.YtodlbhjnmdhjiaaDoorProg
import Derived.KernelRfl
namespace Go.Proofs.YtodlbhjnmdhjiaaDoor
open Go.Lift

def L0_spec_FormatTensor : C :=
 .seq (
 .seq (
 .reg [⟨some 39, none, .mv (.t 8)⟩,
 ⟨some 40, none, .fld 1 (.t 3)⟩,
 ⟨some 41, none, .ld (.t 40)⟩,
 ⟨some 42, none, .call 13 [(.t 41), (.c (.d (.int 4096)))]⟩,
 ⟨some 43, none, .bin .lss (.t 39) (.t 42)⟩]) (
 .cond (.t 43) (
 .skip) (
 .exit 2))) (
 .seq (
 .block 3 (
 .draw [⟨some 46, none, .mv (.t 5)⟩,
 ⟨some 47, none, .ldn 3 (.t 2)⟩,
 ⟨some 48, none, .ldn 3 (.t 2)⟩,
 ⟨some 49, none, .ldn 3 (.t 3)⟩,
 ⟨some 50, none, .mv (.t 8)⟩,
 ⟨some 51, none, .call 15 [(.t 48), (.t 49), (.t 50)]⟩,
 ⟨some 52, none, .call 14 [(.t 47), (.t 51)]⟩,
 ⟨some 53, none, .mksl 1 1 [.d (.str ⟨#[]⟩)] [(0, 1, (.t 52))]⟩]
 [⟨some 54, none, .app 1 16 [.d (.str ⟨#[]⟩)] (.t 46) (.t 53)⟩,
 ⟨some 5, none, .mv (.t 54)⟩])) (
 .reg [⟨some 44, none, .mv (.t 8)⟩,
 ⟨some 45, none, .bin .add (.t 44) (.c (.d (.int 1)))⟩,
 ⟨some 8, none, .mv (.t 45)⟩]))

def L1_spec_FormatTensor : C :=
 .seq (
 .reg [⟨some 18, none, .bin .lss (.t 17) (.t 16)⟩]) (
 .seq (
 .cond (.t 18) (
 .skip) (
 .exit 0)) (
 .seq (
 .block 1 (
 .seq (
 .reg [⟨some 19, none, .mv (.t 17)⟩,
 ⟨some 20, none, .idx 1 (.t 15) (.t 17)⟩,
 ⟨some 21, none, .ld (.t 20)⟩,
 ⟨some 6, none, .mv (.t 19)⟩,
 ⟨some 7, none, .mv (.t 21)⟩]) (
 .draw [⟨some 22, none, .mv (.t 5)⟩,
 ⟨some 23, none, .mv (.t 7)⟩,
 ⟨some 24, none, .call 12 [(.t 23)]⟩,
 ⟨some 25, none, .cat (.t 24) (.c (.d (.str ⟨#[58]⟩)))⟩,
 ⟨some 26, none, .fld 1 (.t 3)⟩,
 ⟨some 27, none, .ld (.t 26)⟩,
 ⟨some 28, none, .mv (.t 6)⟩,
 ⟨some 29, none, .idx 1 (.t 27) (.t 28)⟩,
 ⟨some 30, none, .ld (.t 29)⟩,
 ⟨some 31, none, .call 12 [(.t 30)]⟩,
 ⟨some 32, none, .cat (.t 25) (.t 31)⟩,
 ⟨some 33, none, .mksl 1 1 [.d (.str ⟨#[]⟩)] [(0, 1, (.t 32))]⟩]
 [⟨some 34, none, .app 1 16 [.d (.str ⟨#[]⟩)] (.t 22) (.t 33)⟩,
 ⟨some 5, none, .mv (.t 34)⟩]))) (
 .reg [⟨some 35, none, .bin .add (.t 17) (.c (.d (.int 1)))⟩,
 ⟨some 17, none, .mv (.t 35)⟩])))

def C_spec_FormatTensor : Fun := ⟨2, 57,
 .seq (
 .reg [⟨some 2, none, .box (.t 0)⟩,
 ⟨some 3, none, .box (.t 1)⟩,
 ⟨some 4, none, .mv (.c (.d (.str ⟨#[]⟩)))⟩]) (
 .seq (
 .seq (
 .reg [⟨some 9, none, .ldn 3 (.t 2)⟩,
 ⟨some 10, none, .ldn 3 (.t 3)⟩,
 ⟨some 11, none, .call 11 [(.t 9), (.t 10)]⟩,
 ⟨some 12, none, .not (.t 11)⟩]) (
 .cond (.t 12) (
 .seq (
 .reg [⟨some 4, none, .mv (.c (.d (.str ⟨#[]⟩)))⟩]) (
 .ret)) (
 .skip))) (
 .seq (
 .reg [⟨some 13, none, .mksl 1 0 [.d (.str ⟨#[]⟩)] []⟩,
 ⟨some 5, none, .mv (.t 13)⟩]) (
 .seq (
 .seq (
 .reg [⟨some 14, none, .fld 0 (.t 3)⟩,
 ⟨some 15, none, .ld (.t 14)⟩,
 ⟨some 16, none, .len (.t 15)⟩,
 ⟨some 17, none, .mv (.c (.d (.int 0)))⟩]) (
 .block 0 (
 .loop L1_spec_FormatTensor))) (
 .seq (
 .reg [⟨some 36, none, .mv (.t 5)⟩,
 ⟨some 37, none, .mksl 1 1 [.d (.str ⟨#[]⟩)] [(0, 1, (.c (.d (.str ⟨#[61]⟩))))]⟩,
 ⟨some 38, none, .app 1 16 [.d (.str ⟨#[]⟩)] (.t 36) (.t 37)⟩,
 ⟨some 5, none, .mv (.t 38)⟩]) (
 .seq (
 .seq (
 .reg [⟨some 8, none, .mv (.c (.d (.int 0)))⟩]) (
 .block 2 (
 .loop L0_spec_FormatTensor))) (
 .seq (
 .reg [⟨some 55, none, .mv (.t 5)⟩,
 ⟨some 56, none, .call 16 [(.t 55), (.c (.d (.str ⟨#[32]⟩)))]⟩,
 ⟨some 4, none, .mv (.t 56)⟩]) (
 .ret))))))),
 [.t 4]⟩

theorem k_spec_FormatTensor : cFun Tryd.prog Tryd.f5 = some C_spec_FormatTensor.erase := by kernel_rfl

def L0_impl_FormatTensor : C :=
 .seq (
 .seq (
 .reg [⟨some 38, none, .mv (.t 8)⟩,
 ⟨some 39, none, .fld 1 (.t 3)⟩,
 ⟨some 40, none, .ld (.t 39)⟩,
 ⟨some 41, none, .call 20 [(.t 40)]⟩,
 ⟨some 42, none, .bin .lss (.t 38) (.t 41)⟩]) (
 .cond (.t 42) (
 .skip) (
 .exit 2))) (
 .seq (
 .block 3 (
 .reg [⟨some 45, none, .mv (.t 5)⟩,
 ⟨some 46, none, .ldn 3 (.t 2)⟩,
 ⟨some 47, none, .ldn 3 (.t 3)⟩,
 ⟨some 48, none, .mv (.t 8)⟩,
 ⟨some 49, none, .call 22 [(.t 46), (.t 47), (.t 48)]⟩,
 ⟨some 50, none, .call 21 [(.t 49)]⟩,
 ⟨some 51, none, .mksl 1 1 [.d (.str ⟨#[]⟩)] [(0, 1, (.t 50))]⟩,
 ⟨some 52, none, .app 1 16 [.d (.str ⟨#[]⟩)] (.t 45) (.t 51)⟩,
 ⟨some 5, none, .mv (.t 52)⟩])) (
 .reg [⟨some 43, none, .mv (.t 8)⟩,
 ⟨some 44, none, .bin .add (.t 43) (.c (.d (.int 1)))⟩,
 ⟨some 8, none, .mv (.t 44)⟩]))

def L1_impl_FormatTensor : C :=
 .seq (
 .reg [⟨some 17, none, .bin .lss (.t 16) (.t 15)⟩]) (
 .seq (
 .cond (.t 17) (
 .skip) (
 .exit 0)) (
 .seq (
 .block 1 (
 .seq (
 .reg [⟨some 18, none, .mv (.t 16)⟩,
 ⟨some 19, none, .idx 1 (.t 14) (.t 16)⟩,
 ⟨some 20, none, .ld (.t 19)⟩,
 ⟨some 6, none, .mv (.t 18)⟩,
 ⟨some 7, none, .mv (.t 20)⟩]) (
 .draw [⟨some 21, none, .mv (.t 5)⟩,
 ⟨some 22, none, .mv (.t 7)⟩,
 ⟨some 23, none, .call 19 [(.t 22)]⟩,
 ⟨some 24, none, .cat (.t 23) (.c (.d (.str ⟨#[58]⟩)))⟩,
 ⟨some 25, none, .fld 1 (.t 3)⟩,
 ⟨some 26, none, .ld (.t 25)⟩,
 ⟨some 27, none, .mv (.t 6)⟩,
 ⟨some 28, none, .idx 1 (.t 26) (.t 27)⟩,
 ⟨some 29, none, .ld (.t 28)⟩,
 ⟨some 30, none, .call 19 [(.t 29)]⟩,
 ⟨some 31, none, .cat (.t 24) (.t 30)⟩,
 ⟨some 32, none, .mksl 1 1 [.d (.str ⟨#[]⟩)] [(0, 1, (.t 31))]⟩]
 [⟨some 33, none, .app 1 16 [.d (.str ⟨#[]⟩)] (.t 21) (.t 32)⟩,
 ⟨some 5, none, .mv (.t 33)⟩]))) (
 .reg [⟨some 34, none, .bin .add (.t 16) (.c (.d (.int 1)))⟩,
 ⟨some 16, none, .mv (.t 34)⟩])))

def C_impl_FormatTensor : Fun := ⟨2, 55,
 .seq (
 .reg [⟨some 2, none, .box (.t 0)⟩,
 ⟨some 3, none, .box (.t 1)⟩,
 ⟨some 4, none, .mv (.c (.d (.str ⟨#[]⟩)))⟩]) (
 .seq (
 .seq (
 .reg [⟨some 9, none, .ldn 3 (.t 2)⟩,
 ⟨some 10, none, .ldn 3 (.t 3)⟩,
 ⟨some 11, none, .call 18 [(.t 9), (.t 10)]⟩,
 ⟨some 12, none, .not (.t 11)⟩]) (
 .cond (.t 12) (
 .seq (
 .reg [⟨some 4, none, .mv (.c (.d (.str ⟨#[]⟩)))⟩]) (
 .ret)) (
 .skip))) (
 .seq (
 .reg [⟨some 5, none, .mv (.c (.nil))⟩]) (
 .seq (
 .seq (
 .reg [⟨some 13, none, .fld 0 (.t 3)⟩,
 ⟨some 14, none, .ld (.t 13)⟩,
 ⟨some 15, none, .len (.t 14)⟩,
 ⟨some 16, none, .mv (.c (.d (.int 0)))⟩]) (
 .block 0 (
 .loop L1_impl_FormatTensor))) (
 .seq (
 .reg [⟨some 35, none, .mv (.t 5)⟩,
 ⟨some 36, none, .mksl 1 1 [.d (.str ⟨#[]⟩)] [(0, 1, (.c (.d (.str ⟨#[61]⟩))))]⟩,
 ⟨some 37, none, .app 1 16 [.d (.str ⟨#[]⟩)] (.t 35) (.t 36)⟩,
 ⟨some 5, none, .mv (.t 37)⟩]) (
 .seq (
 .seq (
 .reg [⟨some 8, none, .mv (.c (.d (.int 0)))⟩]) (
 .block 2 (
 .loop L0_impl_FormatTensor))) (
 .seq (
 .reg [⟨some 53, none, .mv (.t 5)⟩,
 ⟨some 54, none, .call 23 [(.t 53), (.c (.d (.str ⟨#[32]⟩)))]⟩,
 ⟨some 4, none, .mv (.t 54)⟩]) (
 .ret))))))),
 [.t 4]⟩

theorem k_impl_FormatTensor : cFun Tryd.prog Tryd.f8 = some C_impl_FormatTensor.erase := by kernel_rfl

def L0_spec_FormatInt : C :=
 .seq (
 .seq (
 .reg [⟨some 25, none, .mv (.t 0)⟩,
 ⟨some 26, none, .bin .gtr (.t 25) (.c (.d (.int 9)))⟩]) (
 .cond (.t 26) (
 .skip) (
 .exit 0))) (
 .block 1 (
 .seq (
 .reg [⟨some 27, none, .mv (.t 0)⟩,
 ⟨some 28, none, .bin .rem (.t 27) (.c (.d (.int 10)))⟩,
 ⟨some 29, none, .bin .add (.c (.d (.int 48))) (.t 28)⟩,
 ⟨some 30, none, .cvt true (.t 29)⟩,
 ⟨some 31, none, .mksl 1 1 [.d (.byte 0)] [(0, 1, (.t 30))]⟩,
 ⟨some 32, none, .bst (.t 31)⟩,
 ⟨some 33, none, .mv (.t 3)⟩,
 ⟨some 34, none, .cat (.t 32) (.t 33)⟩,
 ⟨some 3, none, .mv (.t 34)⟩]) (
 .reg [⟨some 35, none, .mv (.t 0)⟩,
 ⟨some 36, none, .bin .quo (.t 35) (.c (.d (.int 10)))⟩,
 ⟨some 0, none, .mv (.t 36)⟩])))

def C_spec_FormatInt : Fun := ⟨1, 44,
 .seq (
 .reg [⟨some 2, none, .mv (.c (.d (.str ⟨#[]⟩)))⟩]) (
 .seq (
 .seq (
 .reg [⟨some 4, none, .mv (.t 0)⟩,
 ⟨some 5, none, .bin .lss (.t 4) (.c (.d (.int 0)))⟩]) (
 .cond (.t 5) (
 .seq (
 .seq (
 .reg [⟨some 6, none, .mv (.t 0)⟩,
 ⟨some 7, none, .bin .quo (.t 6) (.c (.d (.int 10)))⟩,
 ⟨some 8, none, .bin .eql (.t 7) (.c (.d (.int 0)))⟩]) (
 .cond (.t 8) (
 .seq (
 .reg [⟨some 9, none, .mv (.t 0)⟩,
 ⟨some 10, none, .bin .sub (.c (.d (.int 48))) (.t 9)⟩,
 ⟨some 11, none, .cvt true (.t 10)⟩,
 ⟨some 12, none, .mksl 1 1 [.d (.byte 0)] [(0, 1, (.t 11))]⟩,
 ⟨some 13, none, .bst (.t 12)⟩,
 ⟨some 14, none, .cat (.c (.d (.str ⟨#[45]⟩))) (.t 13)⟩,
 ⟨some 2, none, .mv (.t 14)⟩]) (
 .ret)) (
 .skip))) (
 .seq (
 .draw [⟨some 15, none, .mv (.t 0)⟩,
 ⟨some 16, none, .bin .quo (.t 15) (.c (.d (.int 10)))⟩,
 ⟨some 17, none, .call 12 [(.t 16)]⟩,
 ⟨some 18, none, .mv (.t 0)⟩,
 ⟨some 19, none, .bin .rem (.t 18) (.c (.d (.int 10)))⟩,
 ⟨some 20, none, .bin .sub (.c (.d (.int 48))) (.t 19)⟩,
 ⟨some 21, none, .cvt true (.t 20)⟩,
 ⟨some 22, none, .mksl 1 1 [.d (.byte 0)] [(0, 1, (.t 21))]⟩,
 ⟨some 23, none, .bst (.t 22)⟩]
 [⟨some 24, none, .cat (.t 17) (.t 23)⟩,
 ⟨some 2, none, .mv (.t 24)⟩]) (
 .ret))) (
 .skip))) (
 .seq (
 .reg [⟨some 3, none, .mv (.c (.d (.str ⟨#[]⟩)))⟩]) (
 .seq (
 .block 0 (
 .loop L0_spec_FormatInt)) (
 .seq (
 .reg [⟨some 37, none, .mv (.t 0)⟩,
 ⟨some 38, none, .bin .add (.c (.d (.int 48))) (.t 37)⟩,
 ⟨some 39, none, .cvt true (.t 38)⟩,
 ⟨some 40, none, .mksl 1 1 [.d (.byte 0)] [(0, 1, (.t 39))]⟩,
 ⟨some 41, none, .bst (.t 40)⟩,
 ⟨some 42, none, .mv (.t 3)⟩,
 ⟨some 43, none, .cat (.t 41) (.t 42)⟩,
 ⟨some 2, none, .mv (.t 43)⟩]) (
 .ret))))),
 [.t 2]⟩

theorem k_spec_FormatInt : cFun Tryd.prog Tryd.f12 = some C_spec_FormatInt.erase := by kernel_rfl

def L0_spec_FormatElem : C :=
 .seq (
 .reg [⟨some 16, none, .bin .lss (.t 15) (.t 14)⟩]) (
 .seq (
 .cond (.t 16) (
 .skip) (
 .exit 0)) (
 .seq (
 .block 1 (
 .seq (
 .reg [⟨some 17, none, .idx 1 (.t 13) (.t 15)⟩,
 ⟨some 18, none, .ld (.t 17)⟩,
 ⟨some 7, none, .mv (.t 18)⟩]) (
 .reg [⟨some 19, none, .mv (.t 5)⟩,
 ⟨some 20, none, .mv (.t 7)⟩,
 ⟨some 21, none, .call 12 [(.t 20)]⟩,
 ⟨some 22, none, .mksl 1 1 [.d (.str ⟨#[]⟩)] [(0, 1, (.t 21))]⟩,
 ⟨some 23, none, .app 1 16 [.d (.str ⟨#[]⟩)] (.t 19) (.t 22)⟩,
 ⟨some 5, none, .mv (.t 23)⟩]))) (
 .reg [⟨some 24, none, .bin .add (.t 15) (.c (.d (.int 1)))⟩,
 ⟨some 15, none, .mv (.t 24)⟩])))

def C_spec_FormatElem : Fun := ⟨2, 27,
 .seq (
 .reg [⟨some 2, none, .box (.t 0)⟩,
 ⟨some 4, none, .mv (.c (.d (.str ⟨#[]⟩)))⟩]) (
 .seq (
 .seq (
 .reg [⟨some 8, none, .ldn 3 (.t 2)⟩,
 ⟨some 9, none, .mv (.t 1)⟩,
 ⟨some 10, none, .call 30 [(.t 8), (.t 9)]⟩,
 ⟨some 11, none, .not (.t 10)⟩]) (
 .cond (.t 11) (
 .seq (
 .reg [⟨some 4, none, .mv (.c (.d (.str ⟨#[]⟩)))⟩]) (
 .ret)) (
 .skip))) (
 .seq (
 .reg [⟨some 12, none, .mksl 1 0 [.d (.str ⟨#[]⟩)] []⟩,
 ⟨some 5, none, .mv (.t 12)⟩]) (
 .seq (
 .seq (
 .reg [⟨some 13, none, .mv (.t 1)⟩,
 ⟨some 14, none, .len (.t 13)⟩,
 ⟨some 15, none, .mv (.c (.d (.int 0)))⟩]) (
 .block 0 (
 .loop L0_spec_FormatElem))) (
 .seq (
 .reg [⟨some 25, none, .mv (.t 5)⟩,
 ⟨some 26, none, .call 16 [(.t 25), (.c (.d (.str ⟨#[44]⟩)))]⟩,
 ⟨some 4, none, .mv (.t 26)⟩]) (
 .ret))))),
 [.t 4]⟩

theorem k_spec_FormatElem : cFun Tryd.prog Tryd.f14 = some C_spec_FormatElem.erase := by kernel_rfl

def L0_spec_Join : C :=
 .seq (
 .reg [⟨some 11, none, .bin .lss (.t 10) (.t 9)⟩]) (
 .seq (
 .cond (.t 11) (
 .skip) (
 .exit 0)) (
 .seq (
 .block 1 (
 .seq (
 .reg [⟨some 12, none, .mv (.t 10)⟩,
 ⟨some 13, none, .idx 1 (.t 8) (.t 10)⟩,
 ⟨some 14, none, .ld (.t 13)⟩,
 ⟨some 6, none, .mv (.t 12)⟩,
 ⟨some 7, none, .mv (.t 14)⟩]) (
 .seq (
 .seq (
 .reg [⟨some 15, none, .mv (.t 6)⟩,
 ⟨some 16, none, .bin .gtr (.t 15) (.c (.d (.int 0)))⟩]) (
 .cond (.t 16) (
 .reg [⟨some 17, none, .mv (.t 5)⟩,
 ⟨some 18, none, .mv (.t 1)⟩,
 ⟨some 19, none, .cat (.t 17) (.t 18)⟩,
 ⟨some 5, none, .mv (.t 19)⟩]) (
 .skip))) (
 .reg [⟨some 20, none, .mv (.t 5)⟩,
 ⟨some 21, none, .mv (.t 7)⟩,
 ⟨some 22, none, .cat (.t 20) (.t 21)⟩,
 ⟨some 5, none, .mv (.t 22)⟩])))) (
 .reg [⟨some 23, none, .bin .add (.t 10) (.c (.d (.int 1)))⟩,
 ⟨some 10, none, .mv (.t 23)⟩])))

def C_spec_Join : Fun := ⟨2, 25,
 .seq (
 .reg [⟨some 4, none, .mv (.c (.d (.str ⟨#[]⟩)))⟩]) (
 .seq (
 .reg [⟨some 5, none, .mv (.c (.d (.str ⟨#[]⟩)))⟩]) (
 .seq (
 .seq (
 .reg [⟨some 8, none, .mv (.t 0)⟩,
 ⟨some 9, none, .len (.t 8)⟩,
 ⟨some 10, none, .mv (.c (.d (.int 0)))⟩]) (
 .block 0 (
 .loop L0_spec_Join))) (
 .seq (
 .reg [⟨some 24, none, .mv (.t 5)⟩,
 ⟨some 4, none, .mv (.t 24)⟩]) (
 .ret)))),
 [.t 4]⟩

theorem k_spec_Join : cFun Tryd.prog Tryd.f16 = some C_spec_Join.erase := by kernel_rfl

def C_impl_FormatInt : Fun := ⟨1, 5,
 .seq (
 .reg [⟨some 2, none, .mv (.c (.d (.str ⟨#[]⟩)))⟩]) (
 .seq (
 .reg [⟨some 3, none, .mv (.t 0)⟩,
 ⟨some 4, none, .call 35 [(.t 3)]⟩,
 ⟨some 2, none, .mv (.t 4)⟩]) (
 .ret)),
 [.t 2]⟩

theorem k_impl_FormatInt : cFun Tryd.prog Tryd.f19 = some C_impl_FormatInt.erase := by kernel_rfl

def L0_impl_rawElemText : C :=
 .seq (
 .reg [⟨some 12, none, .bin .lss (.t 11) (.t 10)⟩]) (
 .seq (
 .cond (.t 12) (
 .skip) (
 .exit 0)) (
 .seq (
 .block 1 (
 .seq (
 .reg [⟨some 13, none, .mv (.t 11)⟩,
 ⟨some 14, none, .idx 1 (.t 9) (.t 11)⟩,
 ⟨some 15, none, .ld (.t 14)⟩,
 ⟨some 4, none, .mv (.t 13)⟩,
 ⟨some 5, none, .mv (.t 15)⟩]) (
 .reg [⟨some 16, none, .mv (.t 3)⟩,
 ⟨some 17, none, .mv (.t 4)⟩,
 ⟨some 18, none, .mv (.t 5)⟩,
 ⟨some 19, none, .call 19 [(.t 18)]⟩,
 ⟨some 20, none, .idx 1 (.t 16) (.t 17)⟩,
 ⟨none, none, .st 1 (.t 20) (.t 19)⟩]))) (
 .reg [⟨some 21, none, .bin .add (.t 11) (.c (.d (.int 1)))⟩,
 ⟨some 11, none, .mv (.t 21)⟩])))

def C_impl_rawElemText : Fun := ⟨1, 24,
 .seq (
 .reg [⟨some 2, none, .mv (.c (.d (.str ⟨#[]⟩)))⟩]) (
 .seq (
 .reg [⟨some 6, none, .mv (.t 0)⟩,
 ⟨some 7, none, .len (.t 6)⟩,
 ⟨some 8, none, .make 1 16 [.d (.str ⟨#[]⟩)] (.t 7) (.t 7)⟩,
 ⟨some 3, none, .mv (.t 8)⟩]) (
 .seq (
 .seq (
 .reg [⟨some 9, none, .mv (.t 0)⟩,
 ⟨some 10, none, .len (.t 9)⟩,
 ⟨some 11, none, .mv (.c (.d (.int 0)))⟩]) (
 .block 0 (
 .loop L0_impl_rawElemText))) (
 .seq (
 .reg [⟨some 22, none, .mv (.t 3)⟩,
 ⟨some 23, none, .call 23 [(.t 22), (.c (.d (.str ⟨#[44]⟩)))]⟩,
 ⟨some 2, none, .mv (.t 23)⟩]) (
 .ret)))),
 [.t 2]⟩

theorem k_impl_rawElemText : cFun Tryd.prog Tryd.f21 = some C_impl_rawElemText.erase := by kernel_rfl

def C_impl_Join : Fun := ⟨2, 8,
 .seq (
 .reg [⟨some 4, none, .mv (.c (.d (.str ⟨#[]⟩)))⟩]) (
 .seq (
 .reg [⟨some 5, none, .mv (.t 0)⟩,
 ⟨some 6, none, .mv (.t 1)⟩,
 ⟨some 7, none, .call 36 [(.t 5), (.t 6)]⟩,
 ⟨some 4, none, .mv (.t 7)⟩]) (
 .ret)),
 [.t 4]⟩

theorem k_impl_Join : cFun Tryd.prog Tryd.f23 = some C_impl_Join.erase := by kernel_rfl
end Go.Proofs.YtodlbhjnmdhjiaaDoor
