/-
 The compiled code of functions of the seat (written by mkcode.py). No condition.
-/
import Derived.Test.YtneocijmbnhblaaGreatLiftK
import Derived.Test.YtneocijmbnhblaaGreatProg
import Derived.KernelRfl
import Derived.Test.YtneocijmbnhblaaGreatLiftE
import Derived.Test.YtneocijmbnhblaaGreatLiftW
namespace Go.Proofs.YtneocijmbnhblaaGreat
open Go.Lift
def C_laws_FnImproved:Fun:=⟨1,175,
 .seq (
 .reg [iI 2 (.mv (.c (.d (.bool false))))]) (
 .seq (
 .seq (
 .reg [iM 22 0,iI 23 (.len (.t 22)),iI 24 (.bin .gtr (.t 23) (.c (.d (.int 1048576))))]) (
 .cond (.t 24) (
 .seq (
 .reg [iI 2 (.mv (.c (.d (.bool true))))]) (
 .ret)) (
 .skip))) (
 .seq (
 .reg [iM 25 0,iI 26 (.call 5 [(.t 25),(.c (.d (.int 0)))]),iI 3 (.zer [.d (.int 0),.d (.int 0),.d (.int 0)]),
 ⟨none,none,.st 3 (.t 3) (.t 26)⟩]) (
 .seq (
 .reg [iM 27 0,iI 28 (.ldn 3 (.t 3)),iI 29 (.call 6 [(.t 27),(.c (.d (.int 10))),(.t 28),(.c (.d (.int 5)))]),iI 4 (.zer [.d (.int 0),.d (.int 0),.d (.int 0),.nil,.nil]),
 ⟨none,none,.st 5 (.t 4) (.t 29)⟩]) (
 .seq (
 .reg [iM 30 0,iI 31 (.ldn 5 (.t 4)),iI 32 (.call 16 [(.t 30),(.c (.d (.int 100))),(.t 31)]),iM 5 32]) (
 .seq (
 .draw [iI 34 (.ldn 5 (.t 4)),iM 35 5,iM 36 0,iI 37 (.call 18 [(.t 36),(.c (.d (.int 110)))]),iI 38 (.call 17 [(.t 34),(.t 35),(.t 37),(.c (.d (.int 8)))]),iM 33 38,iI 39 (.ext 0 (.t 33)),iI 40 (.ext 1 (.t 33)),iM 6 39]
 [iM 7 40]) (
 .seq (
 .reg [iI 42 (.ldn 5 (.t 4)),iM 43 5,iI 44 (.call 19 [(.t 42),(.t 43)]),iM 41 44,iI 45 (.ext 0 (.t 41)),iI 46 (.ext 1 (.t 41)),iM 8 45,iM 9 46]) (
 .seq (
 .draw [iI 48 (.ldn 5 (.t 4)),iM 49 5,iM 50 5,iI 51 (.len (.t 50)),iI 52 (.bin .quo (.t 51) (.c (.d (.int 2)))),iI 53 (.slc 2 (.t 49) none (some (.t 52))),iI 54 (.call 20 [(.t 48),(.t 53)]),iM 47 54,iI 55 (.ext 0 (.t 47)),iI 56 (.ext 1 (.t 47)),iM 10 55]
 [iM 11 56]) (
 .seq (
 .reg [iI 58 (.ldn 5 (.t 4)),iM 59 8,iI 60 (.call 19 [(.t 58),(.t 59)]),iM 57 60,iI 61 (.ext 0 (.t 57)),iI 62 (.ext 1 (.t 57)),iM 12 61,iM 13 62]) (
 .seq (
 .reg [iI 64 (.ldn 5 (.t 4)),iM 65 6,iI 66 (.call 21 [(.t 64),(.t 65)]),iM 63 66,iI 67 (.ext 0 (.t 63)),iI 68 (.ext 1 (.t 63)),iI 14 (.zer [.nil,.nil,.nil]),
 ⟨none,none,.st 3 (.t 14) (.t 67)⟩,iM 15 68]) (
 .seq (
 .reg [iI 70 (.ldn 5 (.t 4)),iM 71 8,iI 72 (.call 21 [(.t 70),(.t 71)]),iM 69 72,iI 73 (.ext 0 (.t 69)),iI 74 (.ext 1 (.t 69)),iI 16 (.zer [.nil,.nil,.nil]),
 ⟨none,none,.st 3 (.t 16) (.t 73)⟩,iM 17 74]) (
 .seq (
 .reg [iI 76 (.ldn 5 (.t 4)),iM 77 10,iI 78 (.call 21 [(.t 76),(.t 77)]),iM 75 78,iI 79 (.ext 0 (.t 75)),iI 80 (.ext 1 (.t 75)),iI 18 (.zer [.nil,.nil,.nil]),
 ⟨none,none,.st 3 (.t 18) (.t 79)⟩,iM 19 80]) (
 .seq (
 .seq (
 .draw [iM 81 7,iI 82 (.not (.t 81)),iM 83 82,iG 84 83 false (.mv (.t 9)),iG 85 83 false (.not (.t 84)),iI 86 (.pick (.t 83) (.c (.d (.bool true))) (.t 85)),iM 87 86,iG 88 87 false (.mv (.t 11)),iG 89 87 false (.not (.t 88)),iI 90 (.pick (.t 87) (.c (.d (.bool true))) (.t 89)),iM 91 90,iG 92 91 false (.mv (.t 13)),iG 93 91 false (.not (.t 92)),iI 94 (.pick (.t 91) (.c (.d (.bool true))) (.t 93)),iM 95 94,iG 96 95 false (.mv (.t 15)),iG 97 95 false (.not (.t 96)),iI 98 (.pick (.t 95) (.c (.d (.bool true))) (.t 97)),iM 99 98,iG 100 99 false (.mv (.t 17)),iG 101 99 false (.not (.t 100)),iI 102 (.pick (.t 99) (.c (.d (.bool true))) (.t 101)),iM 103 102,iG 104 103 false (.mv (.t 19)),iG 105 103 false (.not (.t 104)),iI 106 (.pick (.t 103) (.c (.d (.bool true))) (.t 105)),iM 107 106,iG 108 107 false (.ldn 3 (.t 14)),iG 109 107 false (.ldn 5 (.t 4)),iG 110 107 false (.call 15 [(.t 109)]),iG 111 107 false (.call 14 [(.t 108),(.t 110)]),iG 112 107 false (.not (.t 111)),iI 113 (.pick (.t 107) (.c (.d (.bool true))) (.t 112)),iM 114 113,iG 115 114 false (.ldn 3 (.t 16)),iG 116 114 false (.ldn 3 (.t 14)),iG 117 114 false (.call 14 [(.t 115),(.t 116)]),iG 118 114 false (.not (.t 117)),iI 119 (.pick (.t 114) (.c (.d (.bool true))) (.t 118)),iM 120 119,iG 121 120 false (.ldn 3 (.t 18)),iG 122 120 false (.ldn 3 (.t 14))]
 [iG 123 120 false (.call 14 [(.t 121),(.t 122)]),iG 124 120 false (.not (.t 123)),iI 125 (.pick (.t 120) (.c (.d (.bool true))) (.t 124))]) (
 .cond (.t 125) (
 .seq (
 .reg [iI 2 (.mv (.c (.d (.bool false))))]) (
 .ret)) (
 .skip))) (
 .seq (
 .reg [iI 127 (.ldn 5 (.t 4)),iM 128 5,iI 129 (.call 20 [(.t 127),(.t 128)]),iM 126 129,iI 130 (.ext 0 (.t 126)),iI 131 (.ext 1 (.t 126)),iM 20 130,iM 21 131]) (
 .seq (
 .draw [iI 132 (.ldn 5 (.t 4)),iM 133 6,iI 134 (.call 22 [(.t 132),(.t 133)]),iI 135 (.ldn 5 (.t 4)),iM 136 5,iI 137 (.call 22 [(.t 135),(.t 136)]),iI 138 (.bin .leq (.t 134) (.t 137)),iM 139 138,iG 140 139 true (.ldn 5 (.t 4)),iG 141 139 true (.mv (.t 8)),iG 142 139 true (.call 22 [(.t 140),(.t 141)]),iG 143 139 true (.ldn 5 (.t 4)),iG 144 139 true (.mv (.t 5)),iG 145 139 true (.call 22 [(.t 143),(.t 144)]),iG 146 139 true (.bin .eql (.t 142) (.t 145)),iI 147 (.pick (.t 139) (.t 146) (.c (.d (.bool false)))),iM 148 147,iG 149 148 true (.ldn 5 (.t 4)),iG 150 148 true (.mv (.t 8)),iG 151 148 true (.call 23 [(.t 149),(.t 150)]),iG 152 148 true (.ldn 5 (.t 4)),iG 153 148 true (.mv (.t 5)),iG 154 148 true (.call 23 [(.t 152),(.t 153)]),iG 155 148 true (.bin .eql (.t 151) (.t 154)),iI 156 (.pick (.t 148) (.t 155) (.c (.d (.bool false)))),iM 157 156,iG 158 157 true (.mv (.t 8)),iG 159 157 true (.mv (.t 12)),iG 160 157 true (.call 24 [(.t 158),(.t 159)]),iI 161 (.pick (.t 157) (.t 160) (.c (.d (.bool false)))),iM 162 161,iG 163 162 true (.mv (.t 21)),iI 164 (.pick (.t 162) (.t 163) (.c (.d (.bool false)))),iM 165 164,iG 166 165 true (.mv (.t 20)),iG 167 165 true (.mv (.t 5)),iG 168 165 true (.call 24 [(.t 166),(.t 167)]),iI 169 (.pick (.t 165) (.t 168) (.c (.d (.bool false)))),iM 170 169,iG 171 170 true (.ldn 5 (.t 4)),iG 172 170 true (.mv (.t 10))]
 [iG 173 170 true (.call 25 [(.t 171),(.t 172)]),iI 174 (.pick (.t 170) (.t 173) (.c (.d (.bool false)))),iM 2 174]) (
 .ret))))))))))))))),
 [.t 2]⟩
theorem i4:cFun Tryz.prog Tryz.f4=some C_laws_FnImproved.erase:=by kernel_rfl
def C_impl_copySteps:Fun:=⟨1,5,
 .seq (
 .reg [iI 2 (.mv (.c (.nil)))]) (
 .seq (
 .reg [iM 3 0,iI 4 (.app 2 16 [.d (.int 0),.d (.int 0)] (.c (.nil)) (.t 3)),iM 2 4]) (
 .ret)),
 [.t 2]⟩
theorem nP:cFun Tryz.prog Tryz.f48=some C_impl_copySteps.erase:=by kernel_rfl
def L0_impl_CompleteOrder:C:=
 .seq (
 .reg [iI 17 (.bin .lss (.t 16) (.t 15))]) (
 .seq (
 .cond (.t 17) (
 .skip) (
 .exit 0)) (
 .seq (
 .block 1 (
 .seq (
 .reg [iI 18 (.idx 2 (.t 14) (.t 16)),iI 19 (.ldn 2 (.t 18)),iI 8 (.zer [.d (.int 0),.d (.int 0)]),
 ⟨none,none,.st 2 (.t 8) (.t 19)⟩]) (
 .seq (
 .reg [iM 20 6,iI 21 (.ldn 2 (.t 8)),iI 22 (.call 51 [(.t 20),(.t 21)]),iI 23 (.not (.t 22))]) (
 .cond (.t 23) (
 .seq (
 .reg [iI 4 (.mv (.c (.nil))),iI 5 (.mv (.c (.d (.bool false))))]) (
 .ret)) (
 .skip))))) (
 .reg [iI 24 (.bin .add (.t 16) (.c (.d (.int 1)))),iM 16 24])))
def C_impl_CompleteOrder:Fun:=⟨2,30,
 .seq (
 .reg [iI 2 (.box (.t 0)),iI 4 (.mv (.c (.nil))),iI 5 (.mv (.c (.d (.bool false))))]) (
 .seq (
 .seq (
 .reg [iI 9 (.ldn 5 (.t 2)),iI 10 (.call 29 [(.t 9)]),iI 11 (.not (.t 10))]) (
 .cond (.t 11) (
 .seq (
 .reg [iI 4 (.mv (.c (.nil))),iI 5 (.mv (.c (.d (.bool false))))]) (
 .ret)) (
 .skip))) (
 .seq (
 .reg [iI 12 (.ldn 5 (.t 2)),iI 13 (.call 50 [(.t 12)]),iM 6 13]) (
 .seq (
 .seq (
 .reg [iM 14 1,iI 15 (.len (.t 14)),iI 16 (.mv (.c (.d (.int 0))))]) (
 .block 0 (
 .loop L0_impl_CompleteOrder))) (
 .seq (
 .reg [iM 25 1,iI 26 (.call 48 [(.t 25)]),iM 27 6,iI 28 (.call 55 [(.t 27)]),iI 29 (.app 2 16 [.d (.int 0),.d (.int 0)] (.t 26) (.t 28)),iM 4 29,iI 5 (.mv (.c (.d (.bool true))))]) (
 .ret))))),
 [.t 4,.t 5]⟩
theorem fR:cFun Tryz.prog Tryz.f20=some C_impl_CompleteOrder.erase:=by kernel_rfl
def L0_impl_ImproveOrder:C:=
 .seq (
 .reg [iI 55 (.bin .lss (.t 54) (.t 53))]) (
 .seq (
 .cond (.t 55) (
 .skip) (
 .exit 2)) (
 .seq (
 .block 3 (
 .seq (
 .reg [iI 56 (.idx 2 (.t 52) (.t 54)),iI 57 (.ldn 2 (.t 56)),iI 15 (.zer [.d (.int 0),.d (.int 0)]),
 ⟨none,none,.st 2 (.t 15) (.t 57)⟩]) (
 .reg [iM 58 13,iI 59 (.ldn 2 (.t 15)),iI 60 (.call 51 [(.t 58),(.t 59)])]))) (
 .reg [iI 61 (.bin .add (.t 54) (.c (.d (.int 1)))),iM 54 61])))
def L1_impl_ImproveOrder:C:=
 .seq (
 .seq (
 .reg [iM 36 11,iM 37 3,iI 38 (.bin .lss (.t 36) (.t 37))]) (
 .cond (.t 38) (
 .skip) (
 .exit 0))) (
 .seq (
 .block 1 (
 .seq (
 .reg [iM 41 2,iI 42 (.call 49 [(.t 41)]),iM 2 42]) (
 .seq (
 .reg [iM 43 2,iI 44 (.bin .quo (.t 43) (.c (.d (.int 65536)))),iM 45 10,iI 46 (.len (.t 45)),iI 47 (.bin .rem (.t 44) (.t 46)),iM 12 47]) (
 .seq (
 .reg [iI 48 (.ldn 5 (.t 4)),iI 49 (.call 50 [(.t 48)]),iM 13 49]) (
 .seq (
 .seq (
 .reg [iM 50 10,iM 51 12,iI 52 (.slc 2 (.t 50) none (some (.t 51))),iI 53 (.len (.t 52)),iI 54 (.mv (.c (.d (.int 0))))]) (
 .block 2 (
 .loop L0_impl_ImproveOrder))) (
 .seq (
 .reg [iI 16 (.mv (.c (.nil)))]) (
 .seq (
 .reg [iM 63 13,iM 64 2,iI 65 (.call 52 [(.t 63),(.t 64)]),iM 62 65,iI 66 (.ext 0 (.t 62)),iI 67 (.ext 1 (.t 62)),iM 16 66,iM 2 67]) (
 .seq (
 .reg [iM 68 10,iM 69 12,iI 70 (.slc 2 (.t 68) none (some (.t 69))),iI 71 (.call 48 [(.t 70)]),iM 72 16,iI 73 (.app 2 16 [.d (.int 0),.d (.int 0)] (.t 71) (.t 72)),iM 17 73]) (
 .seq (
 .draw [iI 74 (.ldn 5 (.t 4)),iM 75 17,iI 76 (.call 22 [(.t 74),(.t 75)]),iI 77 (.ldn 5 (.t 4)),iM 78 10]
 [iI 79 (.call 22 [(.t 77),(.t 78)]),iI 80 (.bin .lss (.t 76) (.t 79))]) (
 .cond (.t 80) (
 .reg [iM 81 17,iM 10 81]) (
 .skip))))))))))) (
 .reg [iM 39 11,iI 40 (.bin .add (.t 39) (.c (.d (.int 1)))),iM 11 40]))
def C_impl_ImproveOrder:Fun:=⟨4,83,
 .seq (
 .reg [iI 4 (.box (.t 0)),iI 8 (.mv (.c (.nil))),iI 9 (.mv (.c (.d (.bool false))))]) (
 .seq (
 .seq (
 .reg [iI 18 (.ldn 5 (.t 4)),iM 19 1,iI 20 (.call 25 [(.t 18),(.t 19)]),iI 21 (.not (.t 20)),iM 22 21,iG 23 22 false (.mv (.t 3)),iG 24 22 false (.bin .lss (.t 23) (.c (.d (.int 0)))),iI 25 (.pick (.t 22) (.c (.d (.bool true))) (.t 24)),iM 26 25,iG 27 26 false (.mv (.t 3)),iG 28 26 false (.bin .gtr (.t 27) (.c (.d (.int 40)))),iI 29 (.pick (.t 26) (.c (.d (.bool true))) (.t 28))]) (
 .cond (.t 29) (
 .seq (
 .reg [iI 8 (.mv (.c (.nil))),iI 9 (.mv (.c (.d (.bool false))))]) (
 .ret)) (
 .skip))) (
 .seq (
 .reg [iM 30 1,iI 31 (.call 48 [(.t 30)]),iM 10 31]) (
 .seq (
 .seq (
 .reg [iM 32 1,iI 33 (.len (.t 32)),iI 34 (.bin .eql (.t 33) (.c (.d (.int 0))))]) (
 .cond (.t 34) (
 .seq (
 .reg [iM 35 10,iM 8 35,iI 9 (.mv (.c (.d (.bool true))))]) (
 .ret)) (
 .skip))) (
 .seq (
 .seq (
 .reg [iI 11 (.mv (.c (.d (.int 0))))]) (
 .block 0 (
 .loop L1_impl_ImproveOrder))) (
 .seq (
 .reg [iM 82 10,iM 8 82,iI 9 (.mv (.c (.d (.bool true))))]) (
 .ret)))))),
 [.t 8,.t 9]⟩
theorem fZ:cFun Tryz.prog Tryz.f17=some C_impl_ImproveOrder.erase:=by kernel_rfl
def L0_laws_steps:C:=
 .seq (
 .reg [iI 10 (.bin .lss (.t 9) (.t 8))]) (
 .seq (
 .cond (.t 10) (
 .skip) (
 .exit 0)) (
 .seq (
 .block 1 (
 .seq (
 .reg [iM 11 9,iI 12 (.idx 2 (.t 7) (.t 9)),iI 13 (.ldn 2 (.t 12)),iI 6 (.zer [.d (.int 0),.d (.int 0)]),iM 5 11,
 ⟨none,none,.st 2 (.t 6) (.t 13)⟩]) (
 .seq (
 .draw [iM 14 5,iM 15 1,iI 16 (.len (.t 15)),iI 17 (.bin .geq (.t 14) (.t 16)),iM 18 17,iG 19 18 false (.mv (.t 1)),iG 20 18 false (.mv (.t 5)),iG 21 18 false (.idx 2 (.t 19) (.t 20)),iG 22 18 false (.ldn 2 (.t 21)),iG 23 18 false (.ldn 2 (.t 6))]
 [iG 24 18 false (.eqs true 2 (.t 22) (.t 23)),iI 25 (.pick (.t 18) (.c (.d (.bool true))) (.t 24))]) (
 .cond (.t 25) (
 .seq (
 .reg [iI 4 (.mv (.c (.d (.bool false))))]) (
 .ret)) (
 .skip))))) (
 .reg [iI 26 (.bin .add (.t 9) (.c (.d (.int 1)))),iM 9 26])))
def C_laws_steps:Fun:=⟨2,32,
 .seq (
 .reg [iI 4 (.mv (.c (.d (.bool false))))]) (
 .seq (
 .seq (
 .reg [iM 7 0,iI 8 (.len (.t 7)),iI 9 (.mv (.c (.d (.int 0))))]) (
 .block 0 (
 .loop L0_laws_steps))) (
 .seq (
 .reg [iM 27 0,iI 28 (.len (.t 27)),iM 29 1,iI 30 (.len (.t 29)),iI 31 (.bin .eql (.t 28) (.t 30)),iM 4 31]) (
 .ret))),
 [.t 4]⟩
theorem uw:cFun Tryz.prog Tryz.f24=some C_laws_steps.erase:=by kernel_rfl
def C_impl_copyInts:Fun:=⟨1,5,
 .seq (
 .reg [iI 2 (.mv (.c (.nil)))]) (
 .seq (
 .reg [iM 3 0,iI 4 (.app 1 8 [.d (.int 0)] (.c (.nil)) (.t 3)),iM 2 4]) (
 .ret)),
 [.t 2]⟩
theorem pf:cFun Tryz.prog Tryz.f72=some C_impl_copyInts.erase:=by kernel_rfl
def C_impl_rawElem:Fun:=⟨3,20,
 .seq (
 .reg [iI 3 (.box (.t 0)),iI 4 (.box (.t 1)),iI 6 (.mv (.c (.nil)))]) (
 .seq (
 .reg [iI 8 (.ldn 3 (.t 3)),iI 9 (.call 73 [(.t 8)]),iM 7 9]) (
 .seq (
 .reg [iI 10 (.fld 2 (.t 4)),iI 11 (.ld (.t 10)),iM 12 2,iM 13 7,iI 14 (.bin .mul (.t 12) (.t 13)),iM 15 2,iI 16 (.bin .add (.t 15) (.c (.d (.int 1)))),iM 17 7,iI 18 (.bin .mul (.t 16) (.t 17)),iI 19 (.slc 1 (.t 11) (some (.t 14)) (some (.t 18))),iM 6 19]) (
 .ret))),
 [.t 6]⟩
theorem kb:cFun Tryz.prog Tryz.f44=some C_impl_rawElem.erase:=by kernel_rfl
def C_spec_l05Get:Fun:=⟨3,23,
 .seq (
 .reg [iI 3 (.box (.t 0)),iI 4 (.box (.t 1)),iI 6 (.mv (.c (.nil)))]) (
 .seq (
 .reg [iI 8 (.ldn 3 (.t 3)),iI 9 (.call 110 [(.t 8)]),iM 7 9]) (
 .seq (
 .reg [iI 10 (.mksl 1 0 [.d (.int 0)] []),iI 11 (.fld 2 (.t 4)),iI 12 (.ld (.t 11)),iM 13 2,iM 14 7,iI 15 (.bin .mul (.t 13) (.t 14)),iM 16 2,iM 17 7,iI 18 (.bin .mul (.t 16) (.t 17)),iM 19 7,iI 20 (.bin .add (.t 18) (.t 19)),iI 21 (.slc 1 (.t 12) (some (.t 15)) (some (.t 20))),iI 22 (.app 1 8 [.d (.int 0)] (.t 10) (.t 21)),iM 6 22]) (
 .ret))),
 [.t 6]⟩
theorem rP:cFun Tryz.prog Tryz.f83=some C_spec_l05Get.erase:=by kernel_rfl
def C_spec_TensorSize:Fun:=⟨1,16,
 .seq (
 .reg [iI 1 (.box (.t 0)),iI 2 (.mv (.c (.d (.int 0))))]) (
 .seq (
 .seq (
 .reg [iI 4 (.fld 0 (.t 1)),iI 5 (.ld (.t 4)),iI 6 (.fld 1 (.t 1)),iI 7 (.ld (.t 6)),iI 8 (.call 121 [(.t 5),(.t 7)]),iI 9 (.not (.t 8))]) (
 .cond (.t 9) (
 .seq (
 .reg [iI 2 (.mv (.c (.d (.int (-1)))))]) (
 .ret)) (
 .skip))) (
 .seq (
 .reg [iI 10 (.fld 1 (.t 1)),iI 11 (.ld (.t 10)),iI 12 (.call 77 [(.t 11),(.c (.d (.int 4096)))]),iM 3 12]) (
 .seq (
 .seq (
 .reg [iM 13 3,iI 14 (.bin .gtr (.t 13) (.c (.d (.int 4096))))]) (
 .cond (.t 14) (
 .seq (
 .reg [iI 2 (.mv (.c (.d (.int (-1)))))]) (
 .ret)) (
 .skip))) (
 .seq (
 .reg [iM 15 3,iM 2 15]) (
 .ret))))),
 [.t 2]⟩
theorem mu:cFun Tryz.prog Tryz.f117=some C_spec_TensorSize.erase:=by kernel_rfl
def L0_impl_TensorSize:C:=
 .seq (
 .reg [iI 24 (.bin .lss (.t 23) (.t 22))]) (
 .seq (
 .cond (.t 24) (
 .skip) (
 .exit 0)) (
 .seq (
 .block 1 (
 .seq (
 .reg [iM 25 23,iI 26 (.idx 1 (.t 21) (.t 23)),iI 27 (.ld (.t 26)),iM 4 25,iM 5 27]) (
 .seq (
 .seq (
 .reg [iM 28 5,iI 29 (.bin .lss (.t 28) (.c (.d (.int 0)))),iM 30 29,iG 31 30 false (.mv (.t 5)),iG 32 30 false (.bin .gtr (.t 31) (.c (.d (.int 99)))),iI 33 (.pick (.t 30) (.c (.d (.bool true))) (.t 32)),iM 34 33,iG 35 34 false (.fld 0 (.t 1)),iG 36 34 false (.ld (.t 35)),iG 37 34 false (.mv (.t 4)),iG 38 34 false (.slc 1 (.t 36) none (some (.t 37))),iG 39 34 false (.mv (.t 5)),iG 40 34 false (.call 75 [(.t 38),(.t 39)]),iI 41 (.pick (.t 34) (.c (.d (.bool true))) (.t 40))]) (
 .cond (.t 41) (
 .seq (
 .reg [iI 2 (.mv (.c (.d (.int (-1)))))]) (
 .ret)) (
 .skip))) (
 .seq (
 .reg [iI 42 (.fld 1 (.t 1)),iI 43 (.ld (.t 42)),iM 44 4,iI 45 (.idx 1 (.t 43) (.t 44)),iI 46 (.ld (.t 45)),iM 6 46]) (
 .seq (
 .seq (
 .reg [iM 47 6,iI 48 (.bin .lss (.t 47) (.c (.d (.int 1)))),iM 49 48,iG 50 49 false (.mv (.t 6)),iG 51 49 false (.bin .gtr (.t 50) (.c (.d (.int 8)))),iI 52 (.pick (.t 49) (.c (.d (.bool true))) (.t 51)),iM 53 52,iG 54 53 false (.mv (.t 3)),iG 55 53 false (.mv (.t 6)),iG 56 53 false (.bin .mul (.t 54) (.t 55)),iG 57 53 false (.bin .gtr (.t 56) (.c (.d (.int 4096)))),iI 58 (.pick (.t 53) (.c (.d (.bool true))) (.t 57))]) (
 .cond (.t 58) (
 .seq (
 .reg [iI 2 (.mv (.c (.d (.int (-1)))))]) (
 .ret)) (
 .skip))) (
 .reg [iM 59 3,iM 60 6,iI 61 (.bin .mul (.t 59) (.t 60)),iM 3 61])))))) (
 .reg [iI 62 (.bin .add (.t 23) (.c (.d (.int 1)))),iM 23 62])))
def C_impl_TensorSize:Fun:=⟨1,64,
 .seq (
 .reg [iI 1 (.box (.t 0)),iI 2 (.mv (.c (.d (.int 0))))]) (
 .seq (
 .seq (
 .reg [iI 7 (.fld 0 (.t 1)),iI 8 (.ld (.t 7)),iI 9 (.len (.t 8)),iI 10 (.bin .gtr (.t 9) (.c (.d (.int 12)))),iM 11 10,iG 12 11 false (.fld 0 (.t 1)),iG 13 11 false (.ld (.t 12)),iG 14 11 false (.len (.t 13)),iG 15 11 false (.fld 1 (.t 1)),iG 16 11 false (.ld (.t 15)),iG 17 11 false (.len (.t 16)),iG 18 11 false (.bin .neq (.t 14) (.t 17)),iI 19 (.pick (.t 11) (.c (.d (.bool true))) (.t 18))]) (
 .cond (.t 19) (
 .seq (
 .reg [iI 2 (.mv (.c (.d (.int (-1)))))]) (
 .ret)) (
 .skip))) (
 .seq (
 .reg [iI 3 (.mv (.c (.d (.int 1))))]) (
 .seq (
 .seq (
 .reg [iI 20 (.fld 0 (.t 1)),iI 21 (.ld (.t 20)),iI 22 (.len (.t 21)),iI 23 (.mv (.c (.d (.int 0))))]) (
 .block 0 (
 .loop L0_impl_TensorSize))) (
 .seq (
 .reg [iM 63 3,iM 2 63]) (
 .ret))))),
 [.t 2]⟩
theorem mD:cFun Tryz.prog Tryz.f70=some C_impl_TensorSize.erase:=by kernel_rfl
def L0_spec_TensorOk:C:=
 .seq (
 .reg [iI 31 (.bin .lss (.t 30) (.t 29))]) (
 .seq (
 .cond (.t 31) (
 .skip) (
 .exit 0)) (
 .seq (
 .block 1 (
 .seq (
 .reg [iI 32 (.idx 1 (.t 28) (.t 30)),iI 33 (.ld (.t 32)),iM 7 33]) (
 .seq (
 .reg [iM 34 7,iI 35 (.ldn 3 (.t 2)),iI 36 (.call 112 [(.t 35)]),iI 37 (.call 120 [(.t 34),(.c (.d (.int 0))),(.t 36)]),iI 38 (.not (.t 37))]) (
 .cond (.t 38) (
 .seq (
 .reg [iI 4 (.mv (.c (.d (.bool false))))]) (
 .ret)) (
 .skip))))) (
 .reg [iI 39 (.bin .add (.t 30) (.c (.d (.int 1)))),iM 30 39])))
def C_spec_TensorOk:Fun:=⟨2,40,
 .seq (
 .reg [iI 2 (.box (.t 0)),iI 3 (.box (.t 1)),iI 4 (.mv (.c (.d (.bool false))))]) (
 .seq (
 .reg [iI 8 (.ldn 3 (.t 3)),iI 9 (.call 117 [(.t 8)]),iM 5 9]) (
 .seq (
 .seq (
 .draw [iI 10 (.ldn 3 (.t 2)),iI 11 (.call 115 [(.t 10)]),iI 12 (.not (.t 11)),iM 13 12,iG 14 13 false (.mv (.t 5)),iG 15 13 false (.bin .lss (.t 14) (.c (.d (.int 0)))),iI 16 (.pick (.t 13) (.c (.d (.bool true))) (.t 15)),iM 17 16,iG 18 17 false (.fld 2 (.t 3)),iG 19 17 false (.ld (.t 18)),iG 20 17 false (.len (.t 19)),iG 21 17 false (.mv (.t 5)),iG 22 17 false (.ldn 3 (.t 2)),iG 23 17 false (.call 110 [(.t 22)]),iG 24 17 false (.bin .mul (.t 21) (.t 23))]
 [iG 25 17 false (.bin .neq (.t 20) (.t 24)),iI 26 (.pick (.t 17) (.c (.d (.bool true))) (.t 25))]) (
 .cond (.t 26) (
 .seq (
 .reg [iI 4 (.mv (.c (.d (.bool false))))]) (
 .ret)) (
 .skip))) (
 .seq (
 .seq (
 .reg [iI 27 (.fld 2 (.t 3)),iI 28 (.ld (.t 27)),iI 29 (.len (.t 28)),iI 30 (.mv (.c (.d (.int 0))))]) (
 .block 0 (
 .loop L0_spec_TensorOk))) (
 .seq (
 .reg [iI 4 (.mv (.c (.d (.bool true))))]) (
 .ret))))),
 [.t 4]⟩
theorem p9:cFun Tryz.prog Tryz.f116=some C_spec_TensorOk.erase:=by kernel_rfl
def C_impl_TensorOk:Fun:=⟨2,29,
 .seq (
 .reg [iI 2 (.box (.t 0)),iI 3 (.box (.t 1)),iI 4 (.mv (.c (.d (.bool false))))]) (
 .seq (
 .seq (
 .reg [iI 6 (.ldn 3 (.t 2)),iI 7 (.call 67 [(.t 6)]),iI 8 (.not (.t 7))]) (
 .cond (.t 8) (
 .seq (
 .reg [iI 4 (.mv (.c (.d (.bool false))))]) (
 .ret)) (
 .skip))) (
 .seq (
 .reg [iI 9 (.ldn 3 (.t 3)),iI 10 (.call 70 [(.t 9)]),iM 5 10]) (
 .seq (
 .draw [iM 11 5,iI 12 (.bin .neq (.t 11) (.c (.d (.int (-1))))),iM 13 12,iG 14 13 true (.fld 2 (.t 3)),iG 15 13 true (.ld (.t 14)),iG 16 13 true (.len (.t 15)),iG 17 13 true (.mv (.t 5)),iG 18 13 true (.ldn 3 (.t 2)),iG 19 13 true (.call 73 [(.t 18)]),iG 20 13 true (.bin .mul (.t 17) (.t 19)),iG 21 13 true (.bin .eql (.t 16) (.t 20)),iI 22 (.pick (.t 13) (.t 21) (.c (.d (.bool false)))),iM 23 22,iG 24 23 true (.ldn 3 (.t 2)),iG 25 23 true (.fld 2 (.t 3)),iG 26 23 true (.ld (.t 25))]
 [iG 27 23 true (.call 108 [(.t 24),(.t 26)]),iI 28 (.pick (.t 23) (.t 27) (.c (.d (.bool false)))),iM 4 28]) (
 .ret)))),
 [.t 4]⟩
theorem pg:cFun Tryz.prog Tryz.f68=some C_impl_TensorOk.erase:=by kernel_rfl
def C_impl_PermuteTensor:Fun:=⟨3,24,
 .seq (
 .reg [iI 3 (.box (.t 0)),iI 4 (.box (.t 1)),iI 6 (.zer [.nil,.nil,.nil]),iI 7 (.mv (.c (.d (.bool false))))]) (
 .seq (
 .seq (
 .reg [iI 8 (.ldn 3 (.t 3)),iI 9 (.ldn 3 (.t 4)),iI 10 (.call 68 [(.t 8),(.t 9)]),iI 11 (.not (.t 10)),iM 12 11,iG 13 12 false (.fld 0 (.t 4)),iG 14 12 false (.ld (.t 13)),iG 15 12 false (.mv (.t 2)),iG 16 12 false (.call 92 [(.t 14),(.t 15)]),iG 17 12 false (.not (.t 16)),iI 18 (.pick (.t 12) (.c (.d (.bool true))) (.t 17))]) (
 .cond (.t 18) (
 .seq (
 .reg [iI 19 (.agg [.nil,.nil,.nil] []),
 ⟨none,none,.st 3 (.t 6) (.t 19)⟩,iI 7 (.mv (.c (.d (.bool false))))]) (
 .ret)) (
 .skip))) (
 .seq (
 .reg [iI 20 (.ldn 3 (.t 3)),iI 21 (.ldn 3 (.t 4)),iM 22 2,iI 23 (.call 93 [(.t 20),(.t 21),(.t 22)]),
 ⟨none,none,.st 3 (.t 6) (.t 23)⟩,iI 7 (.mv (.c (.d (.bool true))))]) (
 .ret))),
 [.cell 6 3,.t 7]⟩
theorem ke:cFun Tryz.prog Tryz.f39=some C_impl_PermuteTensor.erase:=by kernel_rfl
def L0_spec_l05Axes:C:=
 .seq (
 .reg [iI 20 (.bin .lss (.t 19) (.t 18))]) (
 .seq (
 .cond (.t 20) (
 .skip) (
 .exit 0)) (
 .seq (
 .block 1 (
 .seq (
 .reg [iM 21 19,iI 22 (.idx 1 (.t 17) (.t 19)),iI 23 (.ld (.t 22)),iM 5 21,iM 6 23]) (
 .seq (
 .reg [iM 24 6,iI 25 (.call 120 [(.t 24),(.c (.d (.int 0))),(.c (.d (.int 99)))]),iI 26 (.not (.t 25)),iM 27 26,iG 28 27 false (.mv (.t 1)),iG 29 27 false (.mv (.t 5)),iG 30 27 false (.idx 1 (.t 28) (.t 29)),iG 31 27 false (.ld (.t 30)),iG 32 27 false (.call 120 [(.t 31),(.c (.d (.int 1))),(.c (.d (.int 8)))]),iG 33 27 false (.not (.t 32)),iI 34 (.pick (.t 27) (.c (.d (.bool true))) (.t 33)),iM 35 34,iG 36 35 false (.mv (.t 0)),iG 37 35 false (.mv (.t 5)),iG 38 35 false (.slc 1 (.t 36) none (some (.t 37))),iG 39 35 false (.mv (.t 6)),iG 40 35 false (.call 80 [(.t 38),(.t 39)]),iG 41 35 false (.bin .geq (.t 40) (.c (.d (.int 0)))),iI 42 (.pick (.t 35) (.c (.d (.bool true))) (.t 41))]) (
 .cond (.t 42) (
 .seq (
 .reg [iI 4 (.mv (.c (.d (.bool false))))]) (
 .ret)) (
 .skip))))) (
 .reg [iI 43 (.bin .add (.t 19) (.c (.d (.int 1)))),iM 19 43])))
def C_spec_l05Axes:Fun:=⟨2,44,
 .seq (
 .reg [iI 4 (.mv (.c (.d (.bool false))))]) (
 .seq (
 .seq (
 .reg [iM 7 0,iI 8 (.len (.t 7)),iI 9 (.bin .gtr (.t 8) (.c (.d (.int 12)))),iM 10 9,iG 11 10 false (.mv (.t 0)),iG 12 10 false (.len (.t 11)),iG 13 10 false (.mv (.t 1)),iG 14 10 false (.len (.t 13)),iG 15 10 false (.bin .neq (.t 12) (.t 14)),iI 16 (.pick (.t 10) (.c (.d (.bool true))) (.t 15))]) (
 .cond (.t 16) (
 .seq (
 .reg [iI 4 (.mv (.c (.d (.bool false))))]) (
 .ret)) (
 .skip))) (
 .seq (
 .seq (
 .reg [iM 17 0,iI 18 (.len (.t 17)),iI 19 (.mv (.c (.d (.int 0))))]) (
 .block 0 (
 .loop L0_spec_l05Axes))) (
 .seq (
 .reg [iI 4 (.mv (.c (.d (.bool true))))]) (
 .ret)))),
 [.t 4]⟩
theorem qO:cFun Tryz.prog Tryz.f121=some C_spec_l05Axes.erase:=by kernel_rfl
def L0_spec_l05Product:C:=
 .seq (
 .reg [iI 11 (.bin .lss (.t 10) (.t 9))]) (
 .seq (
 .cond (.t 11) (
 .skip) (
 .exit 0)) (
 .seq (
 .block 1 (
 .seq (
 .reg [iI 12 (.idx 1 (.t 8) (.t 10)),iI 13 (.ld (.t 12)),iM 7 13]) (
 .reg [iM 14 5,iM 15 7,iI 16 (.bin .mul (.t 14) (.t 15)),iM 17 1,iI 18 (.bin .add (.t 17) (.c (.d (.int 1)))),iI 19 (.mnx false (.t 16) (.t 18)),iM 5 19]))) (
 .reg [iI 20 (.bin .add (.t 10) (.c (.d (.int 1)))),iM 10 20])))
def C_spec_l05Product:Fun:=⟨2,22,
 .seq (
 .reg [iI 4 (.mv (.c (.d (.int 0))))]) (
 .seq (
 .reg [iI 5 (.mv (.c (.d (.int 1))))]) (
 .seq (
 .seq (
 .reg [iM 8 0,iI 9 (.len (.t 8)),iI 10 (.mv (.c (.d (.int 0))))]) (
 .block 0 (
 .loop L0_spec_l05Product))) (
 .seq (
 .reg [iM 21 5,iM 4 21]) (
 .ret)))),
 [.t 4]⟩
theorem mt:cFun Tryz.prog Tryz.f77=some C_spec_l05Product.erase:=by kernel_rfl
def L0_impl_hasInt:C:=
 .seq (
 .reg [iI 10 (.bin .lss (.t 9) (.t 8))]) (
 .seq (
 .cond (.t 10) (
 .skip) (
 .exit 0)) (
 .seq (
 .block 1 (
 .seq (
 .reg [iI 11 (.idx 1 (.t 7) (.t 9)),iI 12 (.ld (.t 11)),iM 6 12]) (
 .seq (
 .reg [iM 13 1,iM 14 6,iI 15 (.bin .eql (.t 13) (.t 14))]) (
 .cond (.t 15) (
 .seq (
 .reg [iI 4 (.mv (.c (.d (.bool true))))]) (
 .ret)) (
 .skip))))) (
 .reg [iI 16 (.bin .add (.t 9) (.c (.d (.int 1)))),iM 9 16])))
def C_impl_hasInt:Fun:=⟨2,17,
 .seq (
 .reg [iI 4 (.mv (.c (.d (.bool false))))]) (
 .seq (
 .seq (
 .reg [iM 7 0,iI 8 (.len (.t 7)),iI 9 (.mv (.c (.d (.int 0))))]) (
 .block 0 (
 .loop L0_impl_hasInt))) (
 .seq (
 .reg [iI 4 (.mv (.c (.d (.bool false))))]) (
 .ret))),
 [.t 4]⟩
theorem s8:cFun Tryz.prog Tryz.f75=some C_impl_hasInt.erase:=by kernel_rfl
def C_spec_l01In:Fun:=⟨3,15,
 .seq (
 .reg [iI 6 (.mv (.c (.d (.bool false))))]) (
 .seq (
 .reg [iM 7 0,iM 8 1,iI 9 (.bin .geq (.t 7) (.t 8)),iM 10 9,iG 11 10 true (.mv (.t 0)),iG 12 10 true (.mv (.t 2)),iG 13 10 true (.bin .leq (.t 11) (.t 12)),iI 14 (.pick (.t 10) (.t 13) (.c (.d (.bool false)))),iM 6 14]) (
 .ret)),
 [.t 6]⟩
theorem uu:cFun Tryz.prog Tryz.f120=some C_spec_l01In.erase:=by kernel_rfl
def L0_spec_l05Index:C:=
 .seq (
 .seq (
 .reg [iM 13 6,iI 14 (.bin .geq (.t 13) (.c (.d (.int 0))))]) (
 .cond (.t 14) (
 .skip) (
 .exit 0))) (
 .seq (
 .block 1 (
 .seq (
 .reg [iM 17 5,iM 18 6,iM 19 1,iM 20 0,iM 21 6,iI 22 (.idx 1 (.t 20) (.t 21)),iI 23 (.ld (.t 22)),iI 24 (.bin .rem (.t 19) (.t 23)),iI 25 (.idx 1 (.t 17) (.t 18)),
 ⟨none,none,.st 1 (.t 25) (.t 24)⟩]) (
 .reg [iM 26 1,iM 27 0,iM 28 6,iI 29 (.idx 1 (.t 27) (.t 28)),iI 30 (.ld (.t 29)),iI 31 (.bin .quo (.t 26) (.t 30)),iM 1 31]))) (
 .reg [iM 15 6,iI 16 (.bin .sub (.t 15) (.c (.d (.int 1)))),iM 6 16]))
def C_spec_l05Index:Fun:=⟨2,33,
 .seq (
 .reg [iI 4 (.mv (.c (.nil)))]) (
 .seq (
 .reg [iM 7 0,iI 8 (.len (.t 7)),iI 9 (.make 1 8 [.d (.int 0)] (.t 8) (.t 8)),iM 5 9]) (
 .seq (
 .seq (
 .reg [iM 10 0,iI 11 (.len (.t 10)),iI 12 (.bin .sub (.t 11) (.c (.d (.int 1)))),iM 6 12]) (
 .block 0 (
 .loop L0_spec_l05Index))) (
 .seq (
 .reg [iM 32 5,iM 4 32]) (
 .ret)))),
 [.t 4]⟩
theorem p7:cFun Tryz.prog Tryz.f82=some C_spec_l05Index.erase:=by kernel_rfl
def L0_impl_joinAxes:C:=
 .seq (
 .reg [iI 24 (.bin .lss (.t 23) (.t 22))]) (
 .seq (
 .cond (.t 24) (
 .skip) (
 .exit 0)) (
 .seq (
 .block 1 (
 .seq (
 .reg [iM 25 23,iI 26 (.idx 1 (.t 21) (.t 23)),iI 27 (.ld (.t 26)),iM 9 25,iM 10 27]) (
 .seq (
 .draw [iI 28 (.ldn 3 (.t 2)),iM 29 10,iI 30 (.call 113 [(.t 28),(.t 29)]),iI 31 (.ldn 3 (.t 3)),iM 32 10]
 [iI 33 (.call 113 [(.t 31),(.t 32)]),iM 11 30,iM 12 33]) (
 .seq (
 .seq (
 .draw [iM 34 11,iI 35 (.bin .geq (.t 34) (.c (.d (.int 0)))),iM 36 35,iG 37 36 true (.mv (.t 12)),iG 38 36 true (.bin .geq (.t 37) (.c (.d (.int 0)))),iI 39 (.pick (.t 36) (.t 38) (.c (.d (.bool false)))),iM 40 39,iG 41 40 true (.fld 1 (.t 2)),iG 42 40 true (.ld (.t 41)),iG 43 40 true (.mv (.t 11)),iG 44 40 true (.idx 1 (.t 42) (.t 43)),iG 45 40 true (.ld (.t 44)),iG 46 40 true (.fld 1 (.t 3)),iG 47 40 true (.ld (.t 46)),iG 48 40 true (.mv (.t 12)),iG 49 40 true (.idx 1 (.t 47) (.t 48)),iG 50 40 true (.ld (.t 49))]
 [iG 51 40 true (.bin .neq (.t 45) (.t 50)),iI 52 (.pick (.t 40) (.t 51) (.c (.d (.bool false))))]) (
 .cond (.t 52) (
 .seq (
 .reg [iI 4 (.mv (.c (.nil))),iI 5 (.mv (.c (.nil))),iI 6 (.mv (.c (.d (.bool false))))]) (
 .ret)) (
 .skip))) (
 .seq (
 .reg [iM 53 11,iI 54 (.bin .geq (.t 53) (.c (.d (.int 0))))]) (
 .cond (.t 54) (
 .reg [iM 55 8,iM 56 9,iI 57 (.fld 1 (.t 2)),iI 58 (.ld (.t 57)),iM 59 11,iI 60 (.idx 1 (.t 58) (.t 59)),iI 61 (.ld (.t 60)),iI 62 (.idx 1 (.t 55) (.t 56)),
 ⟨none,none,.st 1 (.t 62) (.t 61)⟩]) (
 .reg [iM 63 8,iM 64 9,iI 65 (.fld 1 (.t 3)),iI 66 (.ld (.t 65)),iM 67 12,iI 68 (.idx 1 (.t 66) (.t 67)),iI 69 (.ld (.t 68)),iI 70 (.idx 1 (.t 63) (.t 64)),
 ⟨none,none,.st 1 (.t 70) (.t 69)⟩]))))))) (
 .reg [iI 71 (.bin .add (.t 23) (.c (.d (.int 1)))),iM 23 71])))
def C_impl_joinAxes:Fun:=⟨2,74,
 .seq (
 .reg [iI 2 (.box (.t 0)),iI 3 (.box (.t 1)),iI 4 (.mv (.c (.nil))),iI 5 (.mv (.c (.nil))),iI 6 (.mv (.c (.d (.bool false))))]) (
 .seq (
 .reg [iI 13 (.fld 0 (.t 2)),iI 14 (.ld (.t 13)),iI 15 (.fld 0 (.t 3)),iI 16 (.ld (.t 15)),iI 17 (.call 33 [(.t 14),(.t 16)]),iM 7 17]) (
 .seq (
 .reg [iM 18 7,iI 19 (.len (.t 18)),iI 20 (.make 1 8 [.d (.int 0)] (.t 19) (.t 19)),iM 8 20]) (
 .seq (
 .seq (
 .reg [iM 21 7,iI 22 (.len (.t 21)),iI 23 (.mv (.c (.d (.int 0))))]) (
 .block 0 (
 .loop L0_impl_joinAxes))) (
 .seq (
 .reg [iM 72 7,iM 73 8,iM 4 72,iM 5 73,iI 6 (.mv (.c (.d (.bool true))))]) (
 .ret))))),
 [.t 4,.t 5,.t 6]⟩
theorem jA:cFun Tryz.prog Tryz.f85=some C_impl_joinAxes.erase:=by kernel_rfl
def L0_impl_productOf:C:=
 .seq (
 .reg [iI 9 (.bin .lss (.t 8) (.t 7))]) (
 .seq (
 .cond (.t 9) (
 .skip) (
 .exit 0)) (
 .seq (
 .block 1 (
 .seq (
 .reg [iI 10 (.idx 1 (.t 6) (.t 8)),iI 11 (.ld (.t 10)),iM 5 11]) (
 .reg [iM 12 3,iM 13 5,iI 14 (.bin .mul (.t 12) (.t 13)),iM 3 14]))) (
 .reg [iI 15 (.bin .add (.t 8) (.c (.d (.int 1)))),iM 8 15])))
def C_impl_productOf:Fun:=⟨1,17,
 .seq (
 .reg [iI 2 (.mv (.c (.d (.int 0))))]) (
 .seq (
 .reg [iI 3 (.mv (.c (.d (.int 1))))]) (
 .seq (
 .seq (
 .reg [iM 6 0,iI 7 (.len (.t 6)),iI 8 (.mv (.c (.d (.int 0))))]) (
 .block 0 (
 .loop L0_impl_productOf))) (
 .seq (
 .reg [iM 16 3,iM 2 16]) (
 .ret)))),
 [.t 2]⟩
theorem nN:cFun Tryz.prog Tryz.f42=some C_impl_productOf.erase:=by kernel_rfl
def C_spec_RingOk:Fun:=⟨1,72,
 .seq (
 .reg [iI 1 (.box (.t 0)),iI 2 (.mv (.c (.d (.bool false))))]) (
 .seq (
 .seq (
 .reg [iI 3 (.fld 0 (.t 1)),iI 4 (.ld (.t 3))]) (
 .block 0 (
 .seq (
 .reg [iI 6 (.bin .eql (.t 4) (.c (.d (.int 1)))),iM 5 6]) (
 .cond (.t 5) (
 .seq (
 .reg [iI 7 (.fld 1 (.t 1)),iI 8 (.ld (.t 7)),iI 9 (.bin .eql (.t 8) (.c (.d (.int 0)))),iM 10 9,iG 11 10 true (.fld 2 (.t 1)),iG 12 10 true (.ld (.t 11)),iG 13 10 true (.bin .eql (.t 12) (.c (.d (.int 0)))),iI 14 (.pick (.t 10) (.t 13) (.c (.d (.bool false)))),iM 2 14]) (
 .ret)) (
 .seq (
 .reg [iI 16 (.bin .eql (.t 4) (.c (.d (.int 2)))),iM 15 16]) (
 .cond (.t 15) (
 .seq (
 .reg [iI 17 (.fld 1 (.t 1)),iI 18 (.ld (.t 17)),iI 19 (.call 119 [(.t 18)]),iM 20 19,iG 21 20 true (.fld 2 (.t 1)),iG 22 20 true (.ld (.t 21)),iG 23 20 true (.bin .eql (.t 22) (.c (.d (.int 0)))),iI 24 (.pick (.t 20) (.t 23) (.c (.d (.bool false)))),iM 2 24]) (
 .ret)) (
 .seq (
 .seq (
 .reg [iI 26 (.bin .eql (.t 4) (.c (.d (.int 3)))),iM 25 26]) (
 .cond (.t 25) (
 .skip) (
 .seq (
 .reg [iI 27 (.bin .eql (.t 4) (.c (.d (.int 4)))),iM 25 27]) (
 .cond (.t 25) (
 .skip) (
 .reg [iI 28 (.bin .eql (.t 4) (.c (.d (.int 5)))),iM 25 28]))))) (
 .cond (.t 25) (
 .seq (
 .reg [iI 29 (.fld 1 (.t 1)),iI 30 (.ld (.t 29)),iI 31 (.call 120 [(.t 30),(.c (.d (.int 1))),(.c (.d (.int 1000000)))]),iM 32 31,iG 33 32 true (.fld 2 (.t 1)),iG 34 32 true (.ld (.t 33)),iG 35 32 true (.bin .eql (.t 34) (.c (.d (.int 0)))),iI 36 (.pick (.t 32) (.t 35) (.c (.d (.bool false)))),iM 2 36]) (
 .ret)) (
 .seq (
 .reg [iI 38 (.bin .eql (.t 4) (.c (.d (.int 6)))),iM 37 38]) (
 .cond (.t 37) (
 .seq (
 .reg [iI 39 (.fld 1 (.t 1)),iI 40 (.ld (.t 39)),iI 41 (.bin .eql (.t 40) (.c (.d (.int 0)))),iM 42 41,iG 43 42 true (.fld 2 (.t 1)),iG 44 42 true (.ld (.t 43)),iG 45 42 true (.call 120 [(.t 44),(.c (.d (.int 1))),(.c (.d (.int 20)))]),iI 46 (.pick (.t 42) (.t 45) (.c (.d (.bool false)))),iM 2 46]) (
 .ret)) (
 .seq (
 .reg [iI 48 (.bin .eql (.t 4) (.c (.d (.int 7)))),iM 47 48]) (
 .cond (.t 47) (
 .seq (
 .reg [iI 49 (.fld 1 (.t 1)),iI 50 (.ld (.t 49)),iI 51 (.call 119 [(.t 50)]),iM 52 51,iG 53 52 true (.fld 2 (.t 1)),iG 54 52 true (.ld (.t 53)),iG 55 52 true (.call 120 [(.t 54),(.c (.d (.int 1))),(.c (.d (.int 6)))]),iI 56 (.pick (.t 52) (.t 55) (.c (.d (.bool false)))),iM 2 56]) (
 .ret)) (
 .seq (
 .reg [iI 58 (.bin .eql (.t 4) (.c (.d (.int 8)))),iM 57 58]) (
 .cond (.t 57) (
 .seq (
 .reg [iI 59 (.fld 1 (.t 1)),iI 60 (.ld (.t 59)),iI 61 (.call 119 [(.t 60)]),iM 62 61,iG 63 62 true (.fld 1 (.t 1)),iG 64 62 true (.ld (.t 63)),iG 65 62 true (.bin .gtr (.t 64) (.c (.d (.int 2)))),iI 66 (.pick (.t 62) (.t 65) (.c (.d (.bool false)))),iM 67 66,iG 68 67 true (.fld 2 (.t 1)),iG 69 67 true (.ld (.t 68)),iG 70 67 true (.bin .eql (.t 69) (.c (.d (.int 0)))),iI 71 (.pick (.t 67) (.t 70) (.c (.d (.bool false)))),iM 2 71]) (
 .ret)) (
 .skip))))))))))))))) (
 .seq (
 .reg [iI 2 (.mv (.c (.d (.bool false))))]) (
 .ret))),
 [.t 2]⟩
theorem rV:cFun Tryz.prog Tryz.f115=some C_spec_RingOk.erase:=by kernel_rfl
def C_spec_l02Width:Fun:=⟨1,11,
 .seq (
 .reg [iI 1 (.box (.t 0)),iI 2 (.mv (.c (.d (.int 0))))]) (
 .seq (
 .seq (
 .reg [iI 3 (.fld 0 (.t 1)),iI 4 (.ld (.t 3))]) (
 .block 0 (
 .seq (
 .reg [iI 6 (.bin .eql (.t 4) (.c (.d (.int 7)))),iM 5 6]) (
 .cond (.t 5) (
 .seq (
 .reg [iI 7 (.fld 2 (.t 1)),iI 8 (.ld (.t 7)),iM 2 8]) (
 .ret)) (
 .seq (
 .reg [iI 10 (.bin .eql (.t 4) (.c (.d (.int 8)))),iM 9 10]) (
 .cond (.t 9) (
 .seq (
 .reg [iI 2 (.mv (.c (.d (.int 4))))]) (
 .ret)) (
 .skip))))))) (
 .seq (
 .reg [iI 2 (.mv (.c (.d (.int 1))))]) (
 .ret))),
 [.t 2]⟩
theorem p8:cFun Tryz.prog Tryz.f110=some C_spec_l02Width.erase:=by kernel_rfl
def C_spec_l02Top:Fun:=⟨1,22,
 .seq (
 .reg [iI 1 (.box (.t 0)),iI 2 (.mv (.c (.d (.int 0))))]) (
 .seq (
 .seq (
 .reg [iI 3 (.fld 0 (.t 1)),iI 4 (.ld (.t 3))]) (
 .block 0 (
 .seq (
 .reg [iI 6 (.bin .eql (.t 4) (.c (.d (.int 1)))),iM 5 6]) (
 .cond (.t 5) (
 .seq (
 .reg [iI 2 (.mv (.c (.d (.int 1))))]) (
 .ret)) (
 .seq (
 .seq (
 .reg [iI 8 (.bin .eql (.t 4) (.c (.d (.int 3)))),iM 7 8]) (
 .cond (.t 7) (
 .skip) (
 .seq (
 .reg [iI 9 (.bin .eql (.t 4) (.c (.d (.int 4)))),iM 7 9]) (
 .cond (.t 7) (
 .skip) (
 .reg [iI 10 (.bin .eql (.t 4) (.c (.d (.int 5)))),iM 7 10]))))) (
 .cond (.t 7) (
 .seq (
 .reg [iI 11 (.fld 1 (.t 1)),iI 12 (.ld (.t 11)),iM 2 12]) (
 .ret)) (
 .seq (
 .reg [iI 14 (.bin .eql (.t 4) (.c (.d (.int 6)))),iM 13 14]) (
 .cond (.t 13) (
 .seq (
 .reg [iI 15 (.fld 2 (.t 1)),iI 16 (.ld (.t 15)),iI 17 (.bin .shl (.c (.d (.int 1))) (.t 16)),iI 18 (.bin .sub (.t 17) (.c (.d (.int 1)))),iM 2 18]) (
 .ret)) (
 .skip))))))))) (
 .seq (
 .reg [iI 19 (.fld 1 (.t 1)),iI 20 (.ld (.t 19)),iI 21 (.bin .sub (.t 20) (.c (.d (.int 1)))),iM 2 21]) (
 .ret))),
 [.t 2]⟩
theorem rQ:cFun Tryz.prog Tryz.f112=some C_spec_l02Top.erase:=by kernel_rfl
def C_impl_RingOk:Fun:=⟨1,87,
 .seq (
 .reg [iI 1 (.box (.t 0)),iI 2 (.mv (.c (.d (.bool false))))]) (
 .seq (
 .seq (
 .reg [iI 3 (.fld 0 (.t 1)),iI 4 (.ld (.t 3))]) (
 .block 0 (
 .seq (
 .reg [iI 6 (.bin .eql (.t 4) (.c (.d (.int 1)))),iM 5 6]) (
 .cond (.t 5) (
 .seq (
 .reg [iI 7 (.fld 1 (.t 1)),iI 8 (.ld (.t 7)),iI 9 (.bin .eql (.t 8) (.c (.d (.int 0)))),iM 10 9,iG 11 10 true (.fld 2 (.t 1)),iG 12 10 true (.ld (.t 11)),iG 13 10 true (.bin .eql (.t 12) (.c (.d (.int 0)))),iI 14 (.pick (.t 10) (.t 13) (.c (.d (.bool false)))),iM 2 14]) (
 .ret)) (
 .seq (
 .reg [iI 16 (.bin .eql (.t 4) (.c (.d (.int 2)))),iM 15 16]) (
 .cond (.t 15) (
 .seq (
 .reg [iI 17 (.fld 1 (.t 1)),iI 18 (.ld (.t 17)),iI 19 (.call 107 [(.t 18)]),iM 20 19,iG 21 20 true (.fld 2 (.t 1)),iG 22 20 true (.ld (.t 21)),iG 23 20 true (.bin .eql (.t 22) (.c (.d (.int 0)))),iI 24 (.pick (.t 20) (.t 23) (.c (.d (.bool false)))),iM 2 24]) (
 .ret)) (
 .seq (
 .seq (
 .reg [iI 26 (.bin .eql (.t 4) (.c (.d (.int 3)))),iM 25 26]) (
 .cond (.t 25) (
 .skip) (
 .seq (
 .reg [iI 27 (.bin .eql (.t 4) (.c (.d (.int 4)))),iM 25 27]) (
 .cond (.t 25) (
 .skip) (
 .reg [iI 28 (.bin .eql (.t 4) (.c (.d (.int 5)))),iM 25 28]))))) (
 .cond (.t 25) (
 .seq (
 .reg [iI 29 (.fld 1 (.t 1)),iI 30 (.ld (.t 29)),iI 31 (.bin .geq (.t 30) (.c (.d (.int 1)))),iM 32 31,iG 33 32 true (.fld 1 (.t 1)),iG 34 32 true (.ld (.t 33)),iG 35 32 true (.bin .leq (.t 34) (.c (.d (.int 1000000)))),iI 36 (.pick (.t 32) (.t 35) (.c (.d (.bool false)))),iM 37 36,iG 38 37 true (.fld 2 (.t 1)),iG 39 37 true (.ld (.t 38)),iG 40 37 true (.bin .eql (.t 39) (.c (.d (.int 0)))),iI 41 (.pick (.t 37) (.t 40) (.c (.d (.bool false)))),iM 2 41]) (
 .ret)) (
 .seq (
 .reg [iI 43 (.bin .eql (.t 4) (.c (.d (.int 6)))),iM 42 43]) (
 .cond (.t 42) (
 .seq (
 .reg [iI 44 (.fld 1 (.t 1)),iI 45 (.ld (.t 44)),iI 46 (.bin .eql (.t 45) (.c (.d (.int 0)))),iM 47 46,iG 48 47 true (.fld 2 (.t 1)),iG 49 47 true (.ld (.t 48)),iG 50 47 true (.bin .geq (.t 49) (.c (.d (.int 1)))),iI 51 (.pick (.t 47) (.t 50) (.c (.d (.bool false)))),iM 52 51,iG 53 52 true (.fld 2 (.t 1)),iG 54 52 true (.ld (.t 53)),iG 55 52 true (.bin .leq (.t 54) (.c (.d (.int 20)))),iI 56 (.pick (.t 52) (.t 55) (.c (.d (.bool false)))),iM 2 56]) (
 .ret)) (
 .seq (
 .reg [iI 58 (.bin .eql (.t 4) (.c (.d (.int 7)))),iM 57 58]) (
 .cond (.t 57) (
 .seq (
 .reg [iI 59 (.fld 1 (.t 1)),iI 60 (.ld (.t 59)),iI 61 (.call 107 [(.t 60)]),iM 62 61,iG 63 62 true (.fld 2 (.t 1)),iG 64 62 true (.ld (.t 63)),iG 65 62 true (.bin .geq (.t 64) (.c (.d (.int 1)))),iI 66 (.pick (.t 62) (.t 65) (.c (.d (.bool false)))),iM 67 66,iG 68 67 true (.fld 2 (.t 1)),iG 69 67 true (.ld (.t 68)),iG 70 67 true (.bin .leq (.t 69) (.c (.d (.int 6)))),iI 71 (.pick (.t 67) (.t 70) (.c (.d (.bool false)))),iM 2 71]) (
 .ret)) (
 .seq (
 .reg [iI 73 (.bin .eql (.t 4) (.c (.d (.int 8)))),iM 72 73]) (
 .cond (.t 72) (
 .seq (
 .reg [iI 74 (.fld 1 (.t 1)),iI 75 (.ld (.t 74)),iI 76 (.call 107 [(.t 75)]),iM 77 76,iG 78 77 true (.fld 1 (.t 1)),iG 79 77 true (.ld (.t 78)),iG 80 77 true (.bin .neq (.t 79) (.c (.d (.int 2)))),iI 81 (.pick (.t 77) (.t 80) (.c (.d (.bool false)))),iM 82 81,iG 83 82 true (.fld 2 (.t 1)),iG 84 82 true (.ld (.t 83)),iG 85 82 true (.bin .eql (.t 84) (.c (.d (.int 0)))),iI 86 (.pick (.t 82) (.t 85) (.c (.d (.bool false)))),iM 2 86]) (
 .ret)) (
 .skip))))))))))))))) (
 .seq (
 .reg [iI 2 (.mv (.c (.d (.bool false))))]) (
 .ret))),
 [.t 2]⟩
theorem se:cFun Tryz.prog Tryz.f67=some C_impl_RingOk.erase:=by kernel_rfl
def C_impl_rawWidth:Fun:=⟨1,11,
 .seq (
 .reg [iI 1 (.box (.t 0)),iI 2 (.mv (.c (.d (.int 0))))]) (
 .seq (
 .seq (
 .reg [iI 3 (.fld 0 (.t 1)),iI 4 (.ld (.t 3))]) (
 .block 0 (
 .seq (
 .reg [iI 6 (.bin .eql (.t 4) (.c (.d (.int 7)))),iM 5 6]) (
 .cond (.t 5) (
 .seq (
 .reg [iI 7 (.fld 2 (.t 1)),iI 8 (.ld (.t 7)),iM 2 8]) (
 .ret)) (
 .seq (
 .reg [iI 10 (.bin .eql (.t 4) (.c (.d (.int 8)))),iM 9 10]) (
 .cond (.t 9) (
 .seq (
 .reg [iI 2 (.mv (.c (.d (.int 4))))]) (
 .ret)) (
 .skip))))))) (
 .seq (
 .reg [iI 2 (.mv (.c (.d (.int 1))))]) (
 .ret))),
 [.t 2]⟩
theorem pd:cFun Tryz.prog Tryz.f73=some C_impl_rawWidth.erase:=by kernel_rfl
def L0_impl_inRing:C:=
 .seq (
 .reg [iI 13 (.bin .lss (.t 12) (.t 11))]) (
 .seq (
 .cond (.t 13) (
 .skip) (
 .exit 0)) (
 .seq (
 .block 1 (
 .seq (
 .reg [iI 14 (.idx 1 (.t 10) (.t 12)),iI 15 (.ld (.t 14)),iM 7 15]) (
 .seq (
 .reg [iM 16 7,iI 17 (.bin .lss (.t 16) (.c (.d (.int 0)))),iM 18 17,iG 19 18 false (.mv (.t 7)),iG 20 18 false (.mv (.t 5)),iG 21 18 false (.bin .gtr (.t 19) (.t 20)),iI 22 (.pick (.t 18) (.c (.d (.bool true))) (.t 21))]) (
 .cond (.t 22) (
 .seq (
 .reg [iI 4 (.mv (.c (.d (.bool false))))]) (
 .ret)) (
 .skip))))) (
 .reg [iI 23 (.bin .add (.t 12) (.c (.d (.int 1)))),iM 12 23])))
def C_impl_inRing:Fun:=⟨2,24,
 .seq (
 .reg [iI 2 (.box (.t 0)),iI 4 (.mv (.c (.d (.bool false))))]) (
 .seq (
 .reg [iI 8 (.ldn 3 (.t 2)),iI 9 (.call 74 [(.t 8)]),iM 5 9]) (
 .seq (
 .seq (
 .reg [iM 10 1,iI 11 (.len (.t 10)),iI 12 (.mv (.c (.d (.int 0))))]) (
 .block 0 (
 .loop L0_impl_inRing))) (
 .seq (
 .reg [iI 4 (.mv (.c (.d (.bool true))))]) (
 .ret)))),
 [.t 4]⟩
theorem s7:cFun Tryz.prog Tryz.f108=some C_impl_inRing.erase:=by kernel_rfl
def C_impl_copyTensor:Fun:=⟨1,13,
 .seq (
 .reg [iI 1 (.box (.t 0)),iI 2 (.zer [.nil,.nil,.nil])]) (
 .seq (
 .draw [iI 3 (.fld 0 (.t 1)),iI 4 (.ld (.t 3)),iI 5 (.call 72 [(.t 4)]),iI 6 (.fld 1 (.t 1)),iI 7 (.ld (.t 6)),iI 8 (.call 72 [(.t 7)]),iI 9 (.fld 2 (.t 1)),iI 10 (.ld (.t 9))]
 [iI 11 (.call 72 [(.t 10)]),iI 12 (.agg [.nil,.nil,.nil] [(0,1,(.t 5)),(1,1,(.t 8)),(2,1,(.t 11))]),
 ⟨none,none,.st 3 (.t 2) (.t 12)⟩]) (
 .ret)),
 [.cell 2 3]⟩
theorem mC:cFun Tryz.prog Tryz.f41=some C_impl_copyTensor.erase:=by kernel_rfl
def L0_spec_l05Put:C:=
 .seq (
 .reg [iI 15 (.bin .lss (.t 14) (.t 13))]) (
 .seq (
 .cond (.t 15) (
 .skip) (
 .exit 0)) (
 .seq (
 .block 1 (
 .seq (
 .reg [iM 16 14,iM 9 16]) (
 .draw [iI 17 (.fld 2 (.t 5)),iI 18 (.ld (.t 17)),iM 19 2,iM 20 8,iI 21 (.bin .mul (.t 19) (.t 20)),iM 22 9,iI 23 (.bin .add (.t 21) (.t 22)),iM 24 3,iM 25 9,iI 26 (.idx 1 (.t 24) (.t 25)),iI 27 (.ld (.t 26))]
 [iI 28 (.idx 1 (.t 18) (.t 23)),
 ⟨none,none,.st 1 (.t 28) (.t 27)⟩]))) (
 .reg [iI 29 (.bin .add (.t 14) (.c (.d (.int 1)))),iM 14 29])))
def C_spec_l05Put:Fun:=⟨4,30,
 .seq (
 .reg [iI 4 (.box (.t 0)),iI 5 (.box (.t 1))]) (
 .seq (
 .reg [iI 10 (.ldn 3 (.t 4)),iI 11 (.call 110 [(.t 10)]),iM 8 11]) (
 .seq (
 .reg [iM 12 3,iI 13 (.len (.t 12)),iI 14 (.mv (.c (.d (.int 0))))]) (
 .block 0 (
 .loop L0_spec_l05Put)))),
 []⟩
theorem rO:cFun Tryz.prog Tryz.f78=some C_spec_l05Put.erase:=by kernel_rfl
def L0_spec_l05Find:C:=
 .seq (
 .reg [iI 10 (.bin .lss (.t 9) (.t 8))]) (
 .seq (
 .cond (.t 10) (
 .skip) (
 .exit 0)) (
 .seq (
 .block 1 (
 .seq (
 .reg [iM 11 9,iI 12 (.idx 1 (.t 7) (.t 9)),iI 13 (.ld (.t 12)),iM 5 11,iM 6 13]) (
 .seq (
 .reg [iM 14 6,iM 15 1,iI 16 (.bin .eql (.t 14) (.t 15))]) (
 .cond (.t 16) (
 .seq (
 .reg [iM 17 5,iM 4 17]) (
 .ret)) (
 .skip))))) (
 .reg [iI 18 (.bin .add (.t 9) (.c (.d (.int 1)))),iM 9 18])))
def C_spec_l05Find:Fun:=⟨2,19,
 .seq (
 .reg [iI 4 (.mv (.c (.d (.int 0))))]) (
 .seq (
 .seq (
 .reg [iM 7 0,iI 8 (.len (.t 7)),iI 9 (.mv (.c (.d (.int 0))))]) (
 .block 0 (
 .loop L0_spec_l05Find))) (
 .seq (
 .reg [iI 4 (.mv (.c (.d (.int (-1)))))]) (
 .ret))),
 [.t 4]⟩
theorem qL:cFun Tryz.prog Tryz.f80=some C_spec_l05Find.erase:=by kernel_rfl
def L0_impl_axisOf:C:=
 .seq (
 .reg [iI 11 (.bin .lss (.t 10) (.t 9))]) (
 .seq (
 .cond (.t 11) (
 .skip) (
 .exit 0)) (
 .seq (
 .block 1 (
 .seq (
 .reg [iM 12 10,iI 13 (.idx 1 (.t 8) (.t 10)),iI 14 (.ld (.t 13)),iM 5 12,iM 6 14]) (
 .seq (
 .reg [iM 15 6,iM 16 1,iI 17 (.bin .eql (.t 15) (.t 16))]) (
 .cond (.t 17) (
 .seq (
 .reg [iM 18 5,iM 4 18]) (
 .ret)) (
 .skip))))) (
 .reg [iI 19 (.bin .add (.t 10) (.c (.d (.int 1)))),iM 10 19])))
def C_impl_axisOf:Fun:=⟨2,20,
 .seq (
 .reg [iI 2 (.box (.t 0)),iI 4 (.mv (.c (.d (.int 0))))]) (
 .seq (
 .seq (
 .reg [iI 7 (.fld 0 (.t 2)),iI 8 (.ld (.t 7)),iI 9 (.len (.t 8)),iI 10 (.mv (.c (.d (.int 0))))]) (
 .block 0 (
 .loop L0_impl_axisOf))) (
 .seq (
 .reg [iI 4 (.mv (.c (.d (.int (-1)))))]) (
 .ret))),
 [.t 4]⟩
theorem sa:cFun Tryz.prog Tryz.f113=some C_impl_axisOf.erase:=by kernel_rfl
def L0_impl_stridesOf:C:=
 .seq (
 .reg [iI 24 (.bin .lss (.t 23) (.t 22))]) (
 .seq (
 .cond (.t 24) (
 .skip) (
 .exit 2)) (
 .seq (
 .block 3 (
 .seq (
 .reg [iM 25 23,iI 26 (.idx 1 (.t 21) (.t 23)),iI 27 (.ld (.t 26)),iM 8 25,iM 9 27]) (
 .seq (
 .reg [iM 28 9,iI 29 (.fld 0 (.t 2)),iI 30 (.ld (.t 29)),iM 31 7,iI 32 (.idx 1 (.t 30) (.t 31)),iI 33 (.ld (.t 32)),iI 34 (.bin .eql (.t 28) (.t 33))]) (
 .cond (.t 34) (
 .reg [iM 35 5,iM 36 8,iM 37 6,iI 38 (.idx 1 (.t 35) (.t 36)),
 ⟨none,none,.st 1 (.t 38) (.t 37)⟩]) (
 .skip))))) (
 .reg [iI 39 (.bin .add (.t 23) (.c (.d (.int 1)))),iM 23 39])))
def L1_impl_stridesOf:C:=
 .seq (
 .seq (
 .reg [iM 17 7,iI 18 (.bin .geq (.t 17) (.c (.d (.int 0))))]) (
 .cond (.t 18) (
 .skip) (
 .exit 0))) (
 .seq (
 .block 1 (
 .seq (
 .seq (
 .reg [iM 21 1,iI 22 (.len (.t 21)),iI 23 (.mv (.c (.d (.int 0))))]) (
 .block 2 (
 .loop L0_impl_stridesOf))) (
 .reg [iM 40 6,iI 41 (.fld 1 (.t 2)),iI 42 (.ld (.t 41)),iM 43 7,iI 44 (.idx 1 (.t 42) (.t 43)),iI 45 (.ld (.t 44)),iI 46 (.bin .mul (.t 40) (.t 45)),iM 6 46]))) (
 .reg [iM 19 7,iI 20 (.bin .sub (.t 19) (.c (.d (.int 1)))),iM 7 20]))
def C_impl_stridesOf:Fun:=⟨2,48,
 .seq (
 .reg [iI 2 (.box (.t 0)),iI 4 (.mv (.c (.nil)))]) (
 .seq (
 .reg [iM 10 1,iI 11 (.len (.t 10)),iI 12 (.make 1 8 [.d (.int 0)] (.t 11) (.t 11)),iM 5 12]) (
 .seq (
 .reg [iI 6 (.mv (.c (.d (.int 1))))]) (
 .seq (
 .seq (
 .reg [iI 13 (.fld 1 (.t 2)),iI 14 (.ld (.t 13)),iI 15 (.len (.t 14)),iI 16 (.bin .sub (.t 15) (.c (.d (.int 1)))),iM 7 16]) (
 .block 0 (
 .loop L1_impl_stridesOf))) (
 .seq (
 .reg [iM 47 5,iM 4 47]) (
 .ret))))),
 [.t 4]⟩
theorem nK:cFun Tryz.prog Tryz.f88=some C_impl_stridesOf.erase:=by kernel_rfl
def L0_impl_dotOf:C:=
 .seq (
 .reg [iI 10 (.bin .lss (.t 9) (.t 8))]) (
 .seq (
 .cond (.t 10) (
 .skip) (
 .exit 0)) (
 .seq (
 .block 1 (
 .seq (
 .reg [iM 11 9,iM 6 11]) (
 .draw [iM 12 5,iM 13 0,iM 14 6,iI 15 (.idx 1 (.t 13) (.t 14)),iI 16 (.ld (.t 15)),iM 17 1,iM 18 6,iI 19 (.idx 1 (.t 17) (.t 18)),iI 20 (.ld (.t 19)),iI 21 (.bin .mul (.t 16) (.t 20))]
 [iI 22 (.bin .add (.t 12) (.t 21)),iM 5 22]))) (
 .reg [iI 23 (.bin .add (.t 9) (.c (.d (.int 1)))),iM 9 23])))
def C_impl_dotOf:Fun:=⟨2,25,
 .seq (
 .reg [iI 4 (.mv (.c (.d (.int 0))))]) (
 .seq (
 .reg [iI 5 (.mv (.c (.d (.int 0))))]) (
 .seq (
 .seq (
 .reg [iM 7 0,iI 8 (.len (.t 7)),iI 9 (.mv (.c (.d (.int 0))))]) (
 .block 0 (
 .loop L0_impl_dotOf))) (
 .seq (
 .reg [iM 24 5,iM 4 24]) (
 .ret)))),
 [.t 4]⟩
theorem ux:cFun Tryz.prog Tryz.f90=some C_impl_dotOf.erase:=by kernel_rfl
def L0_impl_nextIndex:C:=
 .seq (
 .seq (
 .reg [iM 9 5,iI 10 (.bin .geq (.t 9) (.c (.d (.int 0))))]) (
 .cond (.t 10) (
 .skip) (
 .exit 0))) (
 .seq (
 .block 1 (
 .seq (
 .reg [iM 13 1,iM 14 5,iI 15 (.idx 1 (.t 13) (.t 14)),iI 16 (.ld (.t 15)),iI 17 (.bin .add (.t 16) (.c (.d (.int 1)))),iI 18 (.idx 1 (.t 13) (.t 14)),
 ⟨none,none,.st 1 (.t 18) (.t 17)⟩]) (
 .seq (
 .seq (
 .draw [iM 19 1,iM 20 5,iI 21 (.idx 1 (.t 19) (.t 20)),iI 22 (.ld (.t 21)),iM 23 0,iM 24 5,iI 25 (.idx 1 (.t 23) (.t 24)),iI 26 (.ld (.t 25))]
 [iI 27 (.bin .lss (.t 22) (.t 26))]) (
 .cond (.t 27) (
 .seq (
 .reg [iI 4 (.mv (.c (.d (.bool true))))]) (
 .ret)) (
 .skip))) (
 .reg [iM 28 1,iM 29 5,iI 30 (.idx 1 (.t 28) (.t 29)),
 ⟨none,none,.st 1 (.t 30) (.c (.d (.int 0)))⟩])))) (
 .reg [iM 11 5,iI 12 (.bin .sub (.t 11) (.c (.d (.int 1)))),iM 5 12]))
def C_impl_nextIndex:Fun:=⟨2,31,
 .seq (
 .reg [iI 4 (.mv (.c (.d (.bool false))))]) (
 .seq (
 .seq (
 .reg [iM 6 0,iI 7 (.len (.t 6)),iI 8 (.bin .sub (.t 7) (.c (.d (.int 1)))),iM 5 8]) (
 .block 0 (
 .loop L0_impl_nextIndex))) (
 .seq (
 .reg [iI 4 (.mv (.c (.d (.bool false))))]) (
 .ret))),
 [.t 4]⟩
theorem nO:cFun Tryz.prog Tryz.f91=some C_impl_nextIndex.erase:=by kernel_rfl
def L0_spec_l02Mul:C:=
 .seq (
 .reg [iI 27 (.bin .lss (.t 26) (.t 25))]) (
 .seq (
 .cond (.t 27) (
 .skip) (
 .exit 3)) (
 .seq (
 .block 4 (
 .seq (
 .reg [iM 28 26,iI 29 (.idx 1 (.t 24) (.t 26)),iI 30 (.ld (.t 29)),iM 10 28,iM 11 30]) (
 .block 5 (
 .seq (
 .reg [iM 32 8,iM 33 10,iI 34 (.bin .add (.t 32) (.t 33)),iM 35 7,iI 36 (.len (.t 35)),iI 37 (.bin .lss (.t 34) (.t 36)),iM 31 37]) (
 .cond (.t 31) (
 .draw [iM 38 7,iM 39 8,iM 40 10,iI 41 (.bin .add (.t 39) (.t 40)),iM 42 7,iM 43 8,iM 44 10,iI 45 (.bin .add (.t 43) (.t 44)),iI 46 (.idx 1 (.t 42) (.t 45)),iI 47 (.ld (.t 46)),iM 48 9,iM 49 11,iI 50 (.bin .mul (.t 48) (.t 49)),iI 51 (.bin .add (.t 47) (.t 50)),iI 52 (.fld 1 (.t 3)),iI 53 (.ld (.t 52)),iI 54 (.bin .rem (.t 51) (.t 53))]
 [iI 55 (.idx 1 (.t 38) (.t 41)),
 ⟨none,none,.st 1 (.t 55) (.t 54)⟩]) (
 .seq (
 .reg [iI 57 (.fld 0 (.t 3)),iI 58 (.ld (.t 57)),iI 59 (.bin .eql (.t 58) (.c (.d (.int 8)))),iM 56 59]) (
 .cond (.t 56) (
 .draw [iM 60 7,iM 61 8,iM 62 10,iI 63 (.bin .add (.t 61) (.t 62)),iI 64 (.bin .sub (.t 63) (.c (.d (.int 4)))),iM 65 7,iM 66 8,iM 67 10,iI 68 (.bin .add (.t 66) (.t 67)),iI 69 (.bin .sub (.t 68) (.c (.d (.int 4)))),iI 70 (.idx 1 (.t 65) (.t 69)),iI 71 (.ld (.t 70)),iI 72 (.fld 1 (.t 3)),iI 73 (.ld (.t 72)),iM 74 9,iI 75 (.bin .sub (.t 73) (.t 74)),iM 76 11,iI 77 (.bin .mul (.t 75) (.t 76)),iI 78 (.bin .add (.t 71) (.t 77)),iI 79 (.fld 1 (.t 3)),iI 80 (.ld (.t 79)),iI 81 (.bin .rem (.t 78) (.t 80))]
 [iI 82 (.idx 1 (.t 60) (.t 64)),
 ⟨none,none,.st 1 (.t 82) (.t 81)⟩]) (
 .skip)))))))) (
 .reg [iI 83 (.bin .add (.t 26) (.c (.d (.int 1)))),iM 26 83])))
def L1_spec_l02Mul:C:=
 .seq (
 .reg [iI 20 (.bin .lss (.t 19) (.t 18))]) (
 .seq (
 .cond (.t 20) (
 .skip) (
 .exit 1)) (
 .seq (
 .block 2 (
 .seq (
 .reg [iM 21 19,iI 22 (.idx 1 (.t 17) (.t 19)),iI 23 (.ld (.t 22)),iM 8 21,iM 9 23]) (
 .seq (
 .reg [iM 24 2,iI 25 (.len (.t 24)),iI 26 (.mv (.c (.d (.int 0))))]) (
 .block 3 (
 .loop L0_spec_l02Mul))))) (
 .reg [iI 84 (.bin .add (.t 19) (.c (.d (.int 1)))),iM 19 84])))
def C_spec_l02Mul:Fun:=⟨3,151,
 .seq (
 .reg [iI 3 (.box (.t 0)),iI 6 (.mv (.c (.nil)))]) (
 .seq (
 .reg [iM 12 1,iI 13 (.len (.t 12)),iI 14 (.make 1 8 [.d (.int 0)] (.t 13) (.t 13)),iM 7 14]) (
 .seq (
 .seq (
 .reg [iI 15 (.fld 0 (.t 3)),iI 16 (.ld (.t 15))]) (
 .block 0 (
 .seq (
 .seq (
 .reg [iI 86 (.bin .eql (.t 16) (.c (.d (.int 1)))),iM 85 86]) (
 .cond (.t 85) (
 .skip) (
 .reg [iI 87 (.bin .eql (.t 16) (.c (.d (.int 6)))),iM 85 87]))) (
 .cond (.t 85) (
 .draw [iM 88 7,iM 89 1,iI 90 (.idx 1 (.t 89) (.c (.d (.int 0)))),iI 91 (.ld (.t 90)),iM 92 2,iI 93 (.idx 1 (.t 92) (.c (.d (.int 0)))),iI 94 (.ld (.t 93)),iI 95 (.bin .and (.t 91) (.t 94))]
 [iI 96 (.idx 1 (.t 88) (.c (.d (.int 0)))),
 ⟨none,none,.st 1 (.t 96) (.t 95)⟩]) (
 .seq (
 .reg [iI 98 (.bin .eql (.t 16) (.c (.d (.int 2)))),iM 97 98]) (
 .cond (.t 97) (
 .draw [iM 99 7,iM 100 1,iI 101 (.idx 1 (.t 100) (.c (.d (.int 0)))),iI 102 (.ld (.t 101)),iM 103 2,iI 104 (.idx 1 (.t 103) (.c (.d (.int 0)))),iI 105 (.ld (.t 104)),iI 106 (.bin .mul (.t 102) (.t 105)),iI 107 (.fld 1 (.t 3)),iI 108 (.ld (.t 107)),iI 109 (.bin .rem (.t 106) (.t 108))]
 [iI 110 (.idx 1 (.t 99) (.c (.d (.int 0)))),
 ⟨none,none,.st 1 (.t 110) (.t 109)⟩]) (
 .seq (
 .reg [iI 112 (.bin .eql (.t 16) (.c (.d (.int 3)))),iM 111 112]) (
 .cond (.t 111) (
 .draw [iM 113 7,iM 114 1,iI 115 (.idx 1 (.t 114) (.c (.d (.int 0)))),iI 116 (.ld (.t 115)),iM 117 2,iI 118 (.idx 1 (.t 117) (.c (.d (.int 0)))),iI 119 (.ld (.t 118)),iI 120 (.bin .mul (.t 116) (.t 119)),iI 121 (.fld 1 (.t 3)),iI 122 (.ld (.t 121)),iI 123 (.mnx false (.t 120) (.t 122))]
 [iI 124 (.idx 1 (.t 113) (.c (.d (.int 0)))),
 ⟨none,none,.st 1 (.t 124) (.t 123)⟩]) (
 .seq (
 .reg [iI 126 (.bin .eql (.t 16) (.c (.d (.int 4)))),iM 125 126]) (
 .cond (.t 125) (
 .draw [iM 127 7,iM 128 1,iI 129 (.idx 1 (.t 128) (.c (.d (.int 0)))),iI 130 (.ld (.t 129)),iM 131 2,iI 132 (.idx 1 (.t 131) (.c (.d (.int 0)))),iI 133 (.ld (.t 132)),iI 134 (.bin .add (.t 130) (.t 133)),iI 135 (.fld 1 (.t 3)),iI 136 (.ld (.t 135)),iI 137 (.mnx false (.t 134) (.t 136))]
 [iI 138 (.idx 1 (.t 127) (.c (.d (.int 0)))),
 ⟨none,none,.st 1 (.t 138) (.t 137)⟩]) (
 .seq (
 .reg [iI 140 (.bin .eql (.t 16) (.c (.d (.int 5)))),iM 139 140]) (
 .cond (.t 139) (
 .draw [iM 141 7,iM 142 1,iI 143 (.idx 1 (.t 142) (.c (.d (.int 0)))),iI 144 (.ld (.t 143)),iM 145 2,iI 146 (.idx 1 (.t 145) (.c (.d (.int 0)))),iI 147 (.ld (.t 146)),iI 148 (.mnx false (.t 144) (.t 147))]
 [iI 149 (.idx 1 (.t 141) (.c (.d (.int 0)))),
 ⟨none,none,.st 1 (.t 149) (.t 148)⟩]) (
 .seq (
 .reg [iM 17 1,iI 18 (.len (.t 17)),iI 19 (.mv (.c (.d (.int 0))))]) (
 .block 1 (
 .loop L1_spec_l02Mul))))))))))))))) (
 .seq (
 .reg [iM 150 7,iM 6 150]) (
 .ret)))),
 [.t 6]⟩
theorem rS:cFun Tryz.prog Tryz.f118=some C_spec_l02Mul.erase:=by kernel_rfl
def C_impl_mulInto:Fun:=⟨4,80,
 .seq (
 .reg [iI 4 (.box (.t 0))]) (
 .seq (
 .reg [iI 8 (.fld 0 (.t 4)),iI 9 (.ld (.t 8))]) (
 .block 0 (
 .seq (
 .seq (
 .reg [iI 16 (.bin .eql (.t 9) (.c (.d (.int 1)))),iM 15 16]) (
 .cond (.t 15) (
 .skip) (
 .reg [iI 17 (.bin .eql (.t 9) (.c (.d (.int 5)))),iM 15 17]))) (
 .cond (.t 15) (
 .draw [iM 18 1,iM 19 2,iI 20 (.idx 1 (.t 19) (.c (.d (.int 0)))),iI 21 (.ld (.t 20)),iM 22 3,iI 23 (.idx 1 (.t 22) (.c (.d (.int 0)))),iI 24 (.ld (.t 23)),iI 25 (.mnx false (.t 21) (.t 24))]
 [iI 26 (.idx 1 (.t 18) (.c (.d (.int 0)))),
 ⟨none,none,.st 1 (.t 26) (.t 25)⟩]) (
 .seq (
 .reg [iI 28 (.bin .eql (.t 9) (.c (.d (.int 2)))),iM 27 28]) (
 .cond (.t 27) (
 .draw [iM 29 1,iM 30 2,iI 31 (.idx 1 (.t 30) (.c (.d (.int 0)))),iI 32 (.ld (.t 31)),iM 33 3,iI 34 (.idx 1 (.t 33) (.c (.d (.int 0)))),iI 35 (.ld (.t 34)),iI 36 (.bin .mul (.t 32) (.t 35)),iI 37 (.fld 1 (.t 4)),iI 38 (.ld (.t 37)),iI 39 (.bin .rem (.t 36) (.t 38))]
 [iI 40 (.idx 1 (.t 29) (.c (.d (.int 0)))),
 ⟨none,none,.st 1 (.t 40) (.t 39)⟩]) (
 .seq (
 .reg [iI 42 (.bin .eql (.t 9) (.c (.d (.int 3)))),iM 41 42]) (
 .cond (.t 41) (
 .draw [iM 43 1,iM 44 2,iI 45 (.idx 1 (.t 44) (.c (.d (.int 0)))),iI 46 (.ld (.t 45)),iM 47 3,iI 48 (.idx 1 (.t 47) (.c (.d (.int 0)))),iI 49 (.ld (.t 48)),iI 50 (.bin .mul (.t 46) (.t 49)),iI 51 (.fld 1 (.t 4)),iI 52 (.ld (.t 51)),iI 53 (.mnx false (.t 50) (.t 52))]
 [iI 54 (.idx 1 (.t 43) (.c (.d (.int 0)))),
 ⟨none,none,.st 1 (.t 54) (.t 53)⟩]) (
 .seq (
 .reg [iI 56 (.bin .eql (.t 9) (.c (.d (.int 4)))),iM 55 56]) (
 .cond (.t 55) (
 .draw [iM 57 1,iM 58 2,iI 59 (.idx 1 (.t 58) (.c (.d (.int 0)))),iI 60 (.ld (.t 59)),iM 61 3,iI 62 (.idx 1 (.t 61) (.c (.d (.int 0)))),iI 63 (.ld (.t 62)),iI 64 (.bin .add (.t 60) (.t 63)),iI 65 (.fld 1 (.t 4)),iI 66 (.ld (.t 65)),iI 67 (.mnx false (.t 64) (.t 66))]
 [iI 68 (.idx 1 (.t 57) (.c (.d (.int 0)))),
 ⟨none,none,.st 1 (.t 68) (.t 67)⟩]) (
 .seq (
 .reg [iI 70 (.bin .eql (.t 9) (.c (.d (.int 6)))),iM 69 70]) (
 .cond (.t 69) (
 .draw [iM 71 1,iM 72 2,iI 73 (.idx 1 (.t 72) (.c (.d (.int 0)))),iI 74 (.ld (.t 73)),iM 75 3,iI 76 (.idx 1 (.t 75) (.c (.d (.int 0)))),iI 77 (.ld (.t 76)),iI 78 (.bin .and (.t 74) (.t 77))]
 [iI 79 (.idx 1 (.t 71) (.c (.d (.int 0)))),
 ⟨none,none,.st 1 (.t 79) (.t 78)⟩]) (
 .reg [iI 10 (.ldn 3 (.t 4)),iM 11 1,iM 12 2,iM 13 3,iI 14 (.call 114 [(.t 10),(.t 11),(.t 12),(.t 13)])]))))))))))))),
 []⟩
theorem qW:cFun Tryz.prog Tryz.f89=some C_impl_mulInto.erase:=by kernel_rfl
def L0_impl_sameLabels:C:=
 .seq (
 .reg [iI 15 (.bin .lss (.t 14) (.t 13))]) (
 .seq (
 .cond (.t 15) (
 .skip) (
 .exit 0)) (
 .seq (
 .block 1 (
 .seq (
 .reg [iM 16 14,iI 17 (.idx 1 (.t 12) (.t 14)),iI 18 (.ld (.t 17)),iM 5 16,iM 6 18]) (
 .seq (
 .reg [iM 19 1,iM 20 5,iI 21 (.slc 1 (.t 19) none (some (.t 20))),iM 22 6,iI 23 (.call 75 [(.t 21),(.t 22)]),iM 24 23,iG 25 24 false (.mv (.t 0)),iG 26 24 false (.mv (.t 6)),iG 27 24 false (.call 75 [(.t 25),(.t 26)]),iG 28 24 false (.not (.t 27)),iI 29 (.pick (.t 24) (.c (.d (.bool true))) (.t 28))]) (
 .cond (.t 29) (
 .seq (
 .reg [iI 4 (.mv (.c (.d (.bool false))))]) (
 .ret)) (
 .skip))))) (
 .reg [iI 30 (.bin .add (.t 14) (.c (.d (.int 1)))),iM 14 30])))
def C_impl_sameLabels:Fun:=⟨2,31,
 .seq (
 .reg [iI 4 (.mv (.c (.d (.bool false))))]) (
 .seq (
 .seq (
 .reg [iM 7 1,iI 8 (.len (.t 7)),iM 9 0,iI 10 (.len (.t 9)),iI 11 (.bin .neq (.t 8) (.t 10))]) (
 .cond (.t 11) (
 .seq (
 .reg [iI 4 (.mv (.c (.d (.bool false))))]) (
 .ret)) (
 .skip))) (
 .seq (
 .seq (
 .reg [iM 12 1,iI 13 (.len (.t 12)),iI 14 (.mv (.c (.d (.int 0))))]) (
 .block 0 (
 .loop L0_impl_sameLabels))) (
 .seq (
 .reg [iI 4 (.mv (.c (.d (.bool true))))]) (
 .ret)))),
 [.t 4]⟩
theorem my:cFun Tryz.prog Tryz.f92=some C_impl_sameLabels.erase:=by kernel_rfl
def L0_impl_rawPermute:C:=
 .block 3 (
 .seq (
 .draw [iI 43 (.fld 2 (.t 7)),iI 44 (.ld (.t 43)),iI 45 (.ldn 3 (.t 3)),iI 46 (.ldn 3 (.t 4)),iM 47 10,iM 48 11,iI 49 (.call 90 [(.t 47),(.t 48)]),iI 50 (.call 44 [(.t 45),(.t 46),(.t 49)])]
 [iI 51 (.app 1 8 [.d (.int 0)] (.t 44) (.t 50)),iI 52 (.fld 2 (.t 7)),
 ⟨none,none,.st 1 (.t 52) (.t 51)⟩]) (
 .seq (
 .reg [iI 53 (.fld 1 (.t 7)),iI 54 (.ld (.t 53)),iM 55 11,iI 56 (.call 91 [(.t 54),(.t 55)]),iI 57 (.not (.t 56))]) (
 .cond (.t 57) (
 .seq (
 .reg [iI 58 (.ldn 3 (.t 7)),
 ⟨none,none,.st 3 (.t 6) (.t 58)⟩]) (
 .ret)) (
 .skip))))
def L1_impl_rawPermute:C:=
 .seq (
 .reg [iI 21 (.bin .lss (.t 20) (.t 19))]) (
 .seq (
 .cond (.t 21) (
 .skip) (
 .exit 0)) (
 .seq (
 .block 1 (
 .seq (
 .reg [iM 22 20,iI 23 (.idx 1 (.t 18) (.t 20)),iI 24 (.ld (.t 23)),iM 8 22,iM 9 24]) (
 .draw [iI 25 (.fld 1 (.t 7)),iI 26 (.ld (.t 25)),iM 27 8,iI 28 (.fld 1 (.t 4)),iI 29 (.ld (.t 28)),iI 30 (.ldn 3 (.t 4)),iM 31 9,iI 32 (.call 113 [(.t 30),(.t 31)]),iI 33 (.idx 1 (.t 29) (.t 32)),iI 34 (.ld (.t 33))]
 [iI 35 (.idx 1 (.t 26) (.t 27)),
 ⟨none,none,.st 1 (.t 35) (.t 34)⟩]))) (
 .reg [iI 36 (.bin .add (.t 20) (.c (.d (.int 1)))),iM 20 36])))
def C_impl_rawPermute:Fun:=⟨3,59,
 .seq (
 .reg [iI 3 (.box (.t 0)),iI 4 (.box (.t 1)),iI 6 (.zer [.nil,.nil,.nil])]) (
 .seq (
 .draw [iM 12 2,iI 13 (.call 72 [(.t 12)]),iM 14 2,iI 15 (.len (.t 14)),iI 16 (.make 1 8 [.d (.int 0)] (.t 15) (.t 15)),iI 17 (.agg [.nil,.nil,.nil] [(0,1,(.t 13)),(1,1,(.t 16))]),iI 7 (.zer [.nil,.nil,.nil])]
 [⟨none,none,.st 3 (.t 7) (.t 17)⟩]) (
 .seq (
 .seq (
 .reg [iM 18 2,iI 19 (.len (.t 18)),iI 20 (.mv (.c (.d (.int 0))))]) (
 .block 0 (
 .loop L1_impl_rawPermute))) (
 .seq (
 .reg [iI 37 (.ldn 3 (.t 4)),iM 38 2,iI 39 (.call 88 [(.t 37),(.t 38)]),iM 10 39]) (
 .seq (
 .reg [iM 40 2,iI 41 (.len (.t 40)),iI 42 (.make 1 8 [.d (.int 0)] (.t 41) (.t 41)),iM 11 42]) (
 .block 2 (
 .loop L0_impl_rawPermute)))))),
 [.cell 6 3]⟩
theorem mz:cFun Tryz.prog Tryz.f93=some C_impl_rawPermute.erase:=by kernel_rfl
def C_spec_l05Ints:Fun:=⟨1,6,
 .seq (
 .reg [iI 2 (.mv (.c (.nil)))]) (
 .seq (
 .reg [iI 3 (.mksl 1 0 [.d (.int 0)] []),iM 4 0,iI 5 (.app 1 8 [.d (.int 0)] (.t 3) (.t 4)),iM 2 5]) (
 .ret)),
 [.t 2]⟩
theorem qK:cFun Tryz.prog Tryz.f81=some C_spec_l05Ints.erase:=by kernel_rfl
def L0_impl_joinLabels:C:=
 .seq (
 .reg [iI 13 (.bin .lss (.t 12) (.t 11))]) (
 .seq (
 .cond (.t 13) (
 .skip) (
 .exit 0)) (
 .seq (
 .block 1 (
 .seq (
 .reg [iI 14 (.idx 1 (.t 10) (.t 12)),iI 15 (.ld (.t 14)),iM 7 15]) (
 .seq (
 .reg [iM 16 0,iM 17 7,iI 18 (.call 75 [(.t 16),(.t 17)]),iI 19 (.not (.t 18))]) (
 .cond (.t 19) (
 .reg [iM 20 5,iM 21 7,iI 22 (.mksl 1 1 [.d (.int 0)] [(0,1,(.t 21))]),iI 23 (.app 1 8 [.d (.int 0)] (.t 20) (.t 22)),iM 5 23]) (
 .skip))))) (
 .reg [iI 24 (.bin .add (.t 12) (.c (.d (.int 1)))),iM 12 24])))
def C_impl_joinLabels:Fun:=⟨2,26,
 .seq (
 .reg [iI 4 (.mv (.c (.nil)))]) (
 .seq (
 .reg [iM 8 0,iI 9 (.call 72 [(.t 8)]),iM 5 9]) (
 .seq (
 .seq (
 .reg [iM 10 1,iI 11 (.len (.t 10)),iI 12 (.mv (.c (.d (.int 0))))]) (
 .block 0 (
 .loop L0_impl_joinLabels))) (
 .seq (
 .reg [iM 25 5,iM 4 25]) (
 .ret)))),
 [.t 4]⟩
theorem mA:cFun Tryz.prog Tryz.f33=some C_impl_joinLabels.erase:=by kernel_rfl
def L0_spec_IsPrime:C:=
 .seq (
 .seq (
 .reg [iM 4 3,iM 5 3,iI 6 (.bin .mul (.t 4) (.t 5)),iM 7 0,iI 8 (.bin .leq (.t 6) (.t 7)),iM 9 8,iG 10 9 true (.mv (.t 0)),iG 11 9 true (.bin .leq (.t 10) (.c (.d (.int 1000003)))),iI 12 (.pick (.t 9) (.t 11) (.c (.d (.bool false))))]) (
 .cond (.t 12) (
 .skip) (
 .exit 0))) (
 .seq (
 .block 1 (
 .seq (
 .reg [iM 15 0,iM 16 3,iI 17 (.bin .rem (.t 15) (.t 16)),iI 18 (.bin .eql (.t 17) (.c (.d (.int 0))))]) (
 .cond (.t 18) (
 .seq (
 .reg [iI 2 (.mv (.c (.d (.bool false))))]) (
 .ret)) (
 .skip)))) (
 .reg [iM 13 3,iI 14 (.bin .add (.t 13) (.c (.d (.int 1)))),iM 3 14]))
def C_spec_IsPrime:Fun:=⟨1,21,
 .seq (
 .reg [iI 2 (.mv (.c (.d (.bool false))))]) (
 .seq (
 .seq (
 .reg [iI 3 (.mv (.c (.d (.int 2))))]) (
 .block 0 (
 .loop L0_spec_IsPrime))) (
 .seq (
 .reg [iM 19 0,iI 20 (.call 120 [(.t 19),(.c (.d (.int 2))),(.c (.d (.int 1000003)))]),iM 2 20]) (
 .ret))),
 [.t 2]⟩
theorem qU:cFun Tryz.prog Tryz.f119=some C_spec_IsPrime.erase:=by kernel_rfl
def L0_impl_IsPrime:C:=
 .seq (
 .seq (
 .reg [iM 10 3,iM 11 3,iI 12 (.bin .mul (.t 10) (.t 11)),iM 13 0,iI 14 (.bin .leq (.t 12) (.t 13))]) (
 .cond (.t 14) (
 .skip) (
 .exit 0))) (
 .seq (
 .block 1 (
 .seq (
 .reg [iM 17 0,iM 18 3,iI 19 (.bin .rem (.t 17) (.t 18)),iI 20 (.bin .eql (.t 19) (.c (.d (.int 0))))]) (
 .cond (.t 20) (
 .seq (
 .reg [iI 2 (.mv (.c (.d (.bool false))))]) (
 .ret)) (
 .skip)))) (
 .reg [iM 15 3,iI 16 (.bin .add (.t 15) (.c (.d (.int 1)))),iM 3 16]))
def C_impl_IsPrime:Fun:=⟨1,21,
 .seq (
 .reg [iI 2 (.mv (.c (.d (.bool false))))]) (
 .seq (
 .seq (
 .reg [iM 4 0,iI 5 (.bin .lss (.t 4) (.c (.d (.int 2)))),iM 6 5,iG 7 6 false (.mv (.t 0)),iG 8 6 false (.bin .gtr (.t 7) (.c (.d (.int 1000003)))),iI 9 (.pick (.t 6) (.c (.d (.bool true))) (.t 8))]) (
 .cond (.t 9) (
 .seq (
 .reg [iI 2 (.mv (.c (.d (.bool false))))]) (
 .ret)) (
 .skip))) (
 .seq (
 .seq (
 .reg [iI 3 (.mv (.c (.d (.int 2))))]) (
 .block 0 (
 .loop L0_impl_IsPrime))) (
 .seq (
 .reg [iI 2 (.mv (.c (.d (.bool true))))]) (
 .ret)))),
 [.t 2]⟩
theorem qZ:cFun Tryz.prog Tryz.f107=some C_impl_IsPrime.erase:=by kernel_rfl
def C_impl_rawTop:Fun:=⟨1,22,
 .seq (
 .reg [iI 1 (.box (.t 0)),iI 2 (.mv (.c (.d (.int 0))))]) (
 .seq (
 .seq (
 .reg [iI 3 (.fld 0 (.t 1)),iI 4 (.ld (.t 3))]) (
 .block 0 (
 .seq (
 .reg [iI 6 (.bin .eql (.t 4) (.c (.d (.int 1)))),iM 5 6]) (
 .cond (.t 5) (
 .seq (
 .reg [iI 2 (.mv (.c (.d (.int 1))))]) (
 .ret)) (
 .seq (
 .seq (
 .reg [iI 8 (.bin .eql (.t 4) (.c (.d (.int 3)))),iM 7 8]) (
 .cond (.t 7) (
 .skip) (
 .seq (
 .reg [iI 9 (.bin .eql (.t 4) (.c (.d (.int 4)))),iM 7 9]) (
 .cond (.t 7) (
 .skip) (
 .reg [iI 10 (.bin .eql (.t 4) (.c (.d (.int 5)))),iM 7 10]))))) (
 .cond (.t 7) (
 .seq (
 .reg [iI 11 (.fld 1 (.t 1)),iI 12 (.ld (.t 11)),iM 2 12]) (
 .ret)) (
 .seq (
 .reg [iI 14 (.bin .eql (.t 4) (.c (.d (.int 6)))),iM 13 14]) (
 .cond (.t 13) (
 .seq (
 .reg [iI 15 (.fld 2 (.t 1)),iI 16 (.ld (.t 15)),iI 17 (.bin .shl (.c (.d (.int 1))) (.t 16)),iI 18 (.bin .sub (.t 17) (.c (.d (.int 1)))),iM 2 18]) (
 .ret)) (
 .skip))))))))) (
 .seq (
 .reg [iI 19 (.fld 1 (.t 1)),iI 20 (.ld (.t 19)),iI 21 (.bin .sub (.t 20) (.c (.d (.int 1)))),iM 2 21]) (
 .ret))),
 [.t 2]⟩
theorem rW:cFun Tryz.prog Tryz.f74=some C_impl_rawTop.erase:=by kernel_rfl
def L0_impl_mulCoefficients:C:=
 .seq (
 .reg [iI 21 (.bin .lss (.t 20) (.t 19))]) (
 .seq (
 .cond (.t 21) (
 .skip) (
 .exit 2)) (
 .seq (
 .block 3 (
 .seq (
 .reg [iM 22 20,iM 9 22]) (
 .seq (
 .draw [iM 23 2,iM 24 8,iI 25 (.idx 1 (.t 23) (.t 24)),iI 26 (.ld (.t 25)),iM 27 3,iM 28 9,iI 29 (.idx 1 (.t 27) (.t 28)),iI 30 (.ld (.t 29)),iI 31 (.bin .mul (.t 26) (.t 30)),iI 32 (.fld 1 (.t 4)),iI 33 (.ld (.t 32))]
 [iI 34 (.bin .rem (.t 31) (.t 33)),iM 10 34]) (
 .seq (
 .reg [iM 35 8,iM 36 9,iI 37 (.bin .add (.t 35) (.t 36)),iM 11 37]) (
 .seq (
 .reg [iM 38 11,iM 39 1,iI 40 (.len (.t 39)),iI 41 (.bin .lss (.t 38) (.t 40))]) (
 .cond (.t 41) (
 .draw [iM 42 1,iM 43 11,iM 44 1,iM 45 11,iI 46 (.idx 1 (.t 44) (.t 45)),iI 47 (.ld (.t 46)),iM 48 10,iI 49 (.bin .add (.t 47) (.t 48)),iI 50 (.fld 1 (.t 4)),iI 51 (.ld (.t 50)),iI 52 (.bin .rem (.t 49) (.t 51))]
 [iI 53 (.idx 1 (.t 42) (.t 43)),
 ⟨none,none,.st 1 (.t 53) (.t 52)⟩]) (
 .seq (
 .reg [iI 54 (.fld 0 (.t 4)),iI 55 (.ld (.t 54)),iI 56 (.bin .eql (.t 55) (.c (.d (.int 8))))]) (
 .cond (.t 56) (
 .draw [iM 57 1,iM 58 11,iI 59 (.bin .sub (.t 58) (.c (.d (.int 4)))),iM 60 1,iM 61 11,iI 62 (.bin .sub (.t 61) (.c (.d (.int 4)))),iI 63 (.idx 1 (.t 60) (.t 62)),iI 64 (.ld (.t 63)),iI 65 (.fld 1 (.t 4)),iI 66 (.ld (.t 65)),iI 67 (.bin .add (.t 64) (.t 66)),iM 68 10,iI 69 (.bin .sub (.t 67) (.t 68)),iI 70 (.fld 1 (.t 4)),iI 71 (.ld (.t 70)),iI 72 (.bin .rem (.t 69) (.t 71))]
 [iI 73 (.idx 1 (.t 57) (.t 59)),
 ⟨none,none,.st 1 (.t 73) (.t 72)⟩]) (
 .skip))))))))) (
 .reg [iI 74 (.bin .add (.t 20) (.c (.d (.int 1)))),iM 20 74])))
def L1_impl_mulCoefficients:C:=
 .seq (
 .reg [iI 16 (.bin .lss (.t 15) (.t 14))]) (
 .seq (
 .cond (.t 16) (
 .skip) (
 .exit 0)) (
 .seq (
 .block 1 (
 .seq (
 .reg [iM 17 15,iM 8 17]) (
 .seq (
 .reg [iM 18 3,iI 19 (.len (.t 18)),iI 20 (.mv (.c (.d (.int 0))))]) (
 .block 2 (
 .loop L0_impl_mulCoefficients))))) (
 .reg [iI 75 (.bin .add (.t 15) (.c (.d (.int 1)))),iM 15 75])))
def C_impl_mulCoefficients:Fun:=⟨4,76,
 .seq (
 .reg [iI 4 (.box (.t 0))]) (
 .seq (
 .reg [iM 12 1,
 ⟨none,none,.clear 1 [.d (.int 0)] (.t 12)⟩]) (
 .seq (
 .reg [iM 13 2,iI 14 (.len (.t 13)),iI 15 (.mv (.c (.d (.int 0))))]) (
 .block 0 (
 .loop L1_impl_mulCoefficients)))),
 []⟩
theorem jf:cFun Tryz.prog Tryz.f114=some C_impl_mulCoefficients.erase:=by kernel_rfl
def L0_impl_startState:C:=
 .seq (
 .reg [iI 26 (.bin .lss (.t 25) (.t 24))]) (
 .seq (
 .cond (.t 26) (
 .skip) (
 .exit 0)) (
 .seq (
 .block 1 (
 .seq (
 .reg [iM 27 25,iI 28 (.idx 3 (.t 23) (.t 25)),iI 29 (.ldn 3 (.t 28)),iI 7 (.zer [.nil,.nil,.nil]),iM 6 27,
 ⟨none,none,.st 3 (.t 7) (.t 29)⟩]) (
 .draw [iM 30 5,iM 31 5,iI 32 (.nck (.t 31)),iI 33 (.fld 101 (.t 32)),iI 34 (.ld (.t 33)),iM 35 6,iI 36 (.fld 0 (.t 7)),iI 37 (.ld (.t 36)),iI 38 (.call 72 [(.t 37)]),iI 39 (.agg [.d (.int 0),.nil] [(0,1,(.t 35)),(1,1,(.t 38))]),iI 40 (.mksl 2 1 [.d (.int 0),.nil] [(0,2,(.t 39))])]
 [iI 41 (.app 2 32 [.d (.int 0),.nil] (.t 34) (.t 40)),iI 42 (.nck (.t 30)),iI 43 (.fld 101 (.t 42)),
 ⟨none,none,.st 1 (.t 43) (.t 41)⟩]))) (
 .reg [iI 44 (.bin .add (.t 25) (.c (.d (.int 1)))),iM 25 44])))
def C_impl_startState:Fun:=⟨1,46,
 .seq (
 .reg [iI 1 (.box (.t 0)),iI 2 (.mv (.c (.any)))]) (
 .seq (
 .reg [iI 9 (.fld 3 (.t 1)),iI 10 (.ld (.t 9)),iI 11 (.call 69 [(.t 10)]),iM 8 11,iI 12 (.ext 0 (.t 8)),iI 13 (.ext 1 (.t 8)),iI 3 (.zer (reps 100 (.d (.int 0)))),
 ⟨none,none,.st 100 (.t 3) (.t 12)⟩,iM 4 13]) (
 .seq (
 .reg [iI 14 (.ldn 100 (.t 3)),iI 15 (.fld 4 (.t 1)),iI 16 (.ld (.t 15)),iI 17 (.fld 3 (.t 1)),iI 18 (.ld (.t 17)),iI 19 (.len (.t 18)),iI 20 (.agg (reps 100 (.d (.int 0))++[.nil,.nil,.d (.int 0)]) [(0,100,(.t 14)),(100,1,(.t 16)),(102,1,(.t 19))]),iI 21 (.box (.t 20)),iM 5 21]) (
 .seq (
 .seq (
 .reg [iI 22 (.fld 3 (.t 1)),iI 23 (.ld (.t 22)),iI 24 (.len (.t 23)),iI 25 (.mv (.c (.d (.int 0))))]) (
 .block 0 (
 .loop L0_impl_startState))) (
 .seq (
 .reg [iM 45 5,iM 2 45]) (
 .ret))))),
 [.t 2]⟩
theorem mw:CX Tryz.prog Tryz.f50=some C_impl_startState.erase:=by kernel_rfl
def L0_impl_OrderOk:C:=
 .seq (
 .reg [iI 26 (.bin .lss (.t 25) (.t 24))]) (
 .seq (
 .cond (.t 26) (
 .skip) (
 .exit 0)) (
 .seq (
 .block 1 (
 .seq (
 .reg [iI 27 (.idx 2 (.t 23) (.t 25)),iI 28 (.ldn 2 (.t 27)),iI 7 (.zer [.d (.int 0),.d (.int 0)]),
 ⟨none,none,.st 2 (.t 7) (.t 28)⟩]) (
 .seq (
 .reg [iM 29 5,iI 30 (.ldn 2 (.t 7)),iI 31 (.call 51 [(.t 29),(.t 30)]),iI 32 (.not (.t 31))]) (
 .cond (.t 32) (
 .seq (
 .reg [iI 4 (.mv (.c (.d (.bool false))))]) (
 .ret)) (
 .skip))))) (
 .reg [iI 33 (.bin .add (.t 25) (.c (.d (.int 1)))),iM 25 33])))
def C_impl_OrderOk:Fun:=⟨2,34,
 .seq (
 .reg [iI 2 (.box (.t 0)),iI 4 (.mv (.c (.d (.bool false))))]) (
 .seq (
 .seq (
 .reg [iI 8 (.ldn 5 (.t 2)),iI 9 (.call 29 [(.t 8)]),iI 10 (.not (.t 9)),iM 11 10,iG 12 11 false (.mv (.t 1)),iG 13 11 false (.len (.t 12)),iG 14 11 false (.fld 3 (.t 2)),iG 15 11 false (.ld (.t 14)),iG 16 11 false (.len (.t 15)),iG 17 11 false (.bin .sub (.t 16) (.c (.d (.int 1)))),iG 18 11 false (.mnx true (.t 17) (.c (.d (.int 0)))),iG 19 11 false (.bin .neq (.t 13) (.t 18)),iI 20 (.pick (.t 11) (.c (.d (.bool true))) (.t 19))]) (
 .cond (.t 20) (
 .seq (
 .reg [iI 4 (.mv (.c (.d (.bool false))))]) (
 .ret)) (
 .skip))) (
 .seq (
 .reg [iI 21 (.ldn 5 (.t 2)),iI 22 (.call 50 [(.t 21)]),iM 5 22]) (
 .seq (
 .seq (
 .reg [iM 23 1,iI 24 (.len (.t 23)),iI 25 (.mv (.c (.d (.int 0))))]) (
 .block 0 (
 .loop L0_impl_OrderOk))) (
 .seq (
 .reg [iI 4 (.mv (.c (.d (.bool true))))]) (
 .ret))))),
 [.t 4]⟩
theorem qY:cFun Tryz.prog Tryz.f25=some C_impl_OrderOk.erase:=by kernel_rfl
def C_impl_orderState_follow:Fun:=⟨2,32,
 .seq (
 .reg [iI 3 (.box (.t 1)),iI 4 (.mv (.c (.d (.bool false))))]) (
 .seq (
 .draw [iM 7 0,iI 8 (.fld 0 (.t 3)),iI 9 (.ld (.t 8)),iI 10 (.call 99 [(.t 7),(.t 9)]),iM 11 0,iI 12 (.fld 1 (.t 3)),iI 13 (.ld (.t 12))]
 [iI 14 (.call 99 [(.t 11),(.t 13)]),iM 5 10,iM 6 14]) (
 .seq (
 .seq (
 .reg [iM 15 5,iI 16 (.bin .lss (.t 15) (.c (.d (.int 0)))),iM 17 16,iG 18 17 false (.mv (.t 6)),iG 19 17 false (.bin .lss (.t 18) (.c (.d (.int 0)))),iI 20 (.pick (.t 17) (.c (.d (.bool true))) (.t 19)),iM 21 20,iG 22 21 false (.fld 0 (.t 3)),iG 23 21 false (.ld (.t 22)),iG 24 21 false (.fld 1 (.t 3)),iG 25 21 false (.ld (.t 24)),iG 26 21 false (.bin .geq (.t 23) (.t 25)),iI 27 (.pick (.t 21) (.c (.d (.bool true))) (.t 26))]) (
 .cond (.t 27) (
 .seq (
 .reg [iI 4 (.mv (.c (.d (.bool false))))]) (
 .ret)) (
 .skip))) (
 .seq (
 .reg [iM 28 0,iM 29 5,iM 30 6,iI 31 (.call 100 [(.t 28),(.t 29),(.t 30)])]) (
 .seq (
 .reg [iI 4 (.mv (.c (.d (.bool true))))]) (
 .ret))))),
 [.t 4]⟩
theorem ep:cFun Tryz.prog Tryz.f51=some C_impl_orderState_follow.erase:=by kernel_rfl
def L0_impl_orderState_place:C:=
 .seq (
 .reg [iI 13 (.bin .lss (.t 12) (.t 11))]) (
 .seq (
 .cond (.t 13) (
 .skip) (
 .exit 0)) (
 .seq (
 .block 1 (
 .seq (
 .reg [iM 14 12,iI 15 (.idx 2 (.t 10) (.t 12)),iI 16 (.ldn 2 (.t 15)),iI 6 (.zer [.d (.int 0),.nil]),iM 5 14,
 ⟨none,none,.st 2 (.t 6) (.t 16)⟩]) (
 .seq (
 .reg [iI 17 (.fld 0 (.t 6)),iI 18 (.ld (.t 17)),iM 19 1,iI 20 (.bin .eql (.t 18) (.t 19))]) (
 .cond (.t 20) (
 .seq (
 .reg [iM 21 5,iM 4 21]) (
 .ret)) (
 .skip))))) (
 .reg [iI 22 (.bin .add (.t 12) (.c (.d (.int 1)))),iM 12 22])))
def C_impl_orderState_place:Fun:=⟨2,23,
 .seq (
 .reg [iI 4 (.mv (.c (.d (.int 0))))]) (
 .seq (
 .seq (
 .reg [iM 7 0,iI 8 (.nck (.t 7)),iI 9 (.fld 101 (.t 8)),iI 10 (.ld (.t 9)),iI 11 (.len (.t 10)),iI 12 (.mv (.c (.d (.int 0))))]) (
 .block 0 (
 .loop L0_impl_orderState_place))) (
 .seq (
 .reg [iI 4 (.mv (.c (.d (.int (-1)))))]) (
 .ret))),
 [.t 4]⟩
theorem iP:cFun Tryz.prog Tryz.f99=some C_impl_orderState_place.erase:=by kernel_rfl
def L0_impl_orderState_contract:C:=
 .seq (
 .reg [iI 44 (.bin .lss (.t 43) (.t 42))]) (
 .seq (
 .cond (.t 44) (
 .skip) (
 .exit 0)) (
 .seq (
 .block 1 (
 .seq (
 .reg [iM 45 43,iI 46 (.idx 2 (.t 41) (.t 43)),iI 47 (.ldn 2 (.t 46)),iI 11 (.zer [.d (.int 0),.nil]),iM 10 45,
 ⟨none,none,.st 2 (.t 11) (.t 47)⟩]) (
 .seq (
 .reg [iM 48 10,iM 49 1,iI 50 (.bin .neq (.t 48) (.t 49)),iM 51 50,iG 52 51 true (.mv (.t 10)),iG 53 51 true (.mv (.t 2)),iG 54 51 true (.bin .neq (.t 52) (.t 53)),iI 55 (.pick (.t 51) (.t 54) (.c (.d (.bool false))))]) (
 .cond (.t 55) (
 .reg [iM 56 9,iI 57 (.ldn 2 (.t 11)),iI 58 (.mksl 2 1 [.d (.int 0),.nil] [(0,2,(.t 57))]),iI 59 (.app 2 32 [.d (.int 0),.nil] (.t 56) (.t 58)),iM 9 59]) (
 .skip))))) (
 .reg [iI 60 (.bin .add (.t 43) (.c (.d (.int 1)))),iM 43 60])))
def C_impl_orderState_contract:Fun:=⟨3,76,
 .seq (
 .reg [iI 6 (.zer [.d (.int 0),.d (.int 0)])]) (
 .seq (
 .draw [iM 12 0,iI 13 (.nck (.t 12)),iI 14 (.fld 101 (.t 13)),iI 15 (.ld (.t 14)),iM 16 1,iI 17 (.idx 2 (.t 15) (.t 16)),iI 18 (.fld 0 (.t 17)),iI 19 (.ld (.t 18)),iM 20 0,iI 21 (.nck (.t 20)),iI 22 (.fld 101 (.t 21)),iI 23 (.ld (.t 22)),iM 24 2,iI 25 (.idx 2 (.t 23) (.t 24)),iI 26 (.fld 0 (.t 25)),iI 27 (.ld (.t 26)),iI 28 (.agg [.d (.int 0),.d (.int 0)] [(0,1,(.t 19)),(1,1,(.t 27))]),iI 7 (.zer [.d (.int 0),.d (.int 0)])]
 [⟨none,none,.st 2 (.t 7) (.t 28)⟩]) (
 .seq (
 .draw [iM 29 0,iI 30 (.nck (.t 29)),iI 31 (.fld 102 (.t 30)),iI 32 (.ld (.t 31)),iM 33 0,iM 34 1,iM 35 2,iI 36 (.call 101 [(.t 33),(.t 34),(.t 35)]),iI 37 (.agg [.d (.int 0),.nil] [(0,1,(.t 32)),(1,1,(.t 36))]),iI 8 (.zer [.d (.int 0),.nil])]
 [⟨none,none,.st 2 (.t 8) (.t 37)⟩]) (
 .seq (
 .reg [iI 9 (.mv (.c (.nil)))]) (
 .seq (
 .seq (
 .reg [iM 38 0,iI 39 (.nck (.t 38)),iI 40 (.fld 101 (.t 39)),iI 41 (.ld (.t 40)),iI 42 (.len (.t 41)),iI 43 (.mv (.c (.d (.int 0))))]) (
 .block 0 (
 .loop L0_impl_orderState_contract))) (
 .seq (
 .reg [iM 61 0,iM 62 9,iI 63 (.ldn 2 (.t 8)),iI 64 (.mksl 2 1 [.d (.int 0),.nil] [(0,2,(.t 63))]),iI 65 (.app 2 32 [.d (.int 0),.nil] (.t 62) (.t 64)),iI 66 (.nck (.t 61)),iI 67 (.fld 101 (.t 66)),
 ⟨none,none,.st 1 (.t 67) (.t 65)⟩]) (
 .seq (
 .reg [iM 68 0,iI 69 (.nck (.t 68)),iI 70 (.fld 102 (.t 69)),iI 71 (.ld (.t 70)),iI 72 (.bin .add (.t 71) (.c (.d (.int 1)))),iI 73 (.nck (.t 68)),iI 74 (.fld 102 (.t 73)),
 ⟨none,none,.st 1 (.t 74) (.t 72)⟩]) (
 .seq (
 .reg [iI 75 (.ldn 2 (.t 7)),
 ⟨none,none,.st 2 (.t 6) (.t 75)⟩]) (
 .ret)))))))),
 [.cell 6 2]⟩
theorem gJ:cFun Tryz.prog Tryz.f100=some C_impl_orderState_contract.erase:=by kernel_rfl
def C_impl_rawOne:Fun:=⟨1,28,
 .seq (
 .reg [iI 1 (.box (.t 0)),iI 2 (.mv (.c (.nil)))]) (
 .seq (
 .reg [iI 4 (.ldn 3 (.t 1)),iI 5 (.call 73 [(.t 4)]),iI 6 (.make 1 8 [.d (.int 0)] (.t 5) (.t 5)),iM 3 6]) (
 .seq (
 .seq (
 .reg [iI 7 (.fld 0 (.t 1)),iI 8 (.ld (.t 7))]) (
 .block 0 (
 .seq (
 .reg [iI 12 (.bin .eql (.t 8) (.c (.d (.int 4)))),iM 11 12]) (
 .cond (.t 11) (
 .reg [iM 13 3,iI 14 (.idx 1 (.t 13) (.c (.d (.int 0)))),
 ⟨none,none,.st 1 (.t 14) (.c (.d (.int 0)))⟩]) (
 .seq (
 .reg [iI 16 (.bin .eql (.t 8) (.c (.d (.int 5)))),iM 15 16]) (
 .cond (.t 15) (
 .reg [iM 17 3,iI 18 (.fld 1 (.t 1)),iI 19 (.ld (.t 18)),iI 20 (.idx 1 (.t 17) (.c (.d (.int 0)))),
 ⟨none,none,.st 1 (.t 20) (.t 19)⟩]) (
 .seq (
 .reg [iI 22 (.bin .eql (.t 8) (.c (.d (.int 6)))),iM 21 22]) (
 .cond (.t 21) (
 .reg [iM 23 3,iI 24 (.ldn 3 (.t 1)),iI 25 (.call 74 [(.t 24)]),iI 26 (.idx 1 (.t 23) (.c (.d (.int 0)))),
 ⟨none,none,.st 1 (.t 26) (.t 25)⟩]) (
 .reg [iM 9 3,iI 10 (.idx 1 (.t 9) (.c (.d (.int 0)))),
 ⟨none,none,.st 1 (.t 10) (.c (.d (.int 1)))⟩]))))))))) (
 .seq (
 .reg [iM 27 3,iM 2 27]) (
 .ret)))),
 [.t 2]⟩
theorem rZ:cFun Tryz.prog Tryz.f32=some C_impl_rawOne.erase:=by kernel_rfl
def C_impl_rawZero:Fun:=⟨1,15,
 .seq (
 .reg [iI 1 (.box (.t 0)),iI 2 (.mv (.c (.nil)))]) (
 .seq (
 .reg [iI 4 (.ldn 3 (.t 1)),iI 5 (.call 73 [(.t 4)]),iI 6 (.make 1 8 [.d (.int 0)] (.t 5) (.t 5)),iM 3 6]) (
 .seq (
 .seq (
 .reg [iI 7 (.fld 0 (.t 1)),iI 8 (.ld (.t 7)),iI 9 (.bin .eql (.t 8) (.c (.d (.int 4))))]) (
 .cond (.t 9) (
 .reg [iM 10 3,iI 11 (.fld 1 (.t 1)),iI 12 (.ld (.t 11)),iI 13 (.idx 1 (.t 10) (.c (.d (.int 0)))),
 ⟨none,none,.st 1 (.t 13) (.t 12)⟩]) (
 .skip))) (
 .seq (
 .reg [iM 14 3,iM 2 14]) (
 .ret)))),
 [.t 2]⟩
theorem qV:cFun Tryz.prog Tryz.f87=some C_impl_rawZero.erase:=by kernel_rfl
def L0_impl_orderState_resultLabels:C:=
 .seq (
 .reg [iI 47 (.bin .lss (.t 46) (.t 45))]) (
 .seq (
 .cond (.t 47) (
 .skip) (
 .exit 2)) (
 .seq (
 .block 3 (
 .seq (
 .reg [iM 48 46,iI 49 (.idx 2 (.t 44) (.t 46)),iI 50 (.ldn 2 (.t 49)),iI 12 (.zer [.d (.int 0),.nil]),iM 11 48,
 ⟨none,none,.st 2 (.t 12) (.t 50)⟩]) (
 .seq (
 .reg [iM 51 11,iM 52 1,iI 53 (.bin .neq (.t 51) (.t 52)),iM 54 53,iG 55 54 true (.mv (.t 11)),iG 56 54 true (.mv (.t 2)),iG 57 54 true (.bin .neq (.t 55) (.t 56)),iI 58 (.pick (.t 54) (.t 57) (.c (.d (.bool false)))),iM 59 58,iG 60 59 true (.fld 1 (.t 12)),iG 61 59 true (.ld (.t 60)),iG 62 59 true (.mv (.t 9)),iG 63 59 true (.call 75 [(.t 61),(.t 62)]),iI 64 (.pick (.t 59) (.t 63) (.c (.d (.bool false))))]) (
 .cond (.t 64) (
 .reg [iI 10 (.mv (.c (.d (.bool true))))]) (
 .skip))))) (
 .reg [iI 65 (.bin .add (.t 46) (.c (.d (.int 1)))),iM 46 65])))
def L1_impl_orderState_resultLabels:C:=
 .seq (
 .reg [iI 32 (.bin .lss (.t 31) (.t 30))]) (
 .seq (
 .cond (.t 32) (
 .skip) (
 .exit 0)) (
 .seq (
 .block 1 (
 .seq (
 .reg [iI 33 (.idx 1 (.t 29) (.t 31)),iI 34 (.ld (.t 33)),iM 9 34]) (
 .seq (
 .reg [iM 35 0,iI 36 (.nck (.t 35)),iI 37 (.fld 100 (.t 36)),iI 38 (.ld (.t 37)),iM 39 9,iI 40 (.call 75 [(.t 38),(.t 39)]),iM 10 40]) (
 .seq (
 .seq (
 .reg [iM 41 0,iI 42 (.nck (.t 41)),iI 43 (.fld 101 (.t 42)),iI 44 (.ld (.t 43)),iI 45 (.len (.t 44)),iI 46 (.mv (.c (.d (.int 0))))]) (
 .block 2 (
 .loop L0_impl_orderState_resultLabels))) (
 .seq (
 .reg [iM 66 10]) (
 .cond (.t 66) (
 .reg [iM 67 7,iM 68 9,iI 69 (.mksl 1 1 [.d (.int 0)] [(0,1,(.t 68))]),iI 70 (.app 1 8 [.d (.int 0)] (.t 67) (.t 69)),iM 7 70]) (
 .skip))))))) (
 .reg [iI 71 (.bin .add (.t 31) (.c (.d (.int 1)))),iM 31 71])))
def C_impl_orderState_resultLabels:Fun:=⟨3,73,
 .seq (
 .reg [iI 6 (.mv (.c (.nil)))]) (
 .seq (
 .reg [iI 7 (.mv (.c (.nil)))]) (
 .seq (
 .seq (
 .draw [iM 13 0,iI 14 (.nck (.t 13)),iI 15 (.fld 101 (.t 14)),iI 16 (.ld (.t 15)),iM 17 1,iI 18 (.idx 2 (.t 16) (.t 17)),iI 19 (.fld 1 (.t 18)),iI 20 (.ld (.t 19)),iM 21 0,iI 22 (.nck (.t 21)),iI 23 (.fld 101 (.t 22)),iI 24 (.ld (.t 23)),iM 25 2,iI 26 (.idx 2 (.t 24) (.t 25)),iI 27 (.fld 1 (.t 26)),iI 28 (.ld (.t 27)),iI 29 (.call 33 [(.t 20),(.t 28)]),iI 30 (.len (.t 29)),iI 31 (.mv (.c (.d (.int 0))))]
 []) (
 .block 0 (
 .loop L1_impl_orderState_resultLabels))) (
 .seq (
 .reg [iM 72 7,iM 6 72]) (
 .ret)))),
 [.t 6]⟩
theorem fo:cFun Tryz.prog Tryz.f101=some C_impl_orderState_resultLabels.erase:=by kernel_rfl
def C_spec_l02One:Fun:=⟨1,23,
 .seq (
 .reg [iI 1 (.box (.t 0)),iI 2 (.mv (.c (.nil)))]) (
 .seq (
 .reg [iI 4 (.ldn 3 (.t 1)),iI 5 (.call 110 [(.t 4)]),iI 6 (.make 1 8 [.d (.int 0)] (.t 5) (.t 5)),iM 3 6]) (
 .seq (
 .seq (
 .reg [iI 7 (.fld 0 (.t 1)),iI 8 (.ld (.t 7))]) (
 .block 0 (
 .seq (
 .seq (
 .reg [iI 12 (.bin .eql (.t 8) (.c (.d (.int 5)))),iM 11 12]) (
 .cond (.t 11) (
 .skip) (
 .reg [iI 13 (.bin .eql (.t 8) (.c (.d (.int 6)))),iM 11 13]))) (
 .cond (.t 11) (
 .reg [iM 14 3,iI 15 (.ldn 3 (.t 1)),iI 16 (.call 112 [(.t 15)]),iI 17 (.idx 1 (.t 14) (.c (.d (.int 0)))),
 ⟨none,none,.st 1 (.t 17) (.t 16)⟩]) (
 .seq (
 .reg [iI 19 (.bin .eql (.t 8) (.c (.d (.int 4)))),iM 18 19]) (
 .cond (.t 18) (
 .reg [iM 20 3,iI 21 (.idx 1 (.t 20) (.c (.d (.int 0)))),
 ⟨none,none,.st 1 (.t 21) (.c (.d (.int 0)))⟩]) (
 .reg [iM 9 3,iI 10 (.idx 1 (.t 9) (.c (.d (.int 0)))),
 ⟨none,none,.st 1 (.t 10) (.c (.d (.int 1)))⟩]))))))) (
 .seq (
 .reg [iM 22 3,iM 2 22]) (
 .ret)))),
 [.t 2]⟩
theorem rR:cFun Tryz.prog Tryz.f111=some C_spec_l02One.erase:=by kernel_rfl
def C_spec_l02Zero:Fun:=⟨1,15,
 .seq (
 .reg [iI 1 (.box (.t 0)),iI 2 (.mv (.c (.nil)))]) (
 .seq (
 .reg [iI 4 (.ldn 3 (.t 1)),iI 5 (.call 110 [(.t 4)]),iI 6 (.make 1 8 [.d (.int 0)] (.t 5) (.t 5)),iM 3 6]) (
 .seq (
 .seq (
 .reg [iI 7 (.fld 0 (.t 1)),iI 8 (.ld (.t 7)),iI 9 (.bin .eql (.t 8) (.c (.d (.int 4))))]) (
 .cond (.t 9) (
 .reg [iM 10 3,iI 11 (.fld 1 (.t 1)),iI 12 (.ld (.t 11)),iI 13 (.idx 1 (.t 10) (.c (.d (.int 0)))),
 ⟨none,none,.st 1 (.t 13) (.t 12)⟩]) (
 .skip))) (
 .seq (
 .reg [iM 14 3,iM 2 14]) (
 .ret)))),
 [.t 2]⟩
theorem qP:cFun Tryz.prog Tryz.f109=some C_spec_l02Zero.erase:=by kernel_rfl
def L0_spec_l12Labels:C:=
 .seq (
 .seq (
 .reg [iM 6 4,iI 7 (.bin .leq (.t 6) (.c (.d (.int 99))))]) (
 .cond (.t 7) (
 .skip) (
 .exit 0))) (
 .seq (
 .block 1 (
 .seq (
 .reg [iM 10 0,iM 11 4,iI 12 (.call 106 [(.t 10),(.t 11)]),iI 13 (.bin .gtr (.t 12) (.c (.d (.int 0))))]) (
 .cond (.t 13) (
 .reg [iM 14 3,iM 15 4,iI 16 (.mksl 1 1 [.d (.int 0)] [(0,1,(.t 15))]),iI 17 (.app 1 8 [.d (.int 0)] (.t 14) (.t 16)),iM 3 17]) (
 .skip)))) (
 .reg [iM 8 4,iI 9 (.bin .add (.t 8) (.c (.d (.int 1)))),iM 4 9]))
def C_spec_l12Labels:Fun:=⟨1,19,
 .seq (
 .reg [iI 2 (.mv (.c (.nil)))]) (
 .seq (
 .reg [iI 5 (.mksl 1 0 [.d (.int 0)] []),iM 3 5]) (
 .seq (
 .seq (
 .reg [iI 4 (.mv (.c (.d (.int 0))))]) (
 .block 0 (
 .loop L0_spec_l12Labels))) (
 .seq (
 .reg [iM 18 3,iM 2 18]) (
 .ret)))),
 [.t 2]⟩
theorem nG:cFun Tryz.prog Tryz.f65=some C_spec_l12Labels.erase:=by kernel_rfl
def L0_spec_NetworkOk:C:=
 .seq (
 .reg [iI 35 (.bin .lss (.t 34) (.t 33))]) (
 .seq (
 .cond (.t 35) (
 .skip) (
 .exit 2)) (
 .seq (
 .block 3 (
 .seq (
 .reg [iM 36 34,iI 37 (.idx 1 (.t 32) (.t 34)),iI 38 (.ld (.t 37)),iM 5 36,iM 6 38]) (
 .seq (
 .reg [iI 39 (.fld 3 (.t 1)),iI 40 (.ld (.t 39)),iM 41 3,iI 42 (.slc 3 (.t 40) none (some (.t 41))),iM 43 6,iI 44 (.call 106 [(.t 42),(.t 43)]),iM 7 44]) (
 .seq (
 .reg [iM 45 7,iI 46 (.bin .gtr (.t 45) (.c (.d (.int 0)))),iM 47 46,iG 48 47 true (.mv (.t 7)),iG 49 47 true (.fld 1 (.t 4)),iG 50 47 true (.ld (.t 49)),iG 51 47 true (.mv (.t 5)),iG 52 47 true (.idx 1 (.t 50) (.t 51)),iG 53 47 true (.ld (.t 52)),iG 54 47 true (.bin .neq (.t 48) (.t 53)),iI 55 (.pick (.t 47) (.t 54) (.c (.d (.bool false))))]) (
 .cond (.t 55) (
 .seq (
 .reg [iI 2 (.mv (.c (.d (.bool false))))]) (
 .ret)) (
 .skip)))))) (
 .reg [iI 56 (.bin .add (.t 34) (.c (.d (.int 1)))),iM 34 56])))
def L1_spec_NetworkOk:C:=
 .seq (
 .reg [iI 22 (.bin .lss (.t 21) (.t 20))]) (
 .seq (
 .cond (.t 22) (
 .skip) (
 .exit 0)) (
 .seq (
 .block 1 (
 .seq (
 .reg [iM 23 21,iI 24 (.idx 3 (.t 19) (.t 21)),iI 25 (.ldn 3 (.t 24)),iI 4 (.zer [.nil,.nil,.nil]),iM 3 23,
 ⟨none,none,.st 3 (.t 4) (.t 25)⟩]) (
 .seq (
 .seq (
 .reg [iI 26 (.fld 0 (.t 1)),iI 27 (.ldn 3 (.t 26)),iI 28 (.ldn 3 (.t 4)),iI 29 (.call 116 [(.t 27),(.t 28)]),iI 30 (.not (.t 29))]) (
 .cond (.t 30) (
 .seq (
 .reg [iI 2 (.mv (.c (.d (.bool false))))]) (
 .ret)) (
 .skip))) (
 .seq (
 .reg [iI 31 (.fld 0 (.t 4)),iI 32 (.ld (.t 31)),iI 33 (.len (.t 32)),iI 34 (.mv (.c (.d (.int 0))))]) (
 .block 2 (
 .loop L0_spec_NetworkOk)))))) (
 .reg [iI 57 (.bin .add (.t 21) (.c (.d (.int 1)))),iM 21 57])))
def C_spec_NetworkOk:Fun:=⟨1,68,
 .seq (
 .reg [iI 1 (.box (.t 0)),iI 2 (.mv (.c (.d (.bool false))))]) (
 .seq (
 .seq (
 .reg [iI 8 (.fld 0 (.t 1)),iI 9 (.ldn 3 (.t 8)),iI 10 (.call 115 [(.t 9)]),iI 11 (.not (.t 10)),iM 12 11,iG 13 12 false (.fld 3 (.t 1)),iG 14 12 false (.ld (.t 13)),iG 15 12 false (.len (.t 14)),iG 16 12 false (.bin .gtr (.t 15) (.c (.d (.int 12)))),iI 17 (.pick (.t 12) (.c (.d (.bool true))) (.t 16))]) (
 .cond (.t 17) (
 .seq (
 .reg [iI 2 (.mv (.c (.d (.bool false))))]) (
 .ret)) (
 .skip))) (
 .seq (
 .seq (
 .reg [iI 18 (.fld 3 (.t 1)),iI 19 (.ld (.t 18)),iI 20 (.len (.t 19)),iI 21 (.mv (.c (.d (.int 0))))]) (
 .block 0 (
 .loop L1_spec_NetworkOk))) (
 .seq (
 .draw [iI 58 (.fld 4 (.t 1)),iI 59 (.ld (.t 58)),iI 60 (.fld 3 (.t 1)),iI 61 (.ld (.t 60)),iI 62 (.fld 4 (.t 1)),iI 63 (.ld (.t 62)),iI 64 (.call 96 [(.t 61),(.t 63)])]
 [iI 65 (.agg [.nil,.nil,.nil] [(0,1,(.t 59)),(1,1,(.t 64))]),iI 66 (.call 117 [(.t 65)]),iI 67 (.bin .geq (.t 66) (.c (.d (.int 0)))),iM 2 67]) (
 .ret)))),
 [.t 2]⟩
theorem nI:cFun Tryz.prog Tryz.f95=some C_spec_NetworkOk.erase:=by kernel_rfl
def L0_impl_NetworkOk:C:=
 .seq (
 .reg [iI 50 (.bin .lss (.t 49) (.t 48))]) (
 .seq (
 .cond (.t 50) (
 .skip) (
 .exit 2)) (
 .seq (
 .block 3 (
 .seq (
 .reg [iI 51 (.idx 1 (.t 47) (.t 49)),iI 52 (.ld (.t 51)),iM 8 52]) (
 .seq (
 .reg [iM 53 8,iI 54 (.bin .lss (.t 53) (.c (.d (.int 0)))),iM 55 54,iG 56 55 false (.mv (.t 8)),iG 57 55 false (.bin .gtr (.t 56) (.c (.d (.int 99)))),iI 58 (.pick (.t 55) (.c (.d (.bool true))) (.t 57)),iM 59 58,iG 60 59 false (.mv (.t 8)),iG 61 59 false (.aix 1 100 (.t 5) (.t 60)),iG 62 59 false (.ld (.t 61)),iG 63 59 false (.bin .eql (.t 62) (.c (.d (.int 0)))),iI 64 (.pick (.t 59) (.c (.d (.bool true))) (.t 63))]) (
 .cond (.t 64) (
 .seq (
 .reg [iI 2 (.mv (.c (.d (.bool false))))]) (
 .ret)) (
 .skip))))) (
 .reg [iI 65 (.bin .add (.t 49) (.c (.d (.int 1)))),iM 49 65])))
def L1_impl_NetworkOk:C:=
 .seq (
 .reg [iI 29 (.bin .lss (.t 28) (.t 27))]) (
 .seq (
 .cond (.t 29) (
 .skip) (
 .exit 0)) (
 .seq (
 .block 1 (
 .seq (
 .reg [iI 30 (.idx 3 (.t 26) (.t 28)),iI 31 (.ldn 3 (.t 30)),iI 4 (.zer [.nil,.nil,.nil]),
 ⟨none,none,.st 3 (.t 4) (.t 31)⟩]) (
 .seq (
 .reg [iI 32 (.fld 0 (.t 1)),iI 33 (.ldn 3 (.t 32)),iI 34 (.ldn 3 (.t 4)),iI 35 (.call 68 [(.t 33),(.t 34)]),iI 36 (.not (.t 35))]) (
 .cond (.t 36) (
 .seq (
 .reg [iI 2 (.mv (.c (.d (.bool false))))]) (
 .ret)) (
 .skip))))) (
 .reg [iI 37 (.bin .add (.t 28) (.c (.d (.int 1)))),iM 28 37])))
def C_impl_NetworkOk:Fun:=⟨1,72,
 .seq (
 .reg [iI 1 (.box (.t 0)),iI 2 (.mv (.c (.d (.bool false))))]) (
 .seq (
 .seq (
 .reg [iI 9 (.fld 0 (.t 1)),iI 10 (.ldn 3 (.t 9)),iI 11 (.call 67 [(.t 10)]),iI 12 (.not (.t 11)),iM 13 12,iG 14 13 false (.fld 3 (.t 1)),iG 15 13 false (.ld (.t 14)),iG 16 13 false (.len (.t 15)),iG 17 13 false (.bin .gtr (.t 16) (.c (.d (.int 12)))),iI 18 (.pick (.t 13) (.c (.d (.bool true))) (.t 17)),iM 19 18,iG 20 19 false (.fld 4 (.t 1)),iG 21 19 false (.ld (.t 20)),iG 22 19 false (.len (.t 21)),iG 23 19 false (.bin .gtr (.t 22) (.c (.d (.int 12)))),iI 24 (.pick (.t 19) (.c (.d (.bool true))) (.t 23))]) (
 .cond (.t 24) (
 .seq (
 .reg [iI 2 (.mv (.c (.d (.bool false))))]) (
 .ret)) (
 .skip))) (
 .seq (
 .seq (
 .reg [iI 25 (.fld 3 (.t 1)),iI 26 (.ld (.t 25)),iI 27 (.len (.t 26)),iI 28 (.mv (.c (.d (.int 0))))]) (
 .block 0 (
 .loop L1_impl_NetworkOk))) (
 .seq (
 .reg [iI 39 (.fld 3 (.t 1)),iI 40 (.ld (.t 39)),iI 41 (.call 69 [(.t 40)]),iM 38 41,iI 42 (.ext 0 (.t 38)),iI 43 (.ext 1 (.t 38)),iI 5 (.zer (reps 100 (.d (.int 0)))),
 ⟨none,none,.st 100 (.t 5) (.t 42)⟩,iM 6 43]) (
 .seq (
 .seq (
 .reg [iM 44 6,iI 45 (.not (.t 44))]) (
 .cond (.t 45) (
 .seq (
 .reg [iI 2 (.mv (.c (.d (.bool false))))]) (
 .ret)) (
 .skip))) (
 .seq (
 .seq (
 .reg [iI 46 (.fld 4 (.t 1)),iI 47 (.ld (.t 46)),iI 48 (.len (.t 47)),iI 49 (.mv (.c (.d (.int 0))))]) (
 .block 2 (
 .loop L0_impl_NetworkOk))) (
 .seq (
 .reg [iI 66 (.ldn 100 (.t 5)),iI 67 (.fld 4 (.t 1)),iI 68 (.ld (.t 67)),iI 69 (.call 71 [(.t 66),(.t 68)]),iI 70 (.call 70 [(.t 69)]),iI 71 (.bin .neq (.t 70) (.c (.d (.int (-1))))),iM 2 71]) (
 .ret))))))),
 [.t 2]⟩
theorem nU:cFun Tryz.prog Tryz.f29=some C_impl_NetworkOk.erase:=by kernel_rfl
def L0_spec_l12Dim:C:=
 .seq (
 .reg [iI 11 (.bin .lss (.t 10) (.t 9))]) (
 .seq (
 .cond (.t 11) (
 .skip) (
 .exit 0)) (
 .seq (
 .block 1 (
 .seq (
 .reg [iI 12 (.idx 3 (.t 8) (.t 10)),iI 13 (.ldn 3 (.t 12)),iI 6 (.zer [.nil,.nil,.nil]),
 ⟨none,none,.st 3 (.t 6) (.t 13)⟩]) (
 .seq (
 .reg [iI 14 (.fld 0 (.t 6)),iI 15 (.ld (.t 14)),iM 16 1,iI 17 (.call 80 [(.t 15),(.t 16)]),iM 7 17]) (
 .seq (
 .reg [iM 18 7,iI 19 (.bin .geq (.t 18) (.c (.d (.int 0))))]) (
 .cond (.t 19) (
 .seq (
 .reg [iI 20 (.fld 1 (.t 6)),iI 21 (.ld (.t 20)),iM 22 7,iI 23 (.idx 1 (.t 21) (.t 22)),iI 24 (.ld (.t 23)),iM 4 24]) (
 .ret)) (
 .skip)))))) (
 .reg [iI 25 (.bin .add (.t 10) (.c (.d (.int 1)))),iM 10 25])))
def C_spec_l12Dim:Fun:=⟨2,26,
 .seq (
 .reg [iI 4 (.mv (.c (.d (.int 0))))]) (
 .seq (
 .seq (
 .reg [iM 8 0,iI 9 (.len (.t 8)),iI 10 (.mv (.c (.d (.int 0))))]) (
 .block 0 (
 .loop L0_spec_l12Dim))) (
 .seq (
 .reg [iI 4 (.mv (.c (.d (.int 0))))]) (
 .ret))),
 [.t 4]⟩
theorem rN:cFun Tryz.prog Tryz.f106=some C_spec_l12Dim.erase:=by kernel_rfl
def L0_spec_l12Dims:C:=
 .seq (
 .reg [iI 12 (.bin .lss (.t 11) (.t 10))]) (
 .seq (
 .cond (.t 12) (
 .skip) (
 .exit 0)) (
 .seq (
 .block 1 (
 .seq (
 .reg [iI 13 (.idx 1 (.t 9) (.t 11)),iI 14 (.ld (.t 13)),iM 7 14]) (
 .reg [iM 15 5,iM 16 0,iM 17 7,iI 18 (.call 106 [(.t 16),(.t 17)]),iI 19 (.mksl 1 1 [.d (.int 0)] [(0,1,(.t 18))]),iI 20 (.app 1 8 [.d (.int 0)] (.t 15) (.t 19)),iM 5 20]))) (
 .reg [iI 21 (.bin .add (.t 11) (.c (.d (.int 1)))),iM 11 21])))
def C_spec_l12Dims:Fun:=⟨2,23,
 .seq (
 .reg [iI 4 (.mv (.c (.nil)))]) (
 .seq (
 .reg [iI 8 (.mksl 1 0 [.d (.int 0)] []),iM 5 8]) (
 .seq (
 .seq (
 .reg [iM 9 1,iI 10 (.len (.t 9)),iI 11 (.mv (.c (.d (.int 0))))]) (
 .block 0 (
 .loop L0_spec_l12Dims))) (
 .seq (
 .reg [iM 22 5,iM 4 22]) (
 .ret)))),
 [.t 4]⟩
theorem qI:cFun Tryz.prog Tryz.f96=some C_spec_l12Dims.erase:=by kernel_rfl
def L0_impl_dimsOf:C:=
 .seq (
 .reg [iI 19 (.bin .lss (.t 18) (.t 17))]) (
 .seq (
 .cond (.t 19) (
 .skip) (
 .exit 2)) (
 .seq (
 .block 3 (
 .seq (
 .reg [iM 20 18,iI 21 (.idx 1 (.t 16) (.t 18)),iI 22 (.ld (.t 21)),iM 7 20,iM 8 22]) (
 .seq (
 .seq (
 .draw [iM 23 8,iI 24 (.aix 1 100 (.t 4) (.t 23)),iI 25 (.ld (.t 24)),iI 26 (.bin .neq (.t 25) (.c (.d (.int 0)))),iM 27 26,iG 28 27 true (.mv (.t 8)),iG 29 27 true (.aix 1 100 (.t 4) (.t 28)),iG 30 27 true (.ld (.t 29)),iG 31 27 true (.fld 1 (.t 6)),iG 32 27 true (.ld (.t 31)),iG 33 27 true (.mv (.t 7)),iG 34 27 true (.idx 1 (.t 32) (.t 33)),iG 35 27 true (.ld (.t 34))]
 [iG 36 27 true (.bin .neq (.t 30) (.t 35)),iI 37 (.pick (.t 27) (.t 36) (.c (.d (.bool false))))]) (
 .cond (.t 37) (
 .seq (
 .reg [iI 38 (.ldn 100 (.t 4)),
 ⟨none,none,.st 100 (.t 2) (.t 38)⟩,iI 3 (.mv (.c (.d (.bool false))))]) (
 .ret)) (
 .skip))) (
 .reg [iM 39 8,iI 40 (.fld 1 (.t 6)),iI 41 (.ld (.t 40)),iM 42 7,iI 43 (.idx 1 (.t 41) (.t 42)),iI 44 (.ld (.t 43)),iI 45 (.aix 1 100 (.t 4) (.t 39)),
 ⟨none,none,.st 1 (.t 45) (.t 44)⟩])))) (
 .reg [iI 46 (.bin .add (.t 18) (.c (.d (.int 1)))),iM 18 46])))
def L1_impl_dimsOf:C:=
 .seq (
 .reg [iI 12 (.bin .lss (.t 11) (.t 10))]) (
 .seq (
 .cond (.t 12) (
 .skip) (
 .exit 0)) (
 .seq (
 .block 1 (
 .seq (
 .reg [iI 13 (.idx 3 (.t 9) (.t 11)),iI 14 (.ldn 3 (.t 13)),iI 6 (.zer [.nil,.nil,.nil]),
 ⟨none,none,.st 3 (.t 6) (.t 14)⟩]) (
 .seq (
 .reg [iI 15 (.fld 0 (.t 6)),iI 16 (.ld (.t 15)),iI 17 (.len (.t 16)),iI 18 (.mv (.c (.d (.int 0))))]) (
 .block 2 (
 .loop L0_impl_dimsOf))))) (
 .reg [iI 47 (.bin .add (.t 11) (.c (.d (.int 1)))),iM 11 47])))
def C_impl_dimsOf:Fun:=⟨1,49,
 .seq (
 .reg [iI 2 (.zer (reps 100 (.d (.int 0)))),iI 3 (.mv (.c (.d (.bool false))))]) (
 .seq (
 .reg [iI 4 (.zer (reps 100 (.d (.int 0))))]) (
 .seq (
 .seq (
 .reg [iM 9 0,iI 10 (.len (.t 9)),iI 11 (.mv (.c (.d (.int 0))))]) (
 .block 0 (
 .loop L1_impl_dimsOf))) (
 .seq (
 .reg [iI 48 (.ldn 100 (.t 4)),
 ⟨none,none,.st 100 (.t 2) (.t 48)⟩,iI 3 (.mv (.c (.d (.bool true))))]) (
 .ret)))),
 [.cell 2 100,.t 3]⟩
theorem s9:cFun Tryz.prog Tryz.f69=some C_impl_dimsOf.erase:=by kernel_rfl
def L0_impl_axesOf:C:=
 .seq (
 .reg [iI 17 (.bin .lss (.t 16) (.t 15))]) (
 .seq (
 .cond (.t 17) (
 .skip) (
 .exit 0)) (
 .seq (
 .block 1 (
 .seq (
 .reg [iM 18 16,iI 19 (.idx 1 (.t 14) (.t 16)),iI 20 (.ld (.t 19)),iM 6 18,iM 7 20]) (
 .draw [iI 21 (.fld 1 (.t 5)),iI 22 (.ld (.t 21)),iM 23 6,iM 24 7,iI 25 (.aix 1 100 (.t 2) (.t 24)),iI 26 (.ld (.t 25))]
 [iI 27 (.idx 1 (.t 22) (.t 23)),
 ⟨none,none,.st 1 (.t 27) (.t 26)⟩]))) (
 .reg [iI 28 (.bin .add (.t 16) (.c (.d (.int 1)))),iM 16 28])))
def C_impl_axesOf:Fun:=⟨2,30,
 .seq (
 .reg [iI 2 (.box (.t 0)),iI 4 (.zer [.nil,.nil,.nil])]) (
 .seq (
 .draw [iM 8 1,iI 9 (.call 72 [(.t 8)]),iM 10 1,iI 11 (.len (.t 10)),iI 12 (.make 1 8 [.d (.int 0)] (.t 11) (.t 11)),iI 13 (.agg [.nil,.nil,.nil] [(0,1,(.t 9)),(1,1,(.t 12))]),iI 5 (.zer [.nil,.nil,.nil])]
 [⟨none,none,.st 3 (.t 5) (.t 13)⟩]) (
 .seq (
 .seq (
 .reg [iM 14 1,iI 15 (.len (.t 14)),iI 16 (.mv (.c (.d (.int 0))))]) (
 .block 0 (
 .loop L0_impl_axesOf))) (
 .seq (
 .reg [iI 29 (.ldn 3 (.t 5)),
 ⟨none,none,.st 3 (.t 4) (.t 29)⟩]) (
 .ret)))),
 [.cell 4 3]⟩
theorem sb:cFun Tryz.prog Tryz.f71=some C_impl_axesOf.erase:=by kernel_rfl
def C_impl_SortOrder:Fun:=⟨2,27,
 .seq (
 .reg [iI 2 (.box (.t 0)),iI 4 (.mv (.c (.nil))),iI 5 (.mv (.c (.d (.bool false))))]) (
 .seq (
 .seq (
 .reg [iI 8 (.ldn 5 (.t 2)),iM 9 1,iI 10 (.call 25 [(.t 8),(.t 9)]),iI 11 (.not (.t 10))]) (
 .cond (.t 11) (
 .seq (
 .reg [iI 4 (.mv (.c (.nil))),iI 5 (.mv (.c (.d (.bool false))))]) (
 .ret)) (
 .skip))) (
 .seq (
 .gh (.reg [iI 6 (.zer [.nil])])) (
 .seq (
 .seq (
 .reg [iM 12 1,iI 13 (.len (.t 12)),iI 14 (.bin .gtr (.t 13) (.c (.d (.int 0))))]) (
 .cond (.t 14) (
 .seq (
 .reg [iI 15 (.fld 3 (.t 2)),iI 16 (.ld (.t 15)),iI 17 (.len (.t 16)),iM 7 17]) (
 .reg [iM 18 7,iM 19 1,iM 20 7,iM 21 1,iI 22 (.len (.t 21)),iI 23 (.bin .add (.t 20) (.t 22)),iI 24 (.bin .sub (.t 23) (.c (.d (.int 1)))),iI 25 (.call 54 [(.t 18),(.t 19),(.t 24),(.t 6)])])) (
 .skip))) (
 .seq (
 .reg [iI 26 (.ld (.t 6)),iM 4 26,iI 5 (.mv (.c (.d (.bool true))))]) (
 .ret))))),
 [.t 4,.t 5]⟩
theorem nR:cFun Tryz.prog Tryz.f19=some C_impl_SortOrder.erase:=by kernel_rfl
def L0_impl_allIn:C:=
 .seq (
 .reg [iI 10 (.bin .lss (.t 9) (.t 8))]) (
 .seq (
 .cond (.t 10) (
 .skip) (
 .exit 0)) (
 .seq (
 .block 1 (
 .seq (
 .reg [iI 11 (.idx 1 (.t 7) (.t 9)),iI 12 (.ld (.t 11)),iM 6 12]) (
 .seq (
 .reg [iM 13 1,iM 14 6,iI 15 (.call 75 [(.t 13),(.t 14)]),iI 16 (.not (.t 15))]) (
 .cond (.t 16) (
 .seq (
 .reg [iI 4 (.mv (.c (.d (.bool false))))]) (
 .ret)) (
 .skip))))) (
 .reg [iI 17 (.bin .add (.t 9) (.c (.d (.int 1)))),iM 9 17])))
def C_impl_allIn:Fun:=⟨2,18,
 .seq (
 .reg [iI 4 (.mv (.c (.d (.bool false))))]) (
 .seq (
 .seq (
 .reg [iM 7 0,iI 8 (.len (.t 7)),iI 9 (.mv (.c (.d (.int 0))))]) (
 .block 0 (
 .loop L0_impl_allIn))) (
 .seq (
 .reg [iI 4 (.mv (.c (.d (.bool true))))]) (
 .ret))),
 [.t 4]⟩
theorem uy:cFun Tryz.prog Tryz.f102=some C_impl_allIn.erase:=by kernel_rfl
def C_impl_sortSteps:Fun:=⟨4,58,
 .seq (
 .reg [iI 8 (.mv (.c (.d (.int 0))))]) (
 .seq (
 .seq (
 .reg [iM 11 2,iM 12 0,iI 13 (.bin .lss (.t 11) (.t 12))]) (
 .cond (.t 13) (
 .seq (
 .reg [iM 14 2,iM 8 14]) (
 .ret)) (
 .skip))) (
 .seq (
 .reg [iM 15 0,iM 16 1,iM 17 1,iM 18 2,iM 19 0,iI 20 (.bin .sub (.t 18) (.t 19)),iI 21 (.idx 2 (.t 17) (.t 20)),iI 22 (.fld 0 (.t 21)),iI 23 (.ld (.t 22)),iM 24 3,iI 25 (.call 54 [(.t 15),(.t 16),(.t 23),(.t 24)]),iM 9 25]) (
 .seq (
 .reg [iM 26 0,iM 27 1,iM 28 1,iM 29 2,iM 30 0,iI 31 (.bin .sub (.t 29) (.t 30)),iI 32 (.idx 2 (.t 28) (.t 31)),iI 33 (.fld 1 (.t 32)),iI 34 (.ld (.t 33)),iM 35 3,iI 36 (.call 54 [(.t 26),(.t 27),(.t 34),(.t 35)]),iM 10 36]) (
 .seq (
 .reg [iM 37 3,iM 38 3,iI 39 (.nck (.t 38)),iI 40 (.ld (.t 39)),iM 41 9,iM 42 10,iI 43 (.mnx false (.t 41) (.t 42)),iM 44 9,iM 45 10,iI 46 (.mnx true (.t 44) (.t 45)),iI 47 (.agg [.d (.int 0),.d (.int 0)] [(0,1,(.t 43)),(1,1,(.t 46))]),iI 48 (.mksl 2 1 [.d (.int 0),.d (.int 0)] [(0,2,(.t 47))]),iI 49 (.app 2 16 [.d (.int 0),.d (.int 0)] (.t 40) (.t 48)),iI 50 (.nck (.t 37)),
 ⟨none,none,.st 1 (.t 50) (.t 49)⟩]) (
 .seq (
 .reg [iM 51 0,iM 52 3,iI 53 (.nck (.t 52)),iI 54 (.ld (.t 53)),iI 55 (.len (.t 54)),iI 56 (.bin .add (.t 51) (.t 55)),iI 57 (.bin .sub (.t 56) (.c (.d (.int 1)))),iM 8 57]) (
 .ret)))))),
 [.t 8]⟩
theorem nL:cFun Tryz.prog Tryz.f54=some C_impl_sortSteps.erase:=by kernel_rfl
def L0_impl_randomSteps:C:=
 .seq (
 .seq (
 .reg [iM 31 8,iM 32 7,iI 33 (.bin .sub (.t 32) (.c (.d (.int 1)))),iM 34 9,iI 35 (.bin .sub (.t 33) (.t 34)),iI 36 (.bin .geq (.t 31) (.t 35))]) (
 .cond (.t 36) (
 .skip) (
 .exit 2))) (
 .block 3 (
 .seq (
 .reg [iM 37 8,iM 38 7,iI 39 (.bin .sub (.t 38) (.c (.d (.int 1)))),iM 40 9,iI 41 (.bin .sub (.t 39) (.t 40)),iI 42 (.bin .sub (.t 37) (.t 41)),iM 8 42]) (
 .reg [iM 43 9,iI 44 (.bin .add (.t 43) (.c (.d (.int 1)))),iM 9 44])))
def L1_impl_randomSteps:C:=
 .seq (
 .seq (
 .reg [iM 10 0,iI 11 (.nck (.t 10)),iI 12 (.fld 101 (.t 11)),iI 13 (.ld (.t 12)),iI 14 (.len (.t 13)),iI 15 (.bin .gtr (.t 14) (.c (.d (.int 1))))]) (
 .cond (.t 15) (
 .skip) (
 .exit 0))) (
 .block 1 (
 .seq (
 .reg [iM 16 1,iI 17 (.call 49 [(.t 16)]),iM 1 17]) (
 .seq (
 .reg [iM 18 0,iI 19 (.nck (.t 18)),iI 20 (.fld 101 (.t 19)),iI 21 (.ld (.t 20)),iI 22 (.len (.t 21)),iM 7 22]) (
 .seq (
 .reg [iM 23 1,iI 24 (.bin .quo (.t 23) (.c (.d (.int 65536)))),iM 25 7,iM 26 7,iI 27 (.bin .sub (.t 26) (.c (.d (.int 1)))),iI 28 (.bin .mul (.t 25) (.t 27)),iI 29 (.bin .quo (.t 28) (.c (.d (.int 2)))),iI 30 (.bin .rem (.t 24) (.t 29)),iM 8 30]) (
 .seq (
 .reg [iI 9 (.mv (.c (.d (.int 0))))]) (
 .seq (
 .block 2 (
 .loop L0_impl_randomSteps)) (
 .reg [iM 45 6,iM 46 0,iM 47 9,iM 48 9,iI 49 (.bin .add (.t 48) (.c (.d (.int 1)))),iM 50 8,iI 51 (.bin .add (.t 49) (.t 50)),iI 52 (.call 100 [(.t 46),(.t 47),(.t 51)]),iI 53 (.mksl 2 1 [.d (.int 0),.d (.int 0)] [(0,2,(.t 52))]),iI 54 (.app 2 16 [.d (.int 0),.d (.int 0)] (.t 45) (.t 53)),iM 6 54])))))))
def C_impl_randomSteps:Fun:=⟨2,57,
 .seq (
 .reg [iI 4 (.mv (.c (.nil))),iI 5 (.mv (.c (.d (.int 0))))]) (
 .seq (
 .reg [iI 6 (.mv (.c (.nil)))]) (
 .seq (
 .block 0 (
 .loop L1_impl_randomSteps)) (
 .seq (
 .reg [iM 55 6,iM 56 1,iM 4 55,iM 5 56]) (
 .ret)))),
 [.t 4,.t 5]⟩
theorem lD:cFun Tryz.prog Tryz.f52=some C_impl_randomSteps.erase:=by kernel_rfl
def L0_impl_cappedProduct:C:=
 .seq (
 .reg [iI 11 (.bin .lss (.t 10) (.t 9))]) (
 .seq (
 .cond (.t 11) (
 .skip) (
 .exit 0)) (
 .seq (
 .block 1 (
 .seq (
 .reg [iI 12 (.idx 1 (.t 8) (.t 10)),iI 13 (.ld (.t 12)),iM 7 13]) (
 .reg [iM 14 5,iM 15 7,iI 16 (.bin .mul (.t 14) (.t 15)),iM 17 1,iI 18 (.mnx false (.t 16) (.t 17)),iM 5 18]))) (
 .reg [iI 19 (.bin .add (.t 10) (.c (.d (.int 1)))),iM 10 19])))
def C_impl_cappedProduct:Fun:=⟨2,21,
 .seq (
 .reg [iI 4 (.mv (.c (.d (.int 0))))]) (
 .seq (
 .reg [iI 5 (.mv (.c (.d (.int 1))))]) (
 .seq (
 .seq (
 .reg [iM 8 0,iI 9 (.len (.t 8)),iI 10 (.mv (.c (.d (.int 0))))]) (
 .block 0 (
 .loop L0_impl_cappedProduct))) (
 .seq (
 .reg [iM 20 5,iM 4 20]) (
 .ret)))),
 [.t 4]⟩
theorem kc:cFun Tryz.prog Tryz.f104=some C_impl_cappedProduct.erase:=by kernel_rfl
def C_impl_NextSeed:Fun:=⟨1,8,
 .seq (
 .reg [iI 2 (.mv (.c (.d (.int 0))))]) (
 .seq (
 .reg [iM 3 0,iI 4 (.bin .and (.t 3) (.c (.d (.int 2147483647)))),iI 5 (.bin .mul (.c (.d (.int 1103515245))) (.t 4)),iI 6 (.bin .add (.t 5) (.c (.d (.int 12345)))),iI 7 (.bin .and (.t 6) (.c (.d (.int 2147483647)))),iM 2 7]) (
 .ret)),
 [.t 2]⟩
theorem ph:cFun Tryz.prog Tryz.f49=some C_impl_NextSeed.erase:=by kernel_rfl
def L0_impl_keptOnly:C:=
 .seq (
 .reg [iI 11 (.bin .lss (.t 10) (.t 9))]) (
 .seq (
 .cond (.t 11) (
 .skip) (
 .exit 0)) (
 .seq (
 .block 1 (
 .seq (
 .reg [iI 12 (.idx 1 (.t 8) (.t 10)),iI 13 (.ld (.t 12)),iM 7 13]) (
 .seq (
 .reg [iM 14 1,iM 15 7,iI 16 (.call 75 [(.t 14),(.t 15)])]) (
 .cond (.t 16) (
 .reg [iM 17 5,iM 18 7,iI 19 (.mksl 1 1 [.d (.int 0)] [(0,1,(.t 18))]),iI 20 (.app 1 8 [.d (.int 0)] (.t 17) (.t 19)),iM 5 20]) (
 .skip))))) (
 .reg [iI 21 (.bin .add (.t 10) (.c (.d (.int 1)))),iM 10 21])))
def C_impl_keptOnly:Fun:=⟨2,23,
 .seq (
 .reg [iI 4 (.mv (.c (.nil)))]) (
 .seq (
 .reg [iI 5 (.mv (.c (.nil)))]) (
 .seq (
 .seq (
 .reg [iM 8 0,iI 9 (.len (.t 8)),iI 10 (.mv (.c (.d (.int 0))))]) (
 .block 0 (
 .loop L0_impl_keptOnly))) (
 .seq (
 .reg [iM 22 5,iM 4 22]) (
 .ret)))),
 [.t 4]⟩
theorem pe:cFun Tryz.prog Tryz.f86=some C_impl_keptOnly.erase:=by kernel_rfl
def L0_impl_fillTensor:C:=
 .seq (
 .seq (
 .reg [iM 25 11,iM 26 10,iI 27 (.bin .lss (.t 25) (.t 26))]) (
 .cond (.t 27) (
 .skip) (
 .exit 0))) (
 .seq (
 .block 1 (
 .reg [iI 30 (.fld 2 (.t 9)),iI 31 (.ld (.t 30)),iM 32 3,iI 33 (.app 1 8 [.d (.int 0)] (.t 31) (.t 32)),iI 34 (.fld 2 (.t 9)),
 ⟨none,none,.st 1 (.t 34) (.t 33)⟩])) (
 .reg [iM 28 11,iI 29 (.bin .add (.t 28) (.c (.d (.int 1)))),iM 11 29]))
def C_impl_fillTensor:Fun:=⟨4,36,
 .seq (
 .reg [iI 4 (.box (.t 0)),iI 8 (.zer [.nil,.nil,.nil])]) (
 .seq (
 .reg [iM 12 1,iI 13 (.call 72 [(.t 12)]),iM 14 2,iI 15 (.call 72 [(.t 14)]),iI 16 (.agg [.nil,.nil,.nil] [(0,1,(.t 13)),(1,1,(.t 15))]),iI 9 (.zer [.nil,.nil,.nil]),
 ⟨none,none,.st 3 (.t 9) (.t 16)⟩]) (
 .seq (
 .reg [iM 17 2,iI 18 (.call 42 [(.t 17)]),iM 10 18]) (
 .seq (
 .reg [iM 19 10,iM 20 3,iI 21 (.len (.t 20)),iI 22 (.bin .mul (.t 19) (.t 21)),iI 23 (.make 1 8 [.d (.int 0)] (.c (.d (.int 0))) (.t 22)),iI 24 (.fld 2 (.t 9)),
 ⟨none,none,.st 1 (.t 24) (.t 23)⟩]) (
 .seq (
 .seq (
 .reg [iI 11 (.mv (.c (.d (.int 0))))]) (
 .block 0 (
 .loop L0_impl_fillTensor))) (
 .seq (
 .reg [iI 35 (.ldn 3 (.t 9)),
 ⟨none,none,.st 3 (.t 8) (.t 35)⟩]) (
 .ret)))))),
 [.cell 8 3]⟩
theorem mB:cFun Tryz.prog Tryz.f31=some C_impl_fillTensor.erase:=by kernel_rfl
def L0_spec_l05Zero:C:=
 .seq (
 .seq (
 .reg [iM 16 8,iI 17 (.bin .gtr (.t 16) (.c (.d (.int 0))))]) (
 .cond (.t 17) (
 .skip) (
 .exit 0))) (
 .seq (
 .block 1 (
 .draw [iI 20 (.fld 2 (.t 7)),iI 21 (.ld (.t 20)),iI 22 (.ldn 3 (.t 3)),iI 23 (.call 109 [(.t 22)])]
 [iI 24 (.app 1 8 [.d (.int 0)] (.t 21) (.t 23)),iI 25 (.fld 2 (.t 7)),
 ⟨none,none,.st 1 (.t 25) (.t 24)⟩])) (
 .reg [iM 18 8,iI 19 (.bin .sub (.t 18) (.c (.d (.int 1)))),iM 8 19]))
def C_spec_l05Zero:Fun:=⟨3,27,
 .seq (
 .reg [iI 3 (.box (.t 0)),iI 6 (.zer [.nil,.nil,.nil])]) (
 .seq (
 .reg [iM 9 1,iI 10 (.call 81 [(.t 9)]),iM 11 2,iI 12 (.call 81 [(.t 11)]),iI 13 (.agg [.nil,.nil,.nil] [(0,1,(.t 10)),(1,1,(.t 12))]),iI 7 (.zer [.nil,.nil,.nil]),
 ⟨none,none,.st 3 (.t 7) (.t 13)⟩]) (
 .seq (
 .seq (
 .reg [iM 14 2,iI 15 (.call 77 [(.t 14),(.c (.d (.int 4096)))]),iM 8 15]) (
 .block 0 (
 .loop L0_spec_l05Zero))) (
 .seq (
 .reg [iI 26 (.ldn 3 (.t 7)),
 ⟨none,none,.st 3 (.t 6) (.t 26)⟩]) (
 .ret)))),
 [.cell 6 3]⟩
theorem qJ:cFun Tryz.prog Tryz.f76=some C_spec_l05Zero.erase:=by kernel_rfl
def L0_impl_ContractPair:C:=
 .block 5 (
 .seq (
 .draw [iI 112 (.ldn 3 (.t 4)),iM 113 23,iI 114 (.ldn 3 (.t 4)),iI 115 (.ldn 3 (.t 5)),iM 116 19,iM 117 22,iI 118 (.call 90 [(.t 116),(.t 117)]),iI 119 (.call 44 [(.t 114),(.t 115),(.t 118)]),iI 120 (.ldn 3 (.t 4)),iI 121 (.ldn 3 (.t 6)),iM 122 20,iM 123 22,iI 124 (.call 90 [(.t 122),(.t 123)]),iI 125 (.call 44 [(.t 120),(.t 121),(.t 124)])]
 [iI 126 (.call 89 [(.t 112),(.t 113),(.t 119),(.t 125)])]) (
 .seq (
 .draw [iI 127 (.ldn 3 (.t 4)),iI 128 (.ldn 3 (.t 4)),iI 129 (.ldn 3 (.t 14)),iM 130 21,iM 131 22,iI 132 (.call 90 [(.t 130),(.t 131)]),iI 133 (.call 44 [(.t 128),(.t 129),(.t 132)]),iM 134 23]
 [iI 135 (.call 43 [(.t 127),(.t 133),(.t 134)])]) (
 .seq (
 .reg [iM 136 11,iM 137 22,iI 138 (.call 91 [(.t 136),(.t 137)]),iI 139 (.not (.t 138))]) (
 .cond (.t 139) (
 .seq (
 .reg [iI 140 (.ldn 3 (.t 14)),
 ⟨none,none,.st 3 (.t 8) (.t 140)⟩,iI 9 (.mv (.c (.d (.bool true))))]) (
 .ret)) (
 .skip)))))
def L1_impl_ContractPair:C:=
 .seq (
 .reg [iI 68 (.bin .lss (.t 67) (.t 66))]) (
 .seq (
 .cond (.t 68) (
 .skip) (
 .exit 2)) (
 .seq (
 .block 3 (
 .seq (
 .reg [iM 69 67,iI 70 (.idx 1 (.t 65) (.t 67)),iI 71 (.ld (.t 70)),iM 17 69,iM 18 71]) (
 .seq (
 .reg [iM 72 18,iM 73 16,iI 74 (.bin .eql (.t 72) (.t 73))]) (
 .cond (.t 74) (
 .draw [iI 75 (.fld 1 (.t 14)),iI 76 (.ld (.t 75)),iM 77 15,iM 78 11,iM 79 17,iI 80 (.idx 1 (.t 78) (.t 79)),iI 81 (.ld (.t 80))]
 [iI 82 (.idx 1 (.t 76) (.t 77)),
 ⟨none,none,.st 1 (.t 82) (.t 81)⟩]) (
 .skip))))) (
 .reg [iI 83 (.bin .add (.t 67) (.c (.d (.int 1)))),iM 67 83])))
def L2_impl_ContractPair:C:=
 .seq (
 .reg [iI 61 (.bin .lss (.t 60) (.t 59))]) (
 .seq (
 .cond (.t 61) (
 .skip) (
 .exit 0)) (
 .seq (
 .block 1 (
 .seq (
 .reg [iM 62 60,iI 63 (.idx 1 (.t 58) (.t 60)),iI 64 (.ld (.t 63)),iM 15 62,iM 16 64]) (
 .seq (
 .reg [iM 65 10,iI 66 (.len (.t 65)),iI 67 (.mv (.c (.d (.int 0))))]) (
 .block 2 (
 .loop L1_impl_ContractPair))))) (
 .reg [iI 84 (.bin .add (.t 60) (.c (.d (.int 1)))),iM 60 84])))
def C_impl_ContractPair:Fun:=⟨4,141,
 .seq (
 .reg [iI 4 (.box (.t 0)),iI 5 (.box (.t 1)),iI 6 (.box (.t 2)),iI 8 (.zer [.nil,.nil,.nil]),iI 9 (.mv (.c (.d (.bool false))))]) (
 .seq (
 .seq (
 .reg [iI 24 (.ldn 3 (.t 4)),iI 25 (.ldn 3 (.t 5)),iI 26 (.call 68 [(.t 24),(.t 25)]),iI 27 (.not (.t 26)),iM 28 27,iG 29 28 false (.ldn 3 (.t 4)),iG 30 28 false (.ldn 3 (.t 6)),iG 31 28 false (.call 68 [(.t 29),(.t 30)]),iG 32 28 false (.not (.t 31)),iI 33 (.pick (.t 28) (.c (.d (.bool true))) (.t 32))]) (
 .cond (.t 33) (
 .seq (
 .reg [iI 34 (.agg [.nil,.nil,.nil] []),
 ⟨none,none,.st 3 (.t 8) (.t 34)⟩,iI 9 (.mv (.c (.d (.bool false))))]) (
 .ret)) (
 .skip))) (
 .seq (
 .reg [iI 36 (.ldn 3 (.t 5)),iI 37 (.ldn 3 (.t 6)),iI 38 (.call 85 [(.t 36),(.t 37)]),iM 35 38,iI 39 (.ext 0 (.t 35)),iI 40 (.ext 1 (.t 35)),iI 41 (.ext 2 (.t 35)),iM 10 39,iM 11 40,iM 12 41]) (
 .seq (
 .seq (
 .reg [iM 42 12,iI 43 (.not (.t 42)),iM 44 43,iG 45 44 false (.mv (.t 11)),iG 46 44 false (.call 42 [(.t 45)]),iG 47 44 false (.bin .gtr (.t 46) (.c (.d (.int 65536)))),iI 48 (.pick (.t 44) (.c (.d (.bool true))) (.t 47))]) (
 .cond (.t 48) (
 .seq (
 .reg [iI 49 (.agg [.nil,.nil,.nil] []),
 ⟨none,none,.st 3 (.t 8) (.t 49)⟩,iI 9 (.mv (.c (.d (.bool false))))]) (
 .ret)) (
 .skip))) (
 .seq (
 .reg [iM 50 10,iM 51 3,iI 52 (.call 86 [(.t 50),(.t 51)]),iM 13 52]) (
 .seq (
 .reg [iM 53 13,iM 54 13,iI 55 (.len (.t 54)),iI 56 (.make 1 8 [.d (.int 0)] (.t 55) (.t 55)),iI 57 (.agg [.nil,.nil,.nil] [(0,1,(.t 53)),(1,1,(.t 56))]),iI 14 (.zer [.nil,.nil,.nil]),
 ⟨none,none,.st 3 (.t 14) (.t 57)⟩]) (
 .seq (
 .seq (
 .reg [iM 58 13,iI 59 (.len (.t 58)),iI 60 (.mv (.c (.d (.int 0))))]) (
 .block 0 (
 .loop L2_impl_ContractPair))) (
 .seq (
 .seq (
 .reg [iI 85 (.ldn 3 (.t 14)),iI 86 (.call 70 [(.t 85)]),iI 87 (.bin .eql (.t 86) (.c (.d (.int (-1)))))]) (
 .cond (.t 87) (
 .seq (
 .reg [iI 88 (.agg [.nil,.nil,.nil] []),
 ⟨none,none,.st 3 (.t 8) (.t 88)⟩,iI 9 (.mv (.c (.d (.bool false))))]) (
 .ret)) (
 .skip))) (
 .seq (
 .draw [iI 89 (.ldn 3 (.t 4)),iI 90 (.fld 0 (.t 14)),iI 91 (.ld (.t 90)),iI 92 (.fld 1 (.t 14)),iI 93 (.ld (.t 92)),iI 94 (.ldn 3 (.t 4)),iI 95 (.call 87 [(.t 94)])]
 [iI 96 (.call 31 [(.t 89),(.t 91),(.t 93),(.t 95)]),
 ⟨none,none,.st 3 (.t 14) (.t 96)⟩]) (
 .seq (
 .draw [iI 97 (.ldn 3 (.t 5)),iM 98 10,iI 99 (.call 88 [(.t 97),(.t 98)]),iI 100 (.ldn 3 (.t 6)),iM 101 10,iI 102 (.call 88 [(.t 100),(.t 101)]),iI 103 (.ldn 3 (.t 14)),iM 104 10]
 [iI 105 (.call 88 [(.t 103),(.t 104)]),iM 19 99,iM 20 102,iM 21 105]) (
 .seq (
 .reg [iM 106 10,iI 107 (.len (.t 106)),iI 108 (.make 1 8 [.d (.int 0)] (.t 107) (.t 107)),iM 22 108]) (
 .seq (
 .reg [iI 109 (.ldn 3 (.t 4)),iI 110 (.call 73 [(.t 109)]),iI 111 (.make 1 8 [.d (.int 0)] (.t 110) (.t 110)),iM 23 111]) (
 .block 4 (
 .loop L0_impl_ContractPair))))))))))))),
 [.cell 8 3,.t 9]⟩
theorem l3:cFun Tryz.prog Tryz.f38=some C_impl_ContractPair.erase:=by kernel_rfl
def L0_impl_addInto:C:=
 .seq (
 .reg [iI 12 (.bin .lss (.t 11) (.t 10))]) (
 .seq (
 .cond (.t 12) (
 .skip) (
 .exit 1)) (
 .seq (
 .block 2 (
 .seq (
 .reg [iM 13 11,iM 6 13]) (
 .draw [iM 14 1,iM 15 6,iM 16 1,iM 17 6,iI 18 (.idx 1 (.t 16) (.t 17)),iI 19 (.ld (.t 18)),iM 20 2,iM 21 6,iI 22 (.idx 1 (.t 20) (.t 21)),iI 23 (.ld (.t 22)),iI 24 (.bin .add (.t 19) (.t 23)),iI 25 (.fld 1 (.t 3)),iI 26 (.ld (.t 25)),iI 27 (.bin .rem (.t 24) (.t 26))]
 [iI 28 (.idx 1 (.t 14) (.t 15)),
 ⟨none,none,.st 1 (.t 28) (.t 27)⟩]))) (
 .reg [iI 29 (.bin .add (.t 11) (.c (.d (.int 1)))),iM 11 29])))
def C_impl_addInto:Fun:=⟨3,77,
 .seq (
 .reg [iI 3 (.box (.t 0))]) (
 .seq (
 .reg [iI 7 (.fld 0 (.t 3)),iI 8 (.ld (.t 7))]) (
 .block 0 (
 .seq (
 .seq (
 .reg [iI 31 (.bin .eql (.t 8) (.c (.d (.int 1)))),iM 30 31]) (
 .cond (.t 30) (
 .skip) (
 .reg [iI 32 (.bin .eql (.t 8) (.c (.d (.int 5)))),iM 30 32]))) (
 .cond (.t 30) (
 .draw [iM 33 1,iM 34 1,iI 35 (.idx 1 (.t 34) (.c (.d (.int 0)))),iI 36 (.ld (.t 35)),iM 37 2,iI 38 (.idx 1 (.t 37) (.c (.d (.int 0)))),iI 39 (.ld (.t 38)),iI 40 (.mnx true (.t 36) (.t 39))]
 [iI 41 (.idx 1 (.t 33) (.c (.d (.int 0)))),
 ⟨none,none,.st 1 (.t 41) (.t 40)⟩]) (
 .seq (
 .reg [iI 43 (.bin .eql (.t 8) (.c (.d (.int 3)))),iM 42 43]) (
 .cond (.t 42) (
 .draw [iM 44 1,iM 45 1,iI 46 (.idx 1 (.t 45) (.c (.d (.int 0)))),iI 47 (.ld (.t 46)),iM 48 2,iI 49 (.idx 1 (.t 48) (.c (.d (.int 0)))),iI 50 (.ld (.t 49)),iI 51 (.bin .add (.t 47) (.t 50)),iI 52 (.fld 1 (.t 3)),iI 53 (.ld (.t 52)),iI 54 (.mnx false (.t 51) (.t 53))]
 [iI 55 (.idx 1 (.t 44) (.c (.d (.int 0)))),
 ⟨none,none,.st 1 (.t 55) (.t 54)⟩]) (
 .seq (
 .reg [iI 57 (.bin .eql (.t 8) (.c (.d (.int 4)))),iM 56 57]) (
 .cond (.t 56) (
 .draw [iM 58 1,iM 59 1,iI 60 (.idx 1 (.t 59) (.c (.d (.int 0)))),iI 61 (.ld (.t 60)),iM 62 2,iI 63 (.idx 1 (.t 62) (.c (.d (.int 0)))),iI 64 (.ld (.t 63)),iI 65 (.mnx false (.t 61) (.t 64))]
 [iI 66 (.idx 1 (.t 58) (.c (.d (.int 0)))),
 ⟨none,none,.st 1 (.t 66) (.t 65)⟩]) (
 .seq (
 .reg [iI 68 (.bin .eql (.t 8) (.c (.d (.int 6)))),iM 67 68]) (
 .cond (.t 67) (
 .draw [iM 69 1,iI 70 (.idx 1 (.t 69) (.c (.d (.int 0)))),iI 71 (.ld (.t 70)),iM 72 2,iI 73 (.idx 1 (.t 72) (.c (.d (.int 0)))),iI 74 (.ld (.t 73))]
 [iI 75 (.bin .or (.t 71) (.t 74)),iI 76 (.idx 1 (.t 69) (.c (.d (.int 0)))),
 ⟨none,none,.st 1 (.t 76) (.t 75)⟩]) (
 .seq (
 .reg [iM 9 1,iI 10 (.len (.t 9)),iI 11 (.mv (.c (.d (.int 0))))]) (
 .block 1 (
 .loop L0_impl_addInto))))))))))))),
 []⟩
theorem qX:cFun Tryz.prog Tryz.f43=some C_impl_addInto.erase:=by kernel_rfl
def L0_spec_l02Add:C:=
 .seq (
 .reg [iI 15 (.bin .lss (.t 14) (.t 13))]) (
 .seq (
 .cond (.t 15) (
 .skip) (
 .exit 0)) (
 .seq (
 .block 1 (
 .seq (
 .reg [iM 16 14,iM 8 16]) (
 .seq (
 .reg [iI 17 (.fld 0 (.t 3)),iI 18 (.ld (.t 17))]) (
 .block 2 (
 .seq (
 .seq (
 .reg [iI 35 (.bin .eql (.t 18) (.c (.d (.int 1)))),iM 34 35]) (
 .cond (.t 34) (
 .skip) (
 .reg [iI 36 (.bin .eql (.t 18) (.c (.d (.int 6)))),iM 34 36]))) (
 .cond (.t 34) (
 .draw [iM 37 7,iM 38 8,iM 39 1,iM 40 8,iI 41 (.idx 1 (.t 39) (.t 40)),iI 42 (.ld (.t 41)),iM 43 2,iM 44 8,iI 45 (.idx 1 (.t 43) (.t 44)),iI 46 (.ld (.t 45)),iI 47 (.bin .or (.t 42) (.t 46))]
 [iI 48 (.idx 1 (.t 37) (.t 38)),
 ⟨none,none,.st 1 (.t 48) (.t 47)⟩]) (
 .seq (
 .reg [iI 50 (.bin .eql (.t 18) (.c (.d (.int 3)))),iM 49 50]) (
 .cond (.t 49) (
 .draw [iM 51 7,iM 52 8,iM 53 1,iM 54 8,iI 55 (.idx 1 (.t 53) (.t 54)),iI 56 (.ld (.t 55)),iM 57 2,iM 58 8,iI 59 (.idx 1 (.t 57) (.t 58)),iI 60 (.ld (.t 59)),iI 61 (.bin .add (.t 56) (.t 60)),iI 62 (.fld 1 (.t 3)),iI 63 (.ld (.t 62)),iI 64 (.mnx false (.t 61) (.t 63))]
 [iI 65 (.idx 1 (.t 51) (.t 52)),
 ⟨none,none,.st 1 (.t 65) (.t 64)⟩]) (
 .seq (
 .reg [iI 67 (.bin .eql (.t 18) (.c (.d (.int 4)))),iM 66 67]) (
 .cond (.t 66) (
 .draw [iM 68 7,iM 69 8,iM 70 1,iM 71 8,iI 72 (.idx 1 (.t 70) (.t 71)),iI 73 (.ld (.t 72)),iM 74 2,iM 75 8,iI 76 (.idx 1 (.t 74) (.t 75)),iI 77 (.ld (.t 76)),iI 78 (.mnx false (.t 73) (.t 77))]
 [iI 79 (.idx 1 (.t 68) (.t 69)),
 ⟨none,none,.st 1 (.t 79) (.t 78)⟩]) (
 .seq (
 .reg [iI 81 (.bin .eql (.t 18) (.c (.d (.int 5)))),iM 80 81]) (
 .cond (.t 80) (
 .draw [iM 82 7,iM 83 8,iM 84 1,iM 85 8,iI 86 (.idx 1 (.t 84) (.t 85)),iI 87 (.ld (.t 86)),iM 88 2,iM 89 8,iI 90 (.idx 1 (.t 88) (.t 89)),iI 91 (.ld (.t 90)),iI 92 (.mnx true (.t 87) (.t 91))]
 [iI 93 (.idx 1 (.t 82) (.t 83)),
 ⟨none,none,.st 1 (.t 93) (.t 92)⟩]) (
 .draw [iM 19 7,iM 20 8,iM 21 1,iM 22 8,iI 23 (.idx 1 (.t 21) (.t 22)),iI 24 (.ld (.t 23)),iM 25 2,iM 26 8,iI 27 (.idx 1 (.t 25) (.t 26)),iI 28 (.ld (.t 27)),iI 29 (.bin .add (.t 24) (.t 28)),iI 30 (.fld 1 (.t 3)),iI 31 (.ld (.t 30)),iI 32 (.bin .rem (.t 29) (.t 31))]
 [iI 33 (.idx 1 (.t 19) (.t 20)),
 ⟨none,none,.st 1 (.t 33) (.t 32)⟩]))))))))))))) (
 .reg [iI 94 (.bin .add (.t 14) (.c (.d (.int 1)))),iM 14 94])))
def C_spec_l02Add:Fun:=⟨3,96,
 .seq (
 .reg [iI 3 (.box (.t 0)),iI 6 (.mv (.c (.nil)))]) (
 .seq (
 .reg [iM 9 1,iI 10 (.len (.t 9)),iI 11 (.make 1 8 [.d (.int 0)] (.t 10) (.t 10)),iM 7 11]) (
 .seq (
 .seq (
 .reg [iM 12 1,iI 13 (.len (.t 12)),iI 14 (.mv (.c (.d (.int 0))))]) (
 .block 0 (
 .loop L0_spec_l02Add))) (
 .seq (
 .reg [iM 95 7,iM 6 95]) (
 .ret)))),
 [.t 6]⟩
theorem rT:cFun Tryz.prog Tryz.f97=some C_spec_l02Add.erase:=by kernel_rfl
def L0_spec_l01New:C:=
 .seq (
 .seq (
 .reg [iM 8 4,iM 9 0,iI 10 (.len (.t 9)),iI 11 (.bin .lss (.t 8) (.t 10)),iM 12 11,iG 13 12 true (.mv (.t 4)),iG 14 12 true (.bin .lss (.t 13) (.c (.d (.int 4000)))),iI 15 (.pick (.t 12) (.t 14) (.c (.d (.bool false))))]) (
 .cond (.t 15) (
 .skip) (
 .exit 0))) (
 .seq (
 .block 1 (
 .reg [iM 18 3,iI 19 (.bin .mul (.t 18) (.c (.d (.int 131)))),iM 20 0,iM 21 4,iI 22 (.idx 1 (.t 20) (.t 21)),iI 23 (.ld (.t 22)),iI 24 (.cvt false (.t 23)),iI 25 (.bin .add (.t 19) (.t 24)),iI 26 (.bin .add (.t 25) (.c (.d (.int 7)))),iI 27 (.bin .and (.t 26) (.c (.d (.int 1073741823)))),iM 3 27])) (
 .reg [iM 16 4,iI 17 (.bin .add (.t 16) (.c (.d (.int 1)))),iM 4 17]))
def C_spec_l01New:Fun:=⟨1,32,
 .seq (
 .reg [iI 2 (.mv (.c (.any)))]) (
 .seq (
 .reg [iM 5 0,iI 6 (.len (.t 5)),iI 7 (.bin .add (.c (.d (.int 55127))) (.t 6)),iM 3 7]) (
 .seq (
 .seq (
 .reg [iI 4 (.mv (.c (.d (.int 0))))]) (
 .block 0 (
 .loop L0_spec_l01New))) (
 .seq (
 .reg [iM 28 0,iM 29 3,iI 30 (.agg [.nil,.d (.int 0),.d (.int 0)] [(0,1,(.t 28)),(2,1,(.t 29))]),iI 31 (.box (.t 30)),iM 2 31]) (
 .ret)))),
 [.t 2]⟩
theorem rU:cFun Tryz.prog Tryz.f63=some C_spec_l01New.erase:=by kernel_rfl
def C_spec_l01Byte:Fun:=⟨1,58,
 .seq (
 .reg [iI 2 (.mv (.c (.d (.int 0))))]) (
 .seq (
 .reg [iM 4 0,iM 5 0,iI 6 (.nck (.t 5)),iI 7 (.fld 2 (.t 6)),iI 8 (.ld (.t 7)),iI 9 (.bin .mul (.t 8) (.c (.d (.int 6364136223846793005)))),iI 10 (.bin .add (.t 9) (.c (.d (.int 1442695040888963407)))),iI 11 (.nck (.t 4)),iI 12 (.fld 2 (.t 11)),
 ⟨none,none,.st 1 (.t 12) (.t 10)⟩]) (
 .seq (
 .draw [iM 13 0,iI 14 (.nck (.t 13)),iI 15 (.fld 2 (.t 14)),iI 16 (.ld (.t 15)),iI 17 (.shk 33 (.t 16)),iM 18 0,iI 19 (.nck (.t 18)),iI 20 (.fld 2 (.t 19)),iI 21 (.ld (.t 20)),iI 22 (.shk 45 (.t 21))]
 [iI 23 (.bin .xor (.t 17) (.t 22)),iI 24 (.bin .and (.t 23) (.c (.d (.int 255)))),iM 3 24]) (
 .seq (
 .seq (
 .draw [iM 25 0,iI 26 (.nck (.t 25)),iI 27 (.fld 1 (.t 26)),iI 28 (.ld (.t 27)),iM 29 0,iI 30 (.nck (.t 29)),iI 31 (.fld 0 (.t 30)),iI 32 (.ld (.t 31)),iI 33 (.len (.t 32))]
 [iI 34 (.bin .lss (.t 28) (.t 33))]) (
 .cond (.t 34) (
 .seq (
 .draw [iM 35 3,iM 36 0,iI 37 (.nck (.t 36)),iI 38 (.fld 0 (.t 37)),iI 39 (.ld (.t 38)),iM 40 0,iI 41 (.nck (.t 40)),iI 42 (.fld 1 (.t 41)),iI 43 (.ld (.t 42)),iI 44 (.idx 1 (.t 39) (.t 43)),iI 45 (.ld (.t 44)),iI 46 (.cvt false (.t 45))]
 [iI 47 (.bin .add (.t 35) (.t 46)),iI 48 (.bin .and (.t 47) (.c (.d (.int 255)))),iM 3 48]) (
 .reg [iM 49 0,iM 50 0,iI 51 (.nck (.t 50)),iI 52 (.fld 1 (.t 51)),iI 53 (.ld (.t 52)),iI 54 (.bin .add (.t 53) (.c (.d (.int 1)))),iI 55 (.nck (.t 49)),iI 56 (.fld 1 (.t 55)),
 ⟨none,none,.st 1 (.t 56) (.t 54)⟩])) (
 .skip))) (
 .seq (
 .reg [iM 57 3,iM 2 57]) (
 .ret))))),
 [.t 2]⟩
theorem eT:cFun Tryz.prog Tryz.f53=some C_spec_l01Byte.erase:=by kernel_rfl
def C_spec_MakeRing:Fun:=⟨2,9,
 .seq (
 .reg [iI 4 (.zer [.d (.int 0),.d (.int 0),.d (.int 0)])]) (
 .seq (
 .reg [iM 5 0,iM 6 1,iI 7 (.call 27 [(.t 5),(.t 6)]),iI 8 (.call 26 [(.t 7)]),
 ⟨none,none,.st 3 (.t 4) (.t 8)⟩]) (
 .ret)),
 [.cell 4 3]⟩
theorem pc:cFun Tryz.prog Tryz.f5=some C_spec_MakeRing.erase:=by kernel_rfl
def C_spec_MakeNetwork:Fun:=⟨4,15,
 .seq (
 .reg [iI 6 (.box (.t 2)),iI 8 (.zer [.d (.int 0),.d (.int 0),.d (.int 0),.nil,.nil])]) (
 .seq (
 .draw [iM 9 0,iM 10 1,iI 11 (.call 27 [(.t 9),(.t 10)]),iI 12 (.ldn 3 (.t 6)),iM 13 3]
 [iI 14 (.call 28 [(.t 11),(.t 12),(.t 13)]),
 ⟨none,none,.st 5 (.t 8) (.t 14)⟩]) (
 .ret)),
 [.cell 8 5]⟩
theorem lC:cFun Tryz.prog Tryz.f6=some C_spec_MakeNetwork.erase:=by kernel_rfl
def C_spec_MakeOrder:Fun:=⟨3,14,
 .seq (
 .reg [iI 5 (.box (.t 2)),iI 6 (.mv (.c (.nil)))]) (
 .seq (
 .draw [iM 7 0,iM 8 1,iI 9 (.call 27 [(.t 7),(.t 8)]),iI 10 (.fld 3 (.t 5)),iI 11 (.ld (.t 10)),iI 12 (.len (.t 11))]
 [iI 13 (.call 47 [(.t 9),(.t 12)]),iM 6 13]) (
 .ret)),
 [.t 6]⟩
theorem nJ:cFun Tryz.prog Tryz.f16=some C_spec_MakeOrder.erase:=by kernel_rfl
def L0_impl_OrderCost:C:=
 .seq (
 .reg [iI 17 (.bin .lss (.t 16) (.t 15))]) (
 .seq (
 .cond (.t 17) (
 .skip) (
 .exit 0)) (
 .seq (
 .block 1 (
 .seq (
 .reg [iI 18 (.idx 1 (.t 14) (.t 16)),iI 19 (.ld (.t 18)),iM 7 19]) (
 .reg [iM 20 5,iM 21 7,iI 22 (.bin .add (.t 20) (.t 21)),iM 5 22]))) (
 .reg [iI 23 (.bin .add (.t 16) (.c (.d (.int 1)))),iM 16 23])))
def C_impl_OrderCost:Fun:=⟨2,26,
 .seq (
 .reg [iI 2 (.box (.t 0)),iI 4 (.mv (.c (.d (.int 0))))]) (
 .seq (
 .seq (
 .reg [iI 8 (.ldn 5 (.t 2)),iM 9 1,iI 10 (.call 25 [(.t 8),(.t 9)]),iI 11 (.not (.t 10))]) (
 .cond (.t 11) (
 .seq (
 .reg [iI 4 (.mv (.c (.d (.int (-1)))))]) (
 .ret)) (
 .skip))) (
 .seq (
 .reg [iI 5 (.mv (.c (.d (.int 0))))]) (
 .seq (
 .seq (
 .reg [iI 12 (.ldn 5 (.t 2)),iM 13 1,iI 14 (.call 59 [(.t 12),(.t 13)]),iI 15 (.len (.t 14)),iI 16 (.mv (.c (.d (.int 0))))]) (
 .block 0 (
 .loop L0_impl_OrderCost))) (
 .seq (
 .reg [iM 24 5,iI 25 (.mnx false (.t 24) (.c (.d (.int 1000000000)))),iM 4 25]) (
 .ret))))),
 [.t 4]⟩
theorem nT:cFun Tryz.prog Tryz.f22=some C_impl_OrderCost.erase:=by kernel_rfl
def L0_impl_OrderPeak:C:=
 .seq (
 .reg [iI 36 (.bin .lss (.t 35) (.t 34))]) (
 .seq (
 .cond (.t 36) (
 .skip) (
 .exit 2)) (
 .seq (
 .block 3 (
 .seq (
 .reg [iI 37 (.idx 2 (.t 33) (.t 35)),iI 38 (.ldn 2 (.t 37)),iI 10 (.zer [.d (.int 0),.d (.int 0)]),
 ⟨none,none,.st 2 (.t 10) (.t 38)⟩]) (
 .seq (
 .reg [iM 39 5,iI 40 (.ldn 2 (.t 10)),iI 41 (.call 51 [(.t 39),(.t 40)])]) (
 .draw [iM 42 6,iM 43 5,iM 44 5,iI 45 (.nck (.t 44)),iI 46 (.fld 101 (.t 45)),iI 47 (.ld (.t 46)),iM 48 5,iI 49 (.nck (.t 48)),iI 50 (.fld 101 (.t 49)),iI 51 (.ld (.t 50)),iI 52 (.len (.t 51)),iI 53 (.bin .sub (.t 52) (.c (.d (.int 1)))),iI 54 (.idx 2 (.t 47) (.t 53)),iI 55 (.fld 1 (.t 54)),iI 56 (.ld (.t 55)),iI 57 (.call 60 [(.t 43),(.t 56)])]
 [iI 58 (.mnx true (.t 42) (.t 57)),iM 6 58])))) (
 .reg [iI 59 (.bin .add (.t 35) (.c (.d (.int 1)))),iM 35 59])))
def L1_impl_OrderPeak:C:=
 .seq (
 .reg [iI 23 (.bin .lss (.t 22) (.t 21))]) (
 .seq (
 .cond (.t 23) (
 .skip) (
 .exit 0)) (
 .seq (
 .block 1 (
 .seq (
 .reg [iI 24 (.idx 2 (.t 20) (.t 22)),iI 25 (.ldn 2 (.t 24)),iI 8 (.zer [.d (.int 0),.nil]),
 ⟨none,none,.st 2 (.t 8) (.t 25)⟩]) (
 .reg [iM 26 6,iM 27 5,iI 28 (.fld 1 (.t 8)),iI 29 (.ld (.t 28)),iI 30 (.call 60 [(.t 27),(.t 29)]),iI 31 (.mnx true (.t 26) (.t 30)),iM 6 31]))) (
 .reg [iI 32 (.bin .add (.t 22) (.c (.d (.int 1)))),iM 22 32])))
def C_impl_OrderPeak:Fun:=⟨2,61,
 .seq (
 .reg [iI 2 (.box (.t 0)),iI 4 (.mv (.c (.d (.int 0))))]) (
 .seq (
 .seq (
 .reg [iI 11 (.ldn 5 (.t 2)),iM 12 1,iI 13 (.call 25 [(.t 11),(.t 12)]),iI 14 (.not (.t 13))]) (
 .cond (.t 14) (
 .seq (
 .reg [iI 4 (.mv (.c (.d (.int (-1)))))]) (
 .ret)) (
 .skip))) (
 .seq (
 .reg [iI 15 (.ldn 5 (.t 2)),iI 16 (.call 50 [(.t 15)]),iM 5 16]) (
 .seq (
 .reg [iI 6 (.mv (.c (.d (.int 1))))]) (
 .seq (
 .seq (
 .reg [iM 17 5,iI 18 (.nck (.t 17)),iI 19 (.fld 101 (.t 18)),iI 20 (.ld (.t 19)),iI 21 (.len (.t 20)),iI 22 (.mv (.c (.d (.int 0))))]) (
 .block 0 (
 .loop L1_impl_OrderPeak))) (
 .seq (
 .seq (
 .reg [iM 33 1,iI 34 (.len (.t 33)),iI 35 (.mv (.c (.d (.int 0))))]) (
 .block 2 (
 .loop L0_impl_OrderPeak))) (
 .seq (
 .reg [iM 60 6,iM 4 60]) (
 .ret))))))),
 [.t 4]⟩
theorem nS:cFun Tryz.prog Tryz.f23=some C_impl_OrderPeak.erase:=by kernel_rfl
def C_spec_l02Ring:Fun:=⟨1,50,
 .seq (
 .reg [iI 2 (.zer [.d (.int 0),.d (.int 0),.d (.int 0)])]) (
 .seq (
 .reg [iM 4 0,iI 5 (.call 61 [(.t 4),(.c (.d (.int 8)))]),iI 6 (.bin .add (.c (.d (.int 1))) (.t 5)),iM 3 6]) (
 .seq (
 .seq (
 .reg [iM 7 3]) (
 .block 0 (
 .seq (
 .reg [iI 9 (.bin .eql (.t 7) (.c (.d (.int 2)))),iM 8 9]) (
 .cond (.t 8) (
 .seq (
 .reg [iM 10 3,iM 11 0,iI 12 (.mksl 1 5 [.d (.int 0)] [(0,1,(.c (.d (.int 2)))),(1,1,(.c (.d (.int 3)))),(2,1,(.c (.d (.int 7)))),(3,1,(.c (.d (.int 97)))),(4,1,(.c (.d (.int 1000003))))]),iI 13 (.call 62 [(.t 11),(.t 12)]),iI 14 (.agg [.d (.int 0),.d (.int 0),.d (.int 0)] [(0,1,(.t 10)),(1,1,(.t 13))]),
 ⟨none,none,.st 3 (.t 2) (.t 14)⟩]) (
 .ret)) (
 .seq (
 .seq (
 .reg [iI 16 (.bin .eql (.t 7) (.c (.d (.int 3)))),iM 15 16]) (
 .cond (.t 15) (
 .skip) (
 .seq (
 .reg [iI 17 (.bin .eql (.t 7) (.c (.d (.int 4)))),iM 15 17]) (
 .cond (.t 15) (
 .skip) (
 .reg [iI 18 (.bin .eql (.t 7) (.c (.d (.int 5)))),iM 15 18]))))) (
 .cond (.t 15) (
 .seq (
 .reg [iM 19 3,iM 20 0,iI 21 (.mksl 1 5 [.d (.int 0)] [(0,1,(.c (.d (.int 1)))),(1,1,(.c (.d (.int 2)))),(2,1,(.c (.d (.int 9)))),(3,1,(.c (.d (.int 40)))),(4,1,(.c (.d (.int 1000000))))]),iI 22 (.call 62 [(.t 20),(.t 21)]),iI 23 (.agg [.d (.int 0),.d (.int 0),.d (.int 0)] [(0,1,(.t 19)),(1,1,(.t 22))]),
 ⟨none,none,.st 3 (.t 2) (.t 23)⟩]) (
 .ret)) (
 .seq (
 .reg [iI 25 (.bin .eql (.t 7) (.c (.d (.int 6)))),iM 24 25]) (
 .cond (.t 24) (
 .seq (
 .reg [iM 26 3,iM 27 0,iI 28 (.mksl 1 4 [.d (.int 0)] [(0,1,(.c (.d (.int 1)))),(1,1,(.c (.d (.int 3)))),(2,1,(.c (.d (.int 5)))),(3,1,(.c (.d (.int 20))))]),iI 29 (.call 62 [(.t 27),(.t 28)]),iI 30 (.agg [.d (.int 0),.d (.int 0),.d (.int 0)] [(0,1,(.t 26)),(2,1,(.t 29))]),
 ⟨none,none,.st 3 (.t 2) (.t 30)⟩]) (
 .ret)) (
 .seq (
 .reg [iI 32 (.bin .eql (.t 7) (.c (.d (.int 7)))),iM 31 32]) (
 .cond (.t 31) (
 .seq (
 .reg [iM 33 3,iM 34 0,iI 35 (.mksl 1 3 [.d (.int 0)] [(0,1,(.c (.d (.int 2)))),(1,1,(.c (.d (.int 5)))),(2,1,(.c (.d (.int 101))))]),iI 36 (.call 62 [(.t 34),(.t 35)]),iM 37 0,iI 38 (.call 61 [(.t 37),(.c (.d (.int 4)))]),iI 39 (.bin .add (.c (.d (.int 1))) (.t 38)),iI 40 (.agg [.d (.int 0),.d (.int 0),.d (.int 0)] [(0,1,(.t 33)),(1,1,(.t 36)),(2,1,(.t 39))]),
 ⟨none,none,.st 3 (.t 2) (.t 40)⟩]) (
 .ret)) (
 .seq (
 .reg [iI 42 (.bin .eql (.t 7) (.c (.d (.int 8)))),iM 41 42]) (
 .cond (.t 41) (
 .seq (
 .reg [iM 43 3,iM 44 0,iI 45 (.mksl 1 4 [.d (.int 0)] [(0,1,(.c (.d (.int 3)))),(1,1,(.c (.d (.int 17)))),(2,1,(.c (.d (.int 97)))),(3,1,(.c (.d (.int 1000003))))]),iI 46 (.call 62 [(.t 44),(.t 45)]),iI 47 (.agg [.d (.int 0),.d (.int 0),.d (.int 0)] [(0,1,(.t 43)),(1,1,(.t 46))]),
 ⟨none,none,.st 3 (.t 2) (.t 47)⟩]) (
 .ret)) (
 .skip))))))))))))) (
 .seq (
 .reg [iM 48 3,iI 49 (.agg [.d (.int 0),.d (.int 0),.d (.int 0)] [(0,1,(.t 48))]),
 ⟨none,none,.st 3 (.t 2) (.t 49)⟩]) (
 .ret)))),
 [.cell 2 3]⟩
theorem cf:cFun Tryz.prog Tryz.f26=some C_spec_l02Ring.erase:=by kernel_rfl
def C_spec_l45At:Fun:=⟨2,29,
 .seq (
 .reg [iI 4 (.mv (.c (.any)))]) (
 .seq (
 .reg [iM 6 0,iI 7 (.call 63 [(.t 6)]),iM 5 7]) (
 .seq (
 .reg [iM 8 5,iM 9 1,iM 10 0,iI 11 (.len (.t 10)),iI 12 (.mnx false (.t 9) (.t 11)),iI 13 (.nck (.t 8)),iI 14 (.fld 1 (.t 13)),
 ⟨none,none,.st 1 (.t 14) (.t 12)⟩]) (
 .seq (
 .reg [iM 15 5,iM 16 5,iI 17 (.nck (.t 16)),iI 18 (.fld 2 (.t 17)),iI 19 (.ld (.t 18)),iI 20 (.bin .mul (.t 19) (.c (.d (.int 31)))),iM 21 1,iI 22 (.bin .mul (.t 21) (.c (.d (.int 7919)))),iI 23 (.bin .add (.t 20) (.t 22)),iI 24 (.bin .add (.t 23) (.c (.d (.int 1)))),iI 25 (.bin .and (.t 24) (.c (.d (.int 1073741823)))),iI 26 (.nck (.t 15)),iI 27 (.fld 2 (.t 26)),
 ⟨none,none,.st 1 (.t 27) (.t 25)⟩]) (
 .seq (
 .reg [iM 28 5,iM 4 28]) (
 .ret))))),
 [.t 4]⟩
theorem ut:cFun Tryz.prog Tryz.f27=some C_spec_l45At.erase:=by kernel_rfl
def C_spec_MakeNum:Fun:=⟨2,15,
 .seq (
 .reg [iI 4 (.mv (.c (.d (.int 0))))]) (
 .seq (
 .reg [iM 6 0,iM 7 1,iI 8 (.call 27 [(.t 6),(.t 7)]),iM 5 8]) (
 .seq (
 .reg [iM 9 5,iI 10 (.call 53 [(.t 9)]),iI 11 (.bin .mul (.c (.d (.int 256))) (.t 10)),iM 12 5,iI 13 (.call 53 [(.t 12)]),iI 14 (.bin .add (.t 11) (.t 13)),iM 4 14]) (
 .ret))),
 [.t 4]⟩
theorem qT:cFun Tryz.prog Tryz.f18=some C_spec_MakeNum.erase:=by kernel_rfl
def L0_impl_OrderCosts:C:=
 .seq (
 .reg [iI 20 (.bin .lss (.t 19) (.t 18))]) (
 .seq (
 .cond (.t 20) (
 .skip) (
 .exit 0)) (
 .seq (
 .block 1 (
 .seq (
 .reg [iI 21 (.idx 2 (.t 17) (.t 19)),iI 22 (.ldn 2 (.t 21)),iI 8 (.zer [.d (.int 0),.d (.int 0)]),
 ⟨none,none,.st 2 (.t 8) (.t 22)⟩]) (
 .seq (
 .draw [iM 23 6,iI 24 (.fld 0 (.t 8)),iI 25 (.ld (.t 24)),iI 26 (.call 99 [(.t 23),(.t 25)]),iM 27 6,iI 28 (.fld 1 (.t 8)),iI 29 (.ld (.t 28))]
 [iI 30 (.call 99 [(.t 27),(.t 29)]),iM 9 26,iM 10 30]) (
 .seq (
 .draw [iM 31 5,iM 32 6,iM 33 6,iI 34 (.nck (.t 33)),iI 35 (.fld 101 (.t 34)),iI 36 (.ld (.t 35)),iM 37 9,iI 38 (.idx 2 (.t 36) (.t 37)),iI 39 (.fld 1 (.t 38)),iI 40 (.ld (.t 39)),iM 41 6,iI 42 (.nck (.t 41)),iI 43 (.fld 101 (.t 42)),iI 44 (.ld (.t 43)),iM 45 10,iI 46 (.idx 2 (.t 44) (.t 45)),iI 47 (.fld 1 (.t 46)),iI 48 (.ld (.t 47)),iI 49 (.call 33 [(.t 40),(.t 48)]),iI 50 (.call 60 [(.t 32),(.t 49)]),iI 51 (.mksl 1 1 [.d (.int 0)] [(0,1,(.t 50))])]
 [iI 52 (.app 1 8 [.d (.int 0)] (.t 31) (.t 51)),iM 5 52]) (
 .reg [iM 53 6,iM 54 9,iM 55 10,iI 56 (.call 100 [(.t 53),(.t 54),(.t 55)])]))))) (
 .reg [iI 57 (.bin .add (.t 19) (.c (.d (.int 1)))),iM 19 57])))
def C_impl_OrderCosts:Fun:=⟨2,59,
 .seq (
 .reg [iI 2 (.box (.t 0)),iI 4 (.mv (.c (.nil)))]) (
 .seq (
 .seq (
 .reg [iI 11 (.ldn 5 (.t 2)),iM 12 1,iI 13 (.call 25 [(.t 11),(.t 12)]),iI 14 (.not (.t 13))]) (
 .cond (.t 14) (
 .seq (
 .reg [iI 4 (.mv (.c (.nil)))]) (
 .ret)) (
 .skip))) (
 .seq (
 .reg [iI 5 (.mv (.c (.nil)))]) (
 .seq (
 .reg [iI 15 (.ldn 5 (.t 2)),iI 16 (.call 50 [(.t 15)]),iM 6 16]) (
 .seq (
 .seq (
 .reg [iM 17 1,iI 18 (.len (.t 17)),iI 19 (.mv (.c (.d (.int 0))))]) (
 .block 0 (
 .loop L0_impl_OrderCosts))) (
 .seq (
 .reg [iM 58 5,iM 4 58]) (
 .ret)))))),
 [.t 4]⟩
theorem mE:cFun Tryz.prog Tryz.f59=some C_impl_OrderCosts.erase:=by kernel_rfl
def L0_impl_greedySteps:C:=
 .seq (
 .seq (
 .reg [iM 26 8,iM 27 0,iI 28 (.nck (.t 27)),iI 29 (.fld 101 (.t 28)),iI 30 (.ld (.t 29)),iI 31 (.len (.t 30)),iI 32 (.bin .lss (.t 26) (.t 31))]) (
 .cond (.t 32) (
 .skip) (
 .exit 4))) (
 .seq (
 .block 5 (
 .seq (
 .draw [iM 35 0,iM 36 0,iM 37 7,iM 38 8,iI 39 (.call 101 [(.t 36),(.t 37),(.t 38)]),iI 40 (.call 60 [(.t 35),(.t 39)]),iM 41 0,iM 42 0,iI 43 (.nck (.t 42)),iI 44 (.fld 101 (.t 43)),iI 45 (.ld (.t 44)),iM 46 7,iI 47 (.idx 2 (.t 45) (.t 46)),iI 48 (.fld 1 (.t 47)),iI 49 (.ld (.t 48)),iI 50 (.call 60 [(.t 41),(.t 49)]),iI 51 (.bin .sub (.t 40) (.t 50)),iM 52 0,iM 53 0,iI 54 (.nck (.t 53)),iI 55 (.fld 101 (.t 54)),iI 56 (.ld (.t 55)),iM 57 8,iI 58 (.idx 2 (.t 56) (.t 57)),iI 59 (.fld 1 (.t 58)),iI 60 (.ld (.t 59)),iI 61 (.call 60 [(.t 52),(.t 60)])]
 [iI 62 (.bin .sub (.t 51) (.t 61)),iM 9 62]) (
 .seq (
 .reg [iM 63 4,iI 64 (.bin .lss (.t 63) (.c (.d (.int 0)))),iM 65 64,iG 66 65 false (.mv (.t 9)),iG 67 65 false (.mv (.t 6)),iG 68 65 false (.bin .lss (.t 66) (.t 67)),iI 69 (.pick (.t 65) (.c (.d (.bool true))) (.t 68))]) (
 .cond (.t 69) (
 .reg [iM 70 7,iM 71 8,iM 72 9,iM 4 70,iM 5 71,iM 6 72]) (
 .skip))))) (
 .reg [iM 33 8,iI 34 (.bin .add (.t 33) (.c (.d (.int 1)))),iM 8 34]))
def L1_impl_greedySteps:C:=
 .seq (
 .reg [iI 22 (.bin .lss (.t 21) (.t 20))]) (
 .seq (
 .cond (.t 22) (
 .skip) (
 .exit 2)) (
 .seq (
 .block 3 (
 .seq (
 .reg [iM 23 21,iM 7 23]) (
 .seq (
 .reg [iM 24 7,iI 25 (.bin .add (.t 24) (.c (.d (.int 1)))),iM 8 25]) (
 .block 4 (
 .loop L0_impl_greedySteps))))) (
 .reg [iI 73 (.bin .add (.t 21) (.c (.d (.int 1)))),iM 21 73])))
def L2_impl_greedySteps:C:=
 .seq (
 .seq (
 .reg [iM 10 0,iI 11 (.nck (.t 10)),iI 12 (.fld 101 (.t 11)),iI 13 (.ld (.t 12)),iI 14 (.len (.t 13)),iI 15 (.bin .gtr (.t 14) (.c (.d (.int 1))))]) (
 .cond (.t 15) (
 .skip) (
 .exit 0))) (
 .block 1 (
 .seq (
 .reg [iI 4 (.mv (.c (.d (.int (-1))))),iI 5 (.mv (.c (.d (.int (-1))))),iI 6 (.mv (.c (.d (.int 0))))]) (
 .seq (
 .seq (
 .reg [iM 16 0,iI 17 (.nck (.t 16)),iI 18 (.fld 101 (.t 17)),iI 19 (.ld (.t 18)),iI 20 (.len (.t 19)),iI 21 (.mv (.c (.d (.int 0))))]) (
 .block 2 (
 .loop L1_impl_greedySteps))) (
 .reg [iM 74 3,iM 75 0,iM 76 4,iM 77 5,iI 78 (.call 100 [(.t 75),(.t 76),(.t 77)]),iI 79 (.mksl 2 1 [.d (.int 0),.d (.int 0)] [(0,2,(.t 78))]),iI 80 (.app 2 16 [.d (.int 0),.d (.int 0)] (.t 74) (.t 79)),iM 3 80]))))
def C_impl_greedySteps:Fun:=⟨1,82,
 .seq (
 .reg [iI 2 (.mv (.c (.nil)))]) (
 .seq (
 .reg [iI 3 (.mv (.c (.nil)))]) (
 .seq (
 .block 0 (
 .loop L2_impl_greedySteps)) (
 .seq (
 .reg [iM 81 3,iM 2 81]) (
 .ret)))),
 [.t 2]⟩
theorem gK:cFun Tryz.prog Tryz.f55=some C_impl_greedySteps.erase:=by kernel_rfl
def C_impl_orderState_size:Fun:=⟨2,13,
 .seq (
 .reg [iI 4 (.mv (.c (.d (.int 0))))]) (
 .seq (
 .reg [iM 5 0,iI 6 (.nck (.t 5)),iI 7 (.fld 0 (.t 6)),iI 8 (.ldn 100 (.t 7)),iM 9 1,iI 10 (.call 71 [(.t 8),(.t 9)]),iI 11 (.fdv 1 1 false (.t 10)),iI 12 (.call 104 [(.t 11),(.c (.d (.int 1000000000)))]),iM 4 12]) (
 .ret)),
 [.t 4]⟩
theorem je:cFun Tryz.prog Tryz.f60=some C_impl_orderState_size.erase:=by kernel_rfl
def C_spec_l01Below:Fun:=⟨2,11,
 .seq (
 .reg [iI 4 (.mv (.c (.d (.int 0))))]) (
 .seq (
 .seq (
 .reg [iM 5 1,iI 6 (.bin .leq (.t 5) (.c (.d (.int 0))))]) (
 .cond (.t 6) (
 .seq (
 .reg [iI 4 (.mv (.c (.d (.int 0))))]) (
 .ret)) (
 .skip))) (
 .seq (
 .reg [iM 7 0,iI 8 (.call 53 [(.t 7)]),iM 9 1,iI 10 (.bin .rem (.t 8) (.t 9)),iM 4 10]) (
 .ret))),
 [.t 4]⟩
theorem jz:cFun Tryz.prog Tryz.f61=some C_spec_l01Below.erase:=by kernel_rfl
def C_spec_l01Pick:Fun:=⟨2,12,
 .seq (
 .reg [iI 4 (.mv (.c (.d (.int 0))))]) (
 .seq (
 .reg [iM 5 1,iM 6 0,iM 7 1,iI 8 (.len (.t 7)),iI 9 (.call 61 [(.t 6),(.t 8)]),iI 10 (.idx 1 (.t 5) (.t 9)),iI 11 (.ld (.t 10)),iM 4 11]) (
 .ret)),
 [.t 4]⟩
theorem qR:cFun Tryz.prog Tryz.f62=some C_spec_l01Pick.erase:=by kernel_rfl
def C_spec_l05Draw:Fun:=⟨2,17,
 .seq (
 .reg [iI 3 (.box (.t 1)),iI 4 (.zer [.nil,.nil,.nil])]) (
 .seq (
 .reg [iM 8 0,iI 9 (.call 105 [(.t 8),(.c (.d (.int 6))),(.c (.d (.int 3)))]),iM 7 9,iI 10 (.ext 0 (.t 7)),iI 11 (.ext 1 (.t 7)),iM 5 10,iM 6 11]) (
 .seq (
 .reg [iM 12 0,iI 13 (.ldn 3 (.t 3)),iM 14 5,iM 15 6,iI 16 (.call 35 [(.t 12),(.t 13),(.t 14),(.t 15)]),
 ⟨none,none,.st 3 (.t 4) (.t 16)⟩]) (
 .ret))),
 [.cell 4 3]⟩
theorem qN:cFun Tryz.prog Tryz.f64=some C_spec_l05Draw.erase:=by kernel_rfl
def L0_spec_l06Shuffle:C:=
 .seq (
 .reg [iI 14 (.bin .lss (.t 13) (.t 12))]) (
 .seq (
 .cond (.t 14) (
 .skip) (
 .exit 0)) (
 .seq (
 .block 1 (
 .seq (
 .reg [iM 15 13,iM 6 15]) (
 .seq (
 .reg [iM 16 0,iM 17 6,iI 18 (.bin .add (.t 17) (.c (.d (.int 1)))),iI 19 (.call 61 [(.t 16),(.t 18)]),iM 7 19]) (
 .seq (
 .reg [iM 20 5,iM 21 6,iI 22 (.idx 1 (.t 20) (.t 21)),iI 23 (.ld (.t 22)),iM 8 23]) (
 .seq (
 .reg [iM 24 5,iM 25 6,iM 26 5,iM 27 7,iI 28 (.idx 1 (.t 26) (.t 27)),iI 29 (.ld (.t 28)),iI 30 (.idx 1 (.t 24) (.t 25)),
 ⟨none,none,.st 1 (.t 30) (.t 29)⟩]) (
 .reg [iM 31 5,iM 32 7,iM 33 8,iI 34 (.idx 1 (.t 31) (.t 32)),
 ⟨none,none,.st 1 (.t 34) (.t 33)⟩])))))) (
 .reg [iI 35 (.bin .add (.t 13) (.c (.d (.int 1)))),iM 13 35])))
def C_spec_l06Shuffle:Fun:=⟨2,37,
 .seq (
 .reg [iI 4 (.mv (.c (.nil)))]) (
 .seq (
 .reg [iM 9 1,iI 10 (.call 81 [(.t 9)]),iM 5 10]) (
 .seq (
 .seq (
 .reg [iM 11 5,iI 12 (.len (.t 11)),iI 13 (.mv (.c (.d (.int 0))))]) (
 .block 0 (
 .loop L0_spec_l06Shuffle))) (
 .seq (
 .reg [iM 36 5,iM 4 36]) (
 .ret)))),
 [.t 4]⟩
theorem mr:cFun Tryz.prog Tryz.f37=some C_spec_l06Shuffle.erase:=by kernel_rfl
def C_spec_l01Once:Fun:=⟨2,9,
 .seq (
 .reg [iI 4 (.mv (.c (.d (.bool false))))]) (
 .seq (
 .reg [iM 5 0,iM 6 1,iI 7 (.call 61 [(.t 5),(.t 6)]),iI 8 (.bin .eql (.t 7) (.c (.d (.int 0)))),iM 4 8]) (
 .ret)),
 [.t 4]⟩
theorem qS:cFun Tryz.prog Tryz.f66=some C_spec_l01Once.erase:=by kernel_rfl
def L0_spec_l05Labels:C:=
 .seq (
 .seq (
 .reg [iM 18 10,iI 19 (.bin .gtr (.t 18) (.c (.d (.int 0))))]) (
 .cond (.t 19) (
 .skip) (
 .exit 0))) (
 .seq (
 .block 1 (
 .seq (
 .reg [iM 22 0,iM 23 1,iI 24 (.call 61 [(.t 22),(.t 23)]),iM 11 24]) (
 .seq (
 .reg [iM 25 8,iM 26 11,iI 27 (.call 80 [(.t 25),(.t 26)]),iI 28 (.bin .lss (.t 27) (.c (.d (.int 0))))]) (
 .cond (.t 28) (
 .seq (
 .reg [iM 29 8,iM 30 11,iI 31 (.mksl 1 1 [.d (.int 0)] [(0,1,(.t 30))]),iI 32 (.app 1 8 [.d (.int 0)] (.t 29) (.t 31)),iM 8 32]) (
 .reg [iM 33 9,iM 34 11,iI 35 (.bin .add (.t 34) (.c (.d (.int 1)))),iI 36 (.bin .rem (.t 35) (.c (.d (.int 3)))),iI 37 (.bin .add (.c (.d (.int 1))) (.t 36)),iI 38 (.mksl 1 1 [.d (.int 0)] [(0,1,(.t 37))]),iI 39 (.app 1 8 [.d (.int 0)] (.t 33) (.t 38)),iM 9 39])) (
 .skip))))) (
 .reg [iM 20 10,iI 21 (.bin .sub (.t 20) (.c (.d (.int 1)))),iM 10 21]))
def C_spec_l05Labels:Fun:=⟨3,42,
 .seq (
 .reg [iI 6 (.mv (.c (.nil))),iI 7 (.mv (.c (.nil)))]) (
 .seq (
 .reg [iI 12 (.mksl 1 0 [.d (.int 0)] []),iM 8 12]) (
 .seq (
 .reg [iI 13 (.mksl 1 0 [.d (.int 0)] []),iM 9 13]) (
 .seq (
 .seq (
 .reg [iM 14 0,iM 15 2,iI 16 (.bin .add (.t 15) (.c (.d (.int 1)))),iI 17 (.call 61 [(.t 14),(.t 16)]),iM 10 17]) (
 .block 0 (
 .loop L0_spec_l05Labels))) (
 .seq (
 .reg [iM 40 8,iM 41 9,iM 6 40,iM 7 41]) (
 .ret))))),
 [.t 6,.t 7]⟩
theorem nH:cFun Tryz.prog Tryz.f105=some C_spec_l05Labels.erase:=by kernel_rfl
def L0_spec_l02Draw:C:=
 .seq (
 .reg [iI 23 (.bin .lss (.t 22) (.t 21))]) (
 .seq (
 .cond (.t 23) (
 .skip) (
 .exit 1)) (
 .seq (
 .block 2 (
 .seq (
 .reg [iM 24 22,iM 6 24]) (
 .seq (
 .reg [iM 25 5,iM 26 6,iM 27 0,iI 28 (.ldn 3 (.t 3)),iI 29 (.call 112 [(.t 28)]),iI 30 (.bin .add (.t 29) (.c (.d (.int 1)))),iI 31 (.mnx false (.c (.d (.int 256))) (.t 30)),iI 32 (.call 61 [(.t 27),(.t 31)]),iI 33 (.idx 1 (.t 25) (.t 26)),
 ⟨none,none,.st 1 (.t 33) (.t 32)⟩]) (
 .seq (
 .reg [iM 34 0,iI 35 (.call 66 [(.t 34),(.c (.d (.int 12)))])]) (
 .cond (.t 35) (
 .reg [iM 36 5,iM 37 6,iI 38 (.ldn 3 (.t 3)),iI 39 (.call 112 [(.t 38)]),iI 40 (.idx 1 (.t 36) (.t 37)),
 ⟨none,none,.st 1 (.t 40) (.t 39)⟩]) (
 .skip)))))) (
 .reg [iI 41 (.bin .add (.t 22) (.c (.d (.int 1)))),iM 22 41])))
def C_spec_l02Draw:Fun:=⟨2,43,
 .seq (
 .reg [iI 3 (.box (.t 1)),iI 4 (.mv (.c (.nil)))]) (
 .seq (
 .seq (
 .reg [iM 7 0,iI 8 (.call 61 [(.t 7),(.c (.d (.int 6)))])]) (
 .block 0 (
 .seq (
 .reg [iI 10 (.bin .eql (.t 8) (.c (.d (.int 0)))),iM 9 10]) (
 .cond (.t 9) (
 .seq (
 .reg [iI 11 (.ldn 3 (.t 3)),iI 12 (.call 109 [(.t 11)]),iM 4 12]) (
 .ret)) (
 .seq (
 .reg [iI 14 (.bin .eql (.t 8) (.c (.d (.int 1)))),iM 13 14]) (
 .cond (.t 13) (
 .seq (
 .reg [iI 15 (.ldn 3 (.t 3)),iI 16 (.call 111 [(.t 15)]),iM 4 16]) (
 .ret)) (
 .skip))))))) (
 .seq (
 .reg [iI 17 (.ldn 3 (.t 3)),iI 18 (.call 110 [(.t 17)]),iI 19 (.make 1 8 [.d (.int 0)] (.t 18) (.t 18)),iM 5 19]) (
 .seq (
 .seq (
 .reg [iM 20 5,iI 21 (.len (.t 20)),iI 22 (.mv (.c (.d (.int 0))))]) (
 .block 1 (
 .loop L0_spec_l02Draw))) (
 .seq (
 .reg [iM 42 5,iM 4 42]) (
 .ret))))),
 [.t 4]⟩
theorem qQ:cFun Tryz.prog Tryz.f79=some C_spec_l02Draw.erase:=by kernel_rfl
def L0_spec_l05Fill:C:=
 .seq (
 .seq (
 .reg [iM 15 10,iM 16 3,iI 17 (.call 77 [(.t 16),(.c (.d (.int 4096)))]),iI 18 (.bin .lss (.t 15) (.t 17))]) (
 .cond (.t 18) (
 .skip) (
 .exit 0))) (
 .seq (
 .block 1 (
 .drawW [iI 21 (.ldn 3 (.t 5)),iI 22 (.ldn 3 (.t 9)),iM 23 10,iM 24 0,iI 25 (.ldn 3 (.t 5))]
 [iI 21 (.ldn 3 (.t 5)),iI 22 (.ldn 3 (.t 9)),iM 23 10]
 [iI 26 (.call 79 [(.t 24),(.t 25)])]
 [iI 27 (.call 78 [(.t 21),(.t 22),(.t 23),(.t 26)])])) (
 .reg [iM 19 10,iI 20 (.bin .add (.t 19) (.c (.d (.int 1)))),iM 10 20]))
def C_spec_l05Fill:Fun:=⟨4,29,
 .seq (
 .reg [iI 5 (.box (.t 1)),iI 8 (.zer [.nil,.nil,.nil])]) (
 .seq (
 .reg [iI 11 (.ldn 3 (.t 5)),iM 12 2,iM 13 3,iI 14 (.call 76 [(.t 11),(.t 12),(.t 13)]),iI 9 (.zer [.nil,.nil,.nil]),
 ⟨none,none,.st 3 (.t 9) (.t 14)⟩]) (
 .seq (
 .seq (
 .reg [iI 10 (.mv (.c (.d (.int 0))))]) (
 .block 0 (
 .loop L0_spec_l05Fill))) (
 .seq (
 .reg [iI 28 (.ldn 3 (.t 9)),
 ⟨none,none,.st 3 (.t 8) (.t 28)⟩]) (
 .ret)))),
 [.cell 8 3]⟩
theorem qM:yP Tryz.prog [79] Tryz.f35=some C_spec_l05Fill.erase:=by kernel_rfl
def L0_spec_l12Net:C:=
 .seq (
 .reg [iI 36 (.bin .lss (.t 35) (.t 34))]) (
 .seq (
 .cond (.t 36) (
 .skip) (
 .exit 2)) (
 .seq (
 .block 3 (
 .seq (
 .reg [iI 37 (.idx 1 (.t 33) (.t 35)),iI 38 (.ld (.t 37)),iM 10 38]) (
 .seq (
 .reg [iM 39 0,iI 40 (.call 66 [(.t 39),(.c (.d (.int 3)))])]) (
 .cond (.t 40) (
 .reg [iI 41 (.fld 4 (.t 7)),iI 42 (.ld (.t 41)),iM 43 10,iI 44 (.mksl 1 1 [.d (.int 0)] [(0,1,(.t 43))]),iI 45 (.app 1 8 [.d (.int 0)] (.t 42) (.t 44)),iI 46 (.fld 4 (.t 7)),
 ⟨none,none,.st 1 (.t 46) (.t 45)⟩]) (
 .skip))))) (
 .reg [iI 47 (.bin .add (.t 35) (.c (.d (.int 1)))),iM 35 47])))
def L1_spec_l12Net:C:=
 .seq (
 .seq (
 .reg [iM 17 8,iI 18 (.bin .gtr (.t 17) (.c (.d (.int 0))))]) (
 .cond (.t 18) (
 .skip) (
 .exit 0))) (
 .seq (
 .block 1 (
 .drawW [iI 21 (.fld 3 (.t 7)),iI 22 (.ld (.t 21)),iM 23 0,iI 24 (.ldn 3 (.t 4))]
 [iI 21 (.fld 3 (.t 7)),iI 22 (.ld (.t 21))]
 [iI 25 (.call 64 [(.t 23),(.t 24)]),iI 26 (.mksl 3 1 [.nil,.nil,.nil] [(0,3,(.t 25))])]
 [iI 27 (.app 3 72 [.nil,.nil,.nil] (.t 22) (.t 26)),iI 28 (.fld 3 (.t 7)),
 ⟨none,none,.st 1 (.t 28) (.t 27)⟩])) (
 .reg [iM 19 8,iI 20 (.bin .sub (.t 19) (.c (.d (.int 1)))),iM 8 20]))
def C_spec_l12Net:Fun:=⟨3,49,
 .seq (
 .reg [iI 4 (.box (.t 1)),iI 6 (.zer [.d (.int 0),.d (.int 0),.d (.int 0),.nil,.nil])]) (
 .seq (
 .reg [iI 11 (.ldn 3 (.t 4)),iI 12 (.agg [.d (.int 0),.d (.int 0),.d (.int 0),.nil,.nil] [(0,3,(.t 11))]),iI 7 (.zer [.d (.int 0),.d (.int 0),.d (.int 0),.nil,.nil]),
 ⟨none,none,.st 5 (.t 7) (.t 12)⟩]) (
 .seq (
 .seq (
 .reg [iM 13 0,iM 14 2,iI 15 (.bin .add (.t 14) (.c (.d (.int 1)))),iI 16 (.call 61 [(.t 13),(.t 15)]),iM 8 16]) (
 .block 0 (
 .loop L1_spec_l12Net))) (
 .seq (
 .seq (
 .reg [iM 29 0,iI 30 (.fld 3 (.t 7)),iI 31 (.ld (.t 30)),iI 32 (.call 65 [(.t 31)]),iI 33 (.call 37 [(.t 29),(.t 32)]),iI 34 (.len (.t 33)),iI 35 (.mv (.c (.d (.int 0))))]) (
 .block 2 (
 .loop L0_spec_l12Net))) (
 .seq (
 .reg [iI 48 (.ldn 5 (.t 7)),
 ⟨none,none,.st 5 (.t 6) (.t 48)⟩]) (
 .ret))))),
 [.cell 6 5]⟩
theorem rM:yP Tryz.prog [64] Tryz.f28=some C_spec_l12Net.erase:=by kernel_rfl
def L0_spec_l17Order:C:=
 .seq (
 .seq (
 .reg [iM 20 5,iI 21 (.len (.t 20)),iI 22 (.bin .gtr (.t 21) (.c (.d (.int 1))))]) (
 .cond (.t 22) (
 .skip) (
 .exit 2))) (
 .block 3 (
 .seq (
 .reg [iM 23 0,iM 24 5,iI 25 (.call 37 [(.t 23),(.t 24)]),iM 5 25]) (
 .seq (
 .reg [iM 26 5,iI 27 (.len (.t 26)),iI 28 (.bin .sub (.t 27) (.c (.d (.int 2)))),iM 8 28]) (
 .seq (
 .gh (
 .draw [iM 29 7,iM 30 5,iM 31 8,iI 32 (.idx 1 (.t 30) (.t 31)),iI 33 (.ld (.t 32)),iM 34 5,iM 35 8,iI 36 (.bin .add (.t 35) (.c (.d (.int 1)))),iI 37 (.idx 1 (.t 34) (.t 36)),iI 38 (.ld (.t 37)),iI 39 (.mnx false (.t 33) (.t 38)),iM 40 5,iM 41 8,iI 42 (.idx 1 (.t 40) (.t 41)),iI 43 (.ld (.t 42)),iM 44 5,iM 45 8,iI 46 (.bin .add (.t 45) (.c (.d (.int 1)))),iI 47 (.idx 1 (.t 44) (.t 46)),iI 48 (.ld (.t 47)),iI 49 (.mnx true (.t 43) (.t 48)),iI 50 (.agg [.d (.int 0),.d (.int 0)] [(0,1,(.t 39)),(1,1,(.t 49))]),iI 51 (.mksl 2 1 [.d (.int 0),.d (.int 0)] [(0,2,(.t 50))])]
 [iI 52 (.app 2 16 [.d (.int 0),.d (.int 0)] (.t 29) (.t 51)),iM 7 52])) (
 .reg [iM 53 5,iM 54 8,iI 55 (.slc 1 (.t 53) none (some (.t 54))),iM 56 1,iM 57 7,iI 58 (.len (.t 57)),iI 59 (.bin .add (.t 56) (.t 58)),iI 60 (.bin .sub (.t 59) (.c (.d (.int 1)))),iI 61 (.mksl 1 1 [.d (.int 0)] [(0,1,(.t 60))]),iI 62 (.app 1 8 [.d (.int 0)] (.t 55) (.t 61)),iM 5 62])))))
def L1_spec_l17Order:C:=
 .seq (
 .seq (
 .reg [iM 10 6,iM 11 1,iI 12 (.bin .lss (.t 10) (.t 11))]) (
 .cond (.t 12) (
 .skip) (
 .exit 0))) (
 .seq (
 .block 1 (
 .reg [iM 15 5,iM 16 6,iI 17 (.mksl 1 1 [.d (.int 0)] [(0,1,(.t 16))]),iI 18 (.app 1 8 [.d (.int 0)] (.t 15) (.t 17)),iM 5 18])) (
 .reg [iM 13 6,iI 14 (.bin .add (.t 13) (.c (.d (.int 1)))),iM 6 14]))
def C_spec_l17Order:Fun:=⟨2,64,
 .seq (
 .reg [iI 4 (.mv (.c (.nil)))]) (
 .seq (
 .reg [iI 9 (.mksl 1 0 [.d (.int 0)] []),iM 5 9]) (
 .seq (
 .seq (
 .reg [iI 6 (.mv (.c (.d (.int 0))))]) (
 .block 0 (
 .loop L1_spec_l17Order))) (
 .seq (
 .reg [iI 19 (.mksl 2 0 [.d (.int 0),.d (.int 0)] []),iM 7 19]) (
 .seq (
 .block 2 (
 .loop L0_spec_l17Order)) (
 .seq (
 .reg [iM 63 7,iM 4 63]) (
 .ret)))))),
 [.t 4]⟩
theorem p6:cFun Tryz.prog Tryz.f47=some C_spec_l17Order.erase:=by kernel_rfl
def L0_impl_copyNetwork:C:=
 .seq (
 .reg [iI 16 (.bin .lss (.t 15) (.t 14))]) (
 .seq (
 .cond (.t 16) (
 .skip) (
 .exit 0)) (
 .seq (
 .block 1 (
 .seq (
 .reg [iI 17 (.idx 3 (.t 13) (.t 15)),iI 18 (.ldn 3 (.t 17)),iI 5 (.zer [.nil,.nil,.nil]),
 ⟨none,none,.st 3 (.t 5) (.t 18)⟩]) (
 .draw [iI 19 (.fld 3 (.t 3)),iI 20 (.ld (.t 19)),iI 21 (.ldn 3 (.t 5)),iI 22 (.call 41 [(.t 21)]),iI 23 (.mksl 3 1 [.nil,.nil,.nil] [(0,3,(.t 22))])]
 [iI 24 (.app 3 72 [.nil,.nil,.nil] (.t 20) (.t 23)),iI 25 (.fld 3 (.t 3)),
 ⟨none,none,.st 1 (.t 25) (.t 24)⟩]))) (
 .reg [iI 26 (.bin .add (.t 15) (.c (.d (.int 1)))),iM 15 26])))
def C_impl_copyNetwork:Fun:=⟨1,28,
 .seq (
 .reg [iI 1 (.box (.t 0)),iI 2 (.zer [.d (.int 0),.d (.int 0),.d (.int 0),.nil,.nil])]) (
 .seq (
 .draw [iI 6 (.fld 0 (.t 1)),iI 7 (.ldn 3 (.t 6)),iI 8 (.fld 4 (.t 1)),iI 9 (.ld (.t 8)),iI 10 (.call 72 [(.t 9)]),iI 11 (.agg [.d (.int 0),.d (.int 0),.d (.int 0),.nil,.nil] [(0,3,(.t 7)),(4,1,(.t 10))]),iI 3 (.zer [.d (.int 0),.d (.int 0),.d (.int 0),.nil,.nil])]
 [⟨none,none,.st 5 (.t 3) (.t 11)⟩]) (
 .seq (
 .seq (
 .reg [iI 12 (.fld 3 (.t 1)),iI 13 (.ld (.t 12)),iI 14 (.len (.t 13)),iI 15 (.mv (.c (.d (.int 0))))]) (
 .block 0 (
 .loop L0_impl_copyNetwork))) (
 .seq (
 .reg [iI 27 (.ldn 5 (.t 3)),
 ⟨none,none,.st 5 (.t 2) (.t 27)⟩]) (
 .ret)))),
 [.cell 2 5]⟩
theorem lE:cFun Tryz.prog Tryz.f30=some C_impl_copyNetwork.erase:=by kernel_rfl
def C_impl_scalarOne:Fun:=⟨1,6,
 .seq (
 .reg [iI 1 (.box (.t 0)),iI 2 (.zer [.nil,.nil,.nil])]) (
 .seq (
 .reg [iI 3 (.ldn 3 (.t 1)),iI 4 (.call 32 [(.t 3)]),iI 5 (.agg [.nil,.nil,.nil] [(2,1,(.t 4))]),
 ⟨none,none,.st 3 (.t 2) (.t 5)⟩]) (
 .ret)),
 [.cell 2 3]⟩
theorem nM:cFun Tryz.prog Tryz.f57=some C_impl_scalarOne.erase:=by kernel_rfl
def C_impl_SumLabels:Fun:=⟨3,24,
 .seq (
 .reg [iI 3 (.box (.t 0)),iI 4 (.box (.t 1)),iI 6 (.zer [.nil,.nil,.nil])]) (
 .seq (
 .seq (
 .reg [iI 9 (.ldn 3 (.t 3)),iI 10 (.ldn 3 (.t 4)),iI 11 (.call 68 [(.t 9),(.t 10)]),iI 12 (.not (.t 11))]) (
 .cond (.t 12) (
 .seq (
 .reg [iI 13 (.agg [.nil,.nil,.nil] []),
 ⟨none,none,.st 3 (.t 6) (.t 13)⟩]) (
 .ret)) (
 .skip))) (
 .seq (
 .draw [iI 15 (.ldn 3 (.t 3)),iI 16 (.ldn 3 (.t 4)),iI 17 (.ldn 3 (.t 3)),iI 18 (.call 57 [(.t 17)]),iM 19 2,iI 20 (.call 38 [(.t 15),(.t 16),(.t 18),(.t 19)]),iM 14 20,iI 21 (.ext 0 (.t 14)),iI 22 (.ext 1 (.t 14)),iI 7 (.zer [.nil,.nil,.nil])]
 [⟨none,none,.st 3 (.t 7) (.t 21)⟩,iM 8 22]) (
 .seq (
 .reg [iI 23 (.ldn 3 (.t 7)),
 ⟨none,none,.st 3 (.t 6) (.t 23)⟩]) (
 .ret)))),
 [.cell 6 3]⟩
theorem nQ:cFun Tryz.prog Tryz.f103=some C_impl_SumLabels.erase:=by kernel_rfl
def C_impl_FinishTensor:Fun:=⟨2,38,
 .seq (
 .reg [iI 2 (.box (.t 0)),iI 3 (.box (.t 1)),iI 4 (.zer [.nil,.nil,.nil]),iI 5 (.mv (.c (.d (.bool false))))]) (
 .seq (
 .seq (
 .reg [iI 6 (.ldn 5 (.t 2)),iI 7 (.call 29 [(.t 6)]),iI 8 (.not (.t 7)),iM 9 8,iG 10 9 false (.fld 0 (.t 2)),iG 11 9 false (.ldn 3 (.t 10)),iG 12 9 false (.ldn 3 (.t 3)),iG 13 9 false (.call 68 [(.t 11),(.t 12)]),iG 14 9 false (.not (.t 13)),iI 15 (.pick (.t 9) (.c (.d (.bool true))) (.t 14)),iM 16 15,iG 17 16 false (.fld 4 (.t 2)),iG 18 16 false (.ld (.t 17)),iG 19 16 false (.fld 0 (.t 3)),iG 20 16 false (.ld (.t 19)),iG 21 16 false (.call 102 [(.t 18),(.t 20)]),iG 22 16 false (.not (.t 21)),iI 23 (.pick (.t 16) (.c (.d (.bool true))) (.t 22))]) (
 .cond (.t 23) (
 .seq (
 .reg [iI 24 (.agg [.nil,.nil,.nil] []),
 ⟨none,none,.st 3 (.t 4) (.t 24)⟩,iI 5 (.mv (.c (.d (.bool false))))]) (
 .ret)) (
 .skip))) (
 .seq (
 .draw [iI 25 (.fld 0 (.t 2)),iI 26 (.ldn 3 (.t 25)),iI 27 (.fld 0 (.t 2)),iI 28 (.ldn 3 (.t 27)),iI 29 (.ldn 3 (.t 3)),iI 30 (.fld 4 (.t 2)),iI 31 (.ld (.t 30)),iI 32 (.call 103 [(.t 28),(.t 29),(.t 31)]),iI 33 (.fld 4 (.t 2)),iI 34 (.ld (.t 33)),iI 35 (.call 39 [(.t 26),(.t 32),(.t 34)]),iI 36 (.ext 0 (.t 35)),iI 37 (.ext 1 (.t 35))]
 [⟨none,none,.st 3 (.t 4) (.t 36)⟩,iM 5 37]) (
 .ret))),
 [.cell 4 3,.t 5]⟩
theorem kZ:cFun Tryz.prog Tryz.f58=some C_impl_FinishTensor.erase:=by kernel_rfl
def L0_impl_PartialNetwork:C:=
 .seq (
 .reg [iI 81 (.bin .lss (.t 80) (.t 79))]) (
 .seq (
 .cond (.t 81) (
 .skip) (
 .exit 2)) (
 .seq (
 .block 3 (
 .seq (
 .reg [iM 82 80,iI 83 (.idx 3 (.t 78) (.t 80)),iI 84 (.ldn 3 (.t 83)),iI 18 (.zer [.nil,.nil,.nil]),iM 17 82,
 ⟨none,none,.st 3 (.t 18) (.t 84)⟩]) (
 .seq (
 .reg [iM 85 17,iM 86 12,iI 87 (.bin .neq (.t 85) (.t 86)),iM 88 87,iG 89 88 true (.mv (.t 17)),iG 90 88 true (.mv (.t 13)),iG 91 88 true (.bin .neq (.t 89) (.t 90)),iI 92 (.pick (.t 88) (.t 91) (.c (.d (.bool false))))]) (
 .cond (.t 92) (
 .reg [iM 93 16,iI 94 (.ldn 3 (.t 18)),iI 95 (.mksl 3 1 [.nil,.nil,.nil] [(0,3,(.t 94))]),iI 96 (.app 3 72 [.nil,.nil,.nil] (.t 93) (.t 95)),iM 16 96]) (
 .skip))))) (
 .reg [iI 97 (.bin .add (.t 80) (.c (.d (.int 1)))),iM 80 97])))
def L1_impl_PartialNetwork:C:=
 .seq (
 .reg [iI 43 (.bin .lss (.t 42) (.t 41))]) (
 .seq (
 .cond (.t 43) (
 .skip) (
 .exit 0)) (
 .seq (
 .block 1 (
 .seq (
 .reg [iI 44 (.idx 2 (.t 40) (.t 42)),iI 45 (.ldn 2 (.t 44)),iI 11 (.zer [.d (.int 0),.d (.int 0)]),
 ⟨none,none,.st 2 (.t 11) (.t 45)⟩]) (
 .seq (
 .draw [iM 46 8,iI 47 (.fld 0 (.t 11)),iI 48 (.ld (.t 47)),iI 49 (.call 99 [(.t 46),(.t 48)]),iM 50 8,iI 51 (.fld 1 (.t 11)),iI 52 (.ld (.t 51))]
 [iI 53 (.call 99 [(.t 50),(.t 52)]),iM 12 49,iM 13 53]) (
 .seq (
 .draw [iI 55 (.fld 0 (.t 3)),iI 56 (.ldn 3 (.t 55)),iI 57 (.fld 3 (.t 9)),iI 58 (.ld (.t 57)),iM 59 12,iI 60 (.idx 3 (.t 58) (.t 59)),iI 61 (.ldn 3 (.t 60)),iI 62 (.fld 3 (.t 9)),iI 63 (.ld (.t 62)),iM 64 13,iI 65 (.idx 3 (.t 63) (.t 64)),iI 66 (.ldn 3 (.t 65)),iM 67 8,iM 68 12,iM 69 13,iI 70 (.call 101 [(.t 67),(.t 68),(.t 69)]),iI 71 (.call 38 [(.t 56),(.t 61),(.t 66),(.t 70)]),iM 54 71,iI 72 (.ext 0 (.t 54)),iI 73 (.ext 1 (.t 54)),iI 14 (.zer [.nil,.nil,.nil])]
 [⟨none,none,.st 3 (.t 14) (.t 72)⟩,iM 15 73]) (
 .seq (
 .seq (
 .reg [iM 74 15,iI 75 (.not (.t 74))]) (
 .cond (.t 75) (
 .seq (
 .reg [iI 76 (.agg [.d (.int 0),.d (.int 0),.d (.int 0),.nil,.nil] []),
 ⟨none,none,.st 5 (.t 6) (.t 76)⟩,iI 7 (.mv (.c (.d (.bool false))))]) (
 .ret)) (
 .skip))) (
 .seq (
 .reg [iI 16 (.mv (.c (.nil)))]) (
 .seq (
 .seq (
 .reg [iI 77 (.fld 3 (.t 9)),iI 78 (.ld (.t 77)),iI 79 (.len (.t 78)),iI 80 (.mv (.c (.d (.int 0))))]) (
 .block 2 (
 .loop L0_impl_PartialNetwork))) (
 .seq (
 .reg [iM 98 16,iI 99 (.ldn 3 (.t 14)),iI 100 (.mksl 3 1 [.nil,.nil,.nil] [(0,3,(.t 99))]),iI 101 (.app 3 72 [.nil,.nil,.nil] (.t 98) (.t 100)),iI 102 (.fld 3 (.t 9)),
 ⟨none,none,.st 1 (.t 102) (.t 101)⟩]) (
 .reg [iM 103 8,iM 104 12,iM 105 13,iI 106 (.call 100 [(.t 103),(.t 104),(.t 105)])]))))))))) (
 .reg [iI 107 (.bin .add (.t 42) (.c (.d (.int 1)))),iM 42 107])))
def C_impl_PartialNetwork:Fun:=⟨3,109,
 .seq (
 .reg [iI 3 (.box (.t 0)),iI 6 (.zer [.d (.int 0),.d (.int 0),.d (.int 0),.nil,.nil]),iI 7 (.mv (.c (.d (.bool false))))]) (
 .seq (
 .seq (
 .reg [iI 19 (.ldn 5 (.t 3)),iM 20 1,iI 21 (.call 25 [(.t 19),(.t 20)]),iI 22 (.not (.t 21)),iM 23 22,iG 24 23 false (.mv (.t 2)),iG 25 23 false (.bin .lss (.t 24) (.c (.d (.int 0)))),iI 26 (.pick (.t 23) (.c (.d (.bool true))) (.t 25)),iM 27 26,iG 28 27 false (.mv (.t 2)),iG 29 27 false (.mv (.t 1)),iG 30 27 false (.len (.t 29)),iG 31 27 false (.bin .gtr (.t 28) (.t 30)),iI 32 (.pick (.t 27) (.c (.d (.bool true))) (.t 31))]) (
 .cond (.t 32) (
 .seq (
 .reg [iI 33 (.agg [.d (.int 0),.d (.int 0),.d (.int 0),.nil,.nil] []),
 ⟨none,none,.st 5 (.t 6) (.t 33)⟩,iI 7 (.mv (.c (.d (.bool false))))]) (
 .ret)) (
 .skip))) (
 .seq (
 .reg [iI 34 (.ldn 5 (.t 3)),iI 35 (.call 50 [(.t 34)]),iM 8 35]) (
 .seq (
 .reg [iI 36 (.ldn 5 (.t 3)),iI 37 (.call 30 [(.t 36)]),iI 9 (.zer [.d (.int 0),.d (.int 0),.d (.int 0),.nil,.nil]),
 ⟨none,none,.st 5 (.t 9) (.t 37)⟩]) (
 .seq (
 .seq (
 .reg [iM 38 1,iM 39 2,iI 40 (.slc 2 (.t 38) none (some (.t 39))),iI 41 (.len (.t 40)),iI 42 (.mv (.c (.d (.int 0))))]) (
 .block 0 (
 .loop L1_impl_PartialNetwork))) (
 .seq (
 .reg [iI 108 (.ldn 5 (.t 9)),
 ⟨none,none,.st 5 (.t 6) (.t 108)⟩,iI 7 (.mv (.c (.d (.bool true))))]) (
 .ret)))))),
 [.cell 6 5,.t 7]⟩
theorem jE:cFun Tryz.prog Tryz.f56=some C_impl_PartialNetwork.erase:=by kernel_rfl
def C_impl_Contract:Fun:=⟨2,34,
 .seq (
 .reg [iI 2 (.box (.t 0)),iI 4 (.zer [.nil,.nil,.nil]),iI 5 (.mv (.c (.d (.bool false))))]) (
 .seq (
 .reg [iI 9 (.ldn 5 (.t 2)),iM 10 1,iM 11 1,iI 12 (.len (.t 11)),iI 13 (.call 56 [(.t 9),(.t 10),(.t 12)]),iM 8 13,iI 14 (.ext 0 (.t 8)),iI 15 (.ext 1 (.t 8)),iI 6 (.zer [.d (.int 0),.d (.int 0),.d (.int 0),.nil,.nil]),
 ⟨none,none,.st 5 (.t 6) (.t 14)⟩,iM 7 15]) (
 .seq (
 .seq (
 .reg [iM 16 7,iI 17 (.not (.t 16))]) (
 .cond (.t 17) (
 .seq (
 .reg [iI 18 (.agg [.nil,.nil,.nil] []),
 ⟨none,none,.st 3 (.t 4) (.t 18)⟩,iI 5 (.mv (.c (.d (.bool false))))]) (
 .ret)) (
 .skip))) (
 .seq (
 .seq (
 .reg [iI 19 (.fld 3 (.t 6)),iI 20 (.ld (.t 19)),iI 21 (.len (.t 20)),iI 22 (.bin .eql (.t 21) (.c (.d (.int 0))))]) (
 .cond (.t 22) (
 .seq (
 .reg [iI 23 (.fld 0 (.t 2)),iI 24 (.ldn 3 (.t 23)),iI 25 (.call 57 [(.t 24)]),
 ⟨none,none,.st 3 (.t 4) (.t 25)⟩,iI 5 (.mv (.c (.d (.bool true))))]) (
 .ret)) (
 .skip))) (
 .seq (
 .draw [iI 26 (.ldn 5 (.t 2)),iI 27 (.fld 3 (.t 6)),iI 28 (.ld (.t 27)),iI 29 (.idx 3 (.t 28) (.c (.d (.int 0)))),iI 30 (.ldn 3 (.t 29)),iI 31 (.call 58 [(.t 26),(.t 30)]),iI 32 (.ext 0 (.t 31)),iI 33 (.ext 1 (.t 31))]
 [⟨none,none,.st 3 (.t 4) (.t 32)⟩,iM 5 33]) (
 .ret))))),
 [.cell 4 3,.t 5]⟩
theorem jB:cFun Tryz.prog Tryz.f21=some C_impl_Contract.erase:=by kernel_rfl
def L0_laws_ints:C:=
 .seq (
 .reg [iI 10 (.bin .lss (.t 9) (.t 8))]) (
 .seq (
 .cond (.t 10) (
 .skip) (
 .exit 0)) (
 .seq (
 .block 1 (
 .seq (
 .reg [iM 11 9,iI 12 (.idx 1 (.t 7) (.t 9)),iI 13 (.ld (.t 12)),iM 5 11,iM 6 13]) (
 .seq (
 .reg [iM 14 5,iM 15 1,iI 16 (.len (.t 15)),iI 17 (.bin .geq (.t 14) (.t 16)),iM 18 17,iG 19 18 false (.mv (.t 1)),iG 20 18 false (.mv (.t 5)),iG 21 18 false (.idx 1 (.t 19) (.t 20)),iG 22 18 false (.ld (.t 21)),iG 23 18 false (.mv (.t 6)),iG 24 18 false (.bin .neq (.t 22) (.t 23)),iI 25 (.pick (.t 18) (.c (.d (.bool true))) (.t 24))]) (
 .cond (.t 25) (
 .seq (
 .reg [iI 4 (.mv (.c (.d (.bool false))))]) (
 .ret)) (
 .skip))))) (
 .reg [iI 26 (.bin .add (.t 9) (.c (.d (.int 1)))),iM 9 26])))
def C_laws_ints:Fun:=⟨2,32,
 .seq (
 .reg [iI 4 (.mv (.c (.d (.bool false))))]) (
 .seq (
 .seq (
 .reg [iM 7 0,iI 8 (.len (.t 7)),iI 9 (.mv (.c (.d (.int 0))))]) (
 .block 0 (
 .loop L0_laws_ints))) (
 .seq (
 .reg [iM 27 0,iI 28 (.len (.t 27)),iM 29 1,iI 30 (.len (.t 29)),iI 31 (.bin .eql (.t 28) (.t 30)),iM 4 31]) (
 .ret))),
 [.t 4]⟩
theorem wg:cFun Tryz.prog Tryz.f46=some C_laws_ints.erase:=by kernel_rfl
def C_laws_same:Fun:=⟨2,24,
 .seq (
 .reg [iI 2 (.box (.t 0)),iI 3 (.box (.t 1)),iI 4 (.mv (.c (.d (.bool false))))]) (
 .seq (
 .reg [iI 5 (.fld 0 (.t 2)),iI 6 (.ld (.t 5)),iI 7 (.fld 0 (.t 3)),iI 8 (.ld (.t 7)),iI 9 (.call 46 [(.t 6),(.t 8)]),iM 10 9,iG 11 10 true (.fld 1 (.t 2)),iG 12 10 true (.ld (.t 11)),iG 13 10 true (.fld 1 (.t 3)),iG 14 10 true (.ld (.t 13)),iG 15 10 true (.call 46 [(.t 12),(.t 14)]),iI 16 (.pick (.t 10) (.t 15) (.c (.d (.bool false)))),iM 17 16,iG 18 17 true (.fld 2 (.t 2)),iG 19 17 true (.ld (.t 18)),iG 20 17 true (.fld 2 (.t 3)),iG 21 17 true (.ld (.t 20)),iG 22 17 true (.call 46 [(.t 19),(.t 21)]),iI 23 (.pick (.t 17) (.t 22) (.c (.d (.bool false)))),iM 4 23]) (
 .ret)),
 [.t 4]⟩
theorem wc:cFun Tryz.prog Tryz.f14=some C_laws_same.erase:=by kernel_rfl
def C_laws_worth:Fun:=⟨1,11,
 .seq (
 .reg [iI 1 (.box (.t 0)),iI 2 (.zer [.nil,.nil,.nil])]) (
 .seq (
 .reg [iI 6 (.ldn 5 (.t 1)),iI 7 (.call 45 [(.t 6)]),iM 5 7,iI 8 (.ext 0 (.t 5)),iI 9 (.ext 1 (.t 5)),iI 3 (.zer [.nil,.nil,.nil]),
 ⟨none,none,.st 3 (.t 3) (.t 8)⟩,iM 4 9]) (
 .seq (
 .reg [iI 10 (.ldn 3 (.t 3)),
 ⟨none,none,.st 3 (.t 2) (.t 10)⟩]) (
 .ret))),
 [.cell 2 3]⟩
theorem uv:cFun Tryz.prog Tryz.f15=some C_laws_worth.erase:=by kernel_rfl
def L0_spec_l12Weight:C:=
 .seq (
 .reg [iI 28 (.bin .lss (.t 27) (.t 26))]) (
 .seq (
 .cond (.t 28) (
 .skip) (
 .exit 2)) (
 .seq (
 .block 3 (
 .seq (
 .reg [iI 29 (.idx 1 (.t 25) (.t 27)),iI 30 (.ld (.t 29)),iM 12 30]) (
 .reg [iM 31 10,iM 32 2,iM 33 1,iM 34 12,iI 35 (.call 80 [(.t 33),(.t 34)]),iI 36 (.idx 1 (.t 32) (.t 35)),iI 37 (.ld (.t 36)),iI 38 (.mksl 1 1 [.d (.int 0)] [(0,1,(.t 37))]),iI 39 (.app 1 8 [.d (.int 0)] (.t 31) (.t 38)),iM 10 39]))) (
 .reg [iI 40 (.bin .add (.t 27) (.c (.d (.int 1)))),iM 27 40])))
def L1_spec_l12Weight:C:=
 .seq (
 .reg [iI 20 (.bin .lss (.t 19) (.t 18))]) (
 .seq (
 .cond (.t 20) (
 .skip) (
 .exit 0)) (
 .seq (
 .block 1 (
 .seq (
 .reg [iI 21 (.idx 3 (.t 17) (.t 19)),iI 22 (.ldn 3 (.t 21)),iI 9 (.zer [.nil,.nil,.nil]),
 ⟨none,none,.st 3 (.t 9) (.t 22)⟩]) (
 .seq (
 .reg [iI 23 (.mksl 1 0 [.d (.int 0)] []),iM 10 23]) (
 .seq (
 .seq (
 .reg [iI 24 (.fld 0 (.t 9)),iI 25 (.ld (.t 24)),iI 26 (.len (.t 25)),iI 27 (.mv (.c (.d (.int 0))))]) (
 .block 2 (
 .loop L0_spec_l12Weight))) (
 .draw [iI 41 (.fld 0 (.t 3)),iI 42 (.ldn 3 (.t 41)),iM 43 7,iI 44 (.fld 0 (.t 3)),iI 45 (.ldn 3 (.t 44)),iI 46 (.ldn 3 (.t 9)),iI 47 (.fld 1 (.t 9)),iI 48 (.ld (.t 47)),iM 49 10,iI 50 (.call 84 [(.t 48),(.t 49)]),iI 51 (.call 83 [(.t 45),(.t 46),(.t 50)])]
 [iI 52 (.call 118 [(.t 42),(.t 43),(.t 51)]),iM 7 52]))))) (
 .reg [iI 53 (.bin .add (.t 19) (.c (.d (.int 1)))),iM 19 53])))
def C_spec_l12Weight:Fun:=⟨3,55,
 .seq (
 .reg [iI 3 (.box (.t 0)),iI 6 (.mv (.c (.nil)))]) (
 .seq (
 .reg [iI 13 (.fld 0 (.t 3)),iI 14 (.ldn 3 (.t 13)),iI 15 (.call 111 [(.t 14)]),iM 7 15]) (
 .seq (
 .seq (
 .reg [iI 16 (.fld 3 (.t 3)),iI 17 (.ld (.t 16)),iI 18 (.len (.t 17)),iI 19 (.mv (.c (.d (.int 0))))]) (
 .block 0 (
 .loop L1_spec_l12Weight))) (
 .seq (
 .reg [iM 54 7,iM 6 54]) (
 .ret)))),
 [.t 6]⟩
theorem nF:cFun Tryz.prog Tryz.f98=some C_spec_l12Weight.erase:=by kernel_rfl
def L0_spec_NetworkValue:C:=
 .seq (
 .reg [iI 53 (.bin .lss (.t 52) (.t 51))]) (
 .seq (
 .cond (.t 53) (
 .skip) (
 .exit 2)) (
 .seq (
 .block 3 (
 .seq (
 .reg [iI 54 (.idx 1 (.t 50) (.t 52)),iI 55 (.ld (.t 54)),iM 12 55]) (
 .reg [iM 56 10,iM 57 9,iM 58 4,iM 59 12,iI 60 (.call 80 [(.t 58),(.t 59)]),iI 61 (.idx 1 (.t 57) (.t 60)),iI 62 (.ld (.t 61)),iI 63 (.mksl 1 1 [.d (.int 0)] [(0,1,(.t 62))]),iI 64 (.app 1 8 [.d (.int 0)] (.t 56) (.t 63)),iM 10 64]))) (
 .reg [iI 65 (.bin .add (.t 52) (.c (.d (.int 1)))),iM 52 65])))
def L1_spec_NetworkValue:C:=
 .seq (
 .seq (
 .reg [iM 40 8,iM 41 6,iI 42 (.bin .lss (.t 40) (.t 41))]) (
 .cond (.t 42) (
 .skip) (
 .exit 0))) (
 .seq (
 .block 1 (
 .seq (
 .reg [iM 45 5,iM 46 8,iI 47 (.call 82 [(.t 45),(.t 46)]),iM 9 47]) (
 .seq (
 .reg [iI 48 (.mksl 1 0 [.d (.int 0)] []),iM 10 48]) (
 .seq (
 .seq (
 .reg [iI 49 (.fld 4 (.t 1)),iI 50 (.ld (.t 49)),iI 51 (.len (.t 50)),iI 52 (.mv (.c (.d (.int 0))))]) (
 .block 2 (
 .loop L0_spec_NetworkValue))) (
 .seq (
 .reg [iI 66 (.fld 1 (.t 7)),iI 67 (.ld (.t 66)),iM 68 10,iI 69 (.call 84 [(.t 67),(.t 68)]),iM 13 69]) (
 .draw [iI 70 (.fld 0 (.t 1)),iI 71 (.ldn 3 (.t 70)),iI 72 (.ldn 3 (.t 7)),iM 73 13,iI 74 (.fld 0 (.t 1)),iI 75 (.ldn 3 (.t 74)),iI 76 (.fld 0 (.t 1)),iI 77 (.ldn 3 (.t 76)),iI 78 (.ldn 3 (.t 7)),iM 79 13,iI 80 (.call 83 [(.t 77),(.t 78),(.t 79)]),iI 81 (.ldn 5 (.t 1)),iM 82 4,iM 83 9,iI 84 (.call 98 [(.t 81),(.t 82),(.t 83)]),iI 85 (.call 97 [(.t 75),(.t 80),(.t 84)])]
 [iI 86 (.call 78 [(.t 71),(.t 72),(.t 73),(.t 85)])])))))) (
 .reg [iM 43 8,iI 44 (.bin .add (.t 43) (.c (.d (.int 1)))),iM 8 44]))
def C_spec_NetworkValue:Fun:=⟨1,88,
 .seq (
 .reg [iI 1 (.box (.t 0)),iI 2 (.zer [.nil,.nil,.nil]),iI 3 (.mv (.c (.d (.bool false))))]) (
 .seq (
 .seq (
 .reg [iI 14 (.ldn 5 (.t 1)),iI 15 (.call 95 [(.t 14)]),iI 16 (.not (.t 15))]) (
 .cond (.t 16) (
 .seq (
 .reg [iI 17 (.agg [.nil,.nil,.nil] []),
 ⟨none,none,.st 3 (.t 2) (.t 17)⟩,iI 3 (.mv (.c (.d (.bool false))))]) (
 .ret)) (
 .skip))) (
 .seq (
 .reg [iI 18 (.fld 3 (.t 1)),iI 19 (.ld (.t 18)),iI 20 (.call 65 [(.t 19)]),iM 4 20]) (
 .seq (
 .reg [iI 21 (.fld 3 (.t 1)),iI 22 (.ld (.t 21)),iM 23 4,iI 24 (.call 96 [(.t 22),(.t 23)]),iM 5 24]) (
 .seq (
 .reg [iM 25 5,iI 26 (.call 77 [(.t 25),(.c (.d (.int 65536)))]),iM 6 26]) (
 .seq (
 .seq (
 .reg [iM 27 6,iI 28 (.bin .gtr (.t 27) (.c (.d (.int 65536))))]) (
 .cond (.t 28) (
 .seq (
 .reg [iI 29 (.agg [.nil,.nil,.nil] []),
 ⟨none,none,.st 3 (.t 2) (.t 29)⟩,iI 3 (.mv (.c (.d (.bool false))))]) (
 .ret)) (
 .skip))) (
 .seq (
 .draw [iI 30 (.fld 0 (.t 1)),iI 31 (.ldn 3 (.t 30)),iI 32 (.fld 4 (.t 1)),iI 33 (.ld (.t 32)),iI 34 (.fld 3 (.t 1)),iI 35 (.ld (.t 34)),iI 36 (.fld 4 (.t 1)),iI 37 (.ld (.t 36)),iI 38 (.call 96 [(.t 35),(.t 37)]),iI 39 (.call 76 [(.t 31),(.t 33),(.t 38)]),iI 7 (.zer [.nil,.nil,.nil])]
 [⟨none,none,.st 3 (.t 7) (.t 39)⟩]) (
 .seq (
 .seq (
 .reg [iI 8 (.mv (.c (.d (.int 0))))]) (
 .block 0 (
 .loop L1_spec_NetworkValue))) (
 .seq (
 .reg [iI 87 (.ldn 3 (.t 7)),
 ⟨none,none,.st 3 (.t 2) (.t 87)⟩,iI 3 (.mv (.c (.d (.bool true))))]) (
 .ret))))))))),
 [.cell 2 3,.t 3]⟩
theorem kY:cFun Tryz.prog Tryz.f45=some C_spec_NetworkValue.erase:=by kernel_rfl
end Go.Proofs.YtneocijmbnhblaaGreat
