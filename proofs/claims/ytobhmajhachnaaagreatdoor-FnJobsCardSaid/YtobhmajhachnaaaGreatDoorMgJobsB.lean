/-
 The compiled code of functions of the seat (written by mkcode.py). No condition.
-/
import Derived.Test.YtobhmajhachnaaaGreatDoorLiftM
import Derived.Test.YtobhmajhachnaaaGreatDoorProg
import Derived.KernelRfl
namespace Go.Proofs.YtobhmajhachnaaaGreatDoor
open Go.Lift
def tK:C:=rQ [iB 10 .lss 9 8] (.seq (.cond (.t 10) (.skip) (.exit 0)) (.seq (.block 1 (rQ [iM 11 9,iJ 12 1 7 9,iU 13 12,iM 5 11,iM 6 13] (rQ [iM 14 5,iM 15 1,iE 16 15,iB 17 .geq 14 16,iM 18 17,iH 19 18 (jM 1),iH 20 18 (jM 5),iH 21 18 (jJ 1 19 20),iH 22 18 (jL 21),iH 23 18 (jM 6),iH 24 18 (jB .neq 22 23),iR 25 18 24] (.cond (.t 25) (rR [iI 4 (jV false)]) (.skip))))) (.reg [iK 26 .add 9 1,iM 9 26])))
def vy:Fun:=⟨2,32,rQ [iI 4 (jV false)] (.seq (rQ [iM 7 0,iE 8 7,iI 9 (jZ 0)] (.block 0 (.loop tK))) (rR [iM 27 0,iE 28 27,iM 29 1,iE 30 29,iB 31 .eql 28 30,iM 4 31])),
 [.t 4]⟩
theorem Cl:cFun Tryz.prog Tryz.f19=some vy.erase:=by kernel_rfl
def vx:Fun:=⟨2,24,rQ [iI 2 (.box (.t 0)),iI 3 (.box (.t 1)),iI 4 (jV false)] (rR [iF 5 0 2,iU 6 5,iF 7 0 3,iU 8 7,iD 9 19 6 8,iM 10 9,iG 11 10 true (jF 1 2),iG 12 10 true (jL 11),iG 13 10 true (jF 1 3),iG 14 10 true (jL 13),iG 15 10 true (jD 19 12 14),iI 16 (jS 10 15),iM 17 16,iG 18 17 true (jF 2 2),iG 19 17 true (jL 18),iG 20 17 true (jF 2 3),iG 21 17 true (jL 20),iG 22 17 true (jD 19 19 21),iI 23 (jS 17 22),iM 4 23]),
 [.t 4]⟩
theorem Ck:cFun Tryz.prog Tryz.f14=some vx.erase:=by kernel_rfl
def tN:Fun:=⟨1,11,rQ [iI 1 (.box (.t 0)),iI 2 jG] (rQ [iN 6 5 1,iA 7 48 6,iM 5 7,iX 8 0 5,iX 9 1 5,iI 3 jG,iS 3 3 8,iM 4 9] (rR [iN 10 3 3,iS 3 2 10])),
 [.cell 2 3]⟩
theorem AL:cFun Tryz.prog Tryz.f15=some tN.erase:=by kernel_rfl
def kU:C:=rQ [iB 28 .lss 27 26] (.seq (.cond (.t 28) (.skip) (.exit 2)) (.seq (.block 3 (rQ [iJ 29 1 25 27,iU 30 29,iM 12 30] (.reg [iM 31 10,iM 32 2,iM 33 1,iM 34 12,iD 35 61 33 34,iJ 36 1 32 35,iU 37 36,iI 38 (.mksl 1 1 [.d (.int 0)] [(0,1,(.t 37))]),iI 39 (.app 1 8 [.d (.int 0)] (.t 31) (.t 38)),iM 10 39]))) (.reg [iK 40 .add 27 1,iM 27 40])))
def kP:C:=rQ [iB 20 .lss 19 18] (.seq (.cond (.t 20) (.skip) (.exit 0)) (.seq (.block 1 (rQ [iJ 21 3 17 19,iN 22 3 21,iI 9 jG,iS 3 9 22] (rQ [iI 23 (.mksl 1 0 [.d (.int 0)] []),iM 10 23] (.seq (rQ [iF 24 0 9,iU 25 24,iE 26 25,iI 27 (jZ 0)] (.block 2 (.loop kU))) (.draw [iF 41 0 3,iN 42 3 41,iM 43 7,iF 44 0 3,iN 45 3 44,iN 46 3 9,iF 47 1 9,iU 48 47,iM 49 10,iD 50 83 48 49,iI 51 (jH 86 45 46 50)] [iI 52 (jH 117 42 43 51),iM 7 52]))))) (.reg [iK 53 .add 19 1,iM 19 53])))
def mq:Fun:=⟨3,55,rQ [iI 3 (.box (.t 0)),iI 6 jY] (rQ [iF 13 0 3,iN 14 3 13,iA 15 116 14,iM 7 15] (.seq (rQ [iF 16 3 3,iU 17 16,iE 18 17,iI 19 (jZ 0)] (.block 0 (.loop kP))) (rR [iM 54 7,iM 6 54]))),
 [.t 6]⟩
theorem uk:cFun Tryz.prog Tryz.f87=some mq.erase:=by kernel_rfl
def gR:C:=rQ [iB 53 .lss 52 51] (.seq (.cond (.t 53) (.skip) (.exit 2)) (.seq (.block 3 (rQ [iJ 54 1 50 52,iU 55 54,iM 12 55] (.reg [iM 56 10,iM 57 9,iM 58 4,iM 59 12,iD 60 61 58 59,iJ 61 1 57 60,iU 62 61,iI 63 (.mksl 1 1 [.d (.int 0)] [(0,1,(.t 62))]),iI 64 (.app 1 8 [.d (.int 0)] (.t 56) (.t 63)),iM 10 64]))) (.reg [iK 65 .add 52 1,iM 52 65])))
def gO:C:=.seq (rQ [iM 40 8,iM 41 6,iB 42 .lss 40 41] (.cond (.t 42) (.skip) (.exit 0))) (.seq (.block 1 (rQ [iM 45 5,iM 46 8,iD 47 82 45 46,iM 9 47] (rQ [iI 48 (.mksl 1 0 [.d (.int 0)] []),iM 10 48] (.seq (rQ [iF 49 4 1,iU 50 49,iE 51 50,iI 52 (jZ 0)] (.block 2 (.loop gR))) (rQ [iF 66 1 7,iU 67 66,iM 68 10,iD 69 83 67 68,iM 13 69] (.draw [iF 70 0 1,iN 71 3 70,iN 72 3 7,iM 73 13,iF 74 0 1,iN 75 3 74,iF 76 0 1,iN 77 3 76,iN 78 3 7,iM 79 13,iI 80 (jH 86 77 78 79),iN 81 5 1,iM 82 4,iM 83 9,iI 84 (jH 87 81 82 83),iI 85 (jH 85 75 80 84)] [iI 86 (.call 84 [(.t 71),(.t 72),(.t 73),(.t 85)])])))))) (.reg [iM 43 8,iK 44 .add 43 1,iM 8 44]))
def iq:Fun:=⟨1,88,rQ [iI 1 (.box (.t 0)),iI 2 jG,iI 3 (jV false)] (.seq (rQ [iN 14 5 1,iA 15 78 14,iO 16 15] (.cond (.t 16) (rR [iI 17 (.agg [.nil,.nil,.nil] []),iS 3 2 17,iI 3 (jV false)]) (.skip))) (rQ [iF 18 3 1,iU 19 18,iA 20 58 19,iM 4 20] (rQ [iF 21 3 1,iU 22 21,iM 23 4,iD 24 79 22 23,iM 5 24] (rQ [iM 25 5,iI 26 (.call 80 [(.t 25),(oK 65536)]),iM 6 26] (.seq (rQ [iM 27 6,iK 28 .gtr 27 65536] (.cond (.t 28) (rR [iI 29 (.agg [.nil,.nil,.nil] []),iS 3 2 29,iI 3 (jV false)]) (.skip))) (.seq (.draw [iF 30 0 1,iN 31 3 30,iF 32 4 1,iU 33 32,iF 34 3 1,iU 35 34,iF 36 4 1,iU 37 36,iD 38 79 35 37,iI 39 (jH 81 31 33 38),iI 7 jG] [iS 3 7 39]) (.seq (rQ [iI 8 (jZ 0)] (.block 0 (.loop gO))) (rR [iN 87 3 7,iS 3 2 87,iI 3 (jV true)])))))))),
 [.cell 2 3,.t 3]⟩
theorem qq:cFun Tryz.prog Tryz.f48=some iq.erase:=by kernel_rfl
def mE:Fun:=⟨1,5,rQ [iI 2 jY] (rR [iM 3 0,iI 4 (.app 2 16 [.d (.int 0),.d (.int 0)] (.c (.nil)) (.t 3)),iM 2 4]),
 [.t 2]⟩
theorem ux:cFun Tryz.prog Tryz.f37=some mE.erase:=by kernel_rfl
def qJ:C:=rQ [iB 10 .lss 9 8] (.seq (.cond (.t 10) (.skip) (.exit 0)) (.seq (.block 1 (rQ [iM 11 9,iJ 12 2 7 9,iN 13 2 12,iI 6 (.zer [.d (.int 0),.d (.int 0)]),iM 5 11,iS 2 6 13] (.seq (.draw [iM 14 5,iM 15 1,iE 16 15,iB 17 .geq 14 16,iM 18 17,iH 19 18 (jM 1),iH 20 18 (jM 5),iH 21 18 (jJ 2 19 20),iH 22 18 (jN 2 21),iH 23 18 (jN 2 6)] [iH 24 18 (.eqs true 2 (.t 22) (.t 23)),iR 25 18 24]) (.cond (.t 25) (rR [iI 4 (jV false)]) (.skip))))) (.reg [iK 26 .add 9 1,iM 9 26])))
def tP:Fun:=⟨2,32,rQ [iI 4 (jV false)] (.seq (rQ [iM 7 0,iE 8 7,iI 9 (jZ 0)] (.block 0 (.loop qJ))) (rR [iM 27 0,iE 28 27,iM 29 1,iE 30 29,iB 31 .eql 28 30,iM 4 31])),
 [.t 4]⟩
theorem AM:cFun Tryz.prog Tryz.f18=some tP.erase:=by kernel_rfl
def gU:C:=.seq (rQ [iM 38 8,iF 39 1 3,iU 40 39,iA 41 30 40,iB 42 .lss 38 41] (.cond (.t 42) (.skip) (.exit 2))) (.seq (.block 3 (.reg [iM 45 5,iN 46 3 2,iN 47 3 3,iM 48 8,iI 49 (jH 76 46 47 48),iA 50 75 49,
 ⟨some 51,none,.mksl 1 1 [.d (.str ⟨#[]⟩)] [(0,1,(.t 50))]⟩,
 ⟨some 52,none,.app 1 16 [.d (.str ⟨#[]⟩)] (.t 45) (.t 51)⟩,iM 5 52])) (.reg [iM 43 8,iK 44 .add 43 1,iM 8 44]))
def gP:C:=rQ [iB 17 .lss 16 15] (.seq (.cond (.t 17) (.skip) (.exit 0)) (.seq (.block 1 (rQ [iM 18 16,iJ 19 1 14 16,iU 20 19,iM 6 18,iM 7 20] (.draw [iM 21 5,iM 22 7,iA 23 45 22,
 ⟨some 24,none,.cat (.t 23) (.c (.d (.str ⟨#[58]⟩)))⟩,iF 25 1 3,iU 26 25,iM 27 6,iJ 28 1 26 27,iU 29 28,iA 30 45 29,iI 31 (.cat (.t 24) (.t 30)),
 ⟨some 32,none,.mksl 1 1 [.d (.str ⟨#[]⟩)] [(0,1,(.t 31))]⟩] [⟨some 33,none,.app 1 16 [.d (.str ⟨#[]⟩)] (.t 21) (.t 32)⟩,iM 5 33]))) (.reg [iK 34 .add 16 1,iM 16 34])))
def it:Fun:=⟨2,55,rQ [iI 2 (.box (.t 0)),iI 3 (.box (.t 1)),
 ⟨some 4,none,.mv (.c (.d (.str ⟨#[]⟩)))⟩] (.seq (rQ [iN 9 3 2,iN 10 3 3,iD 11 52 9 10,iO 12 11] (.cond (.t 12) (rR [⟨some 4,none,.mv (.c (.d (.str ⟨#[]⟩)))⟩]) (.skip))) (rQ [iI 5 jY] (.seq (rQ [iF 13 0 3,iU 14 13,iE 15 14,iI 16 (jZ 0)] (.block 0 (.loop gP))) (rQ [iM 35 5,
 ⟨some 36,none,.mksl 1 1 [.d (.str ⟨#[]⟩)] [(0,1,(.c (.d (.str ⟨#[61]⟩))))]⟩,
 ⟨some 37,none,.app 1 16 [.d (.str ⟨#[]⟩)] (.t 35) (.t 36)⟩,iM 5 37] (.seq (rQ [iI 8 (jZ 0)] (.block 2 (.loop gU))) (rR [iM 53 5,
 ⟨some 54,none,.call 47 [(.t 53),(.c (.d (.str ⟨#[32]⟩)))]⟩,iM 4 54])))))),
 [.t 4]⟩
theorem qt:cFun Tryz.prog Tryz.f46=some it.erase:=by kernel_rfl
def mK:Fun:=⟨1,5,rQ [⟨some 2,none,.mv (.c (.d (.str ⟨#[]⟩)))⟩] (rR [iM 3 0,iA 4 73 3,iM 2 4]),
 [.t 2]⟩
theorem uD:cFun Tryz.prog Tryz.f45=some mK.erase:=by kernel_rfl
def ij:C:=rQ [iB 12 .lss 11 10] (.seq (.cond (.t 12) (.skip) (.exit 0)) (.seq (.block 1 (rQ [iM 13 11,iJ 14 1 9 11,iU 15 14,iM 4 13,iM 5 15] (.reg [iM 16 3,iM 17 4,iM 18 5,iA 19 45 18,iJ 20 1 16 17,iS 1 20 19]))) (.reg [iK 21 .add 11 1,iM 11 21])))
def kh:Fun:=⟨1,24,rQ [⟨some 2,none,.mv (.c (.d (.str ⟨#[]⟩)))⟩] (rQ [iM 6 0,iE 7 6,
 ⟨some 8,none,.make 1 16 [.d (.str ⟨#[]⟩)] (.t 7) (.t 7)⟩,iM 3 8] (.seq (rQ [iM 9 0,iE 10 9,iI 11 (jZ 0)] (.block 0 (.loop ij))) (rR [iM 22 3,
 ⟨some 23,none,.call 47 [(.t 22),(.c (.d (.str ⟨#[44]⟩)))]⟩,iM 2 23]))),
 [.t 2]⟩
theorem rr:cFun Tryz.prog Tryz.f75=some kh.erase:=by kernel_rfl
def vz:Fun:=⟨2,8,rQ [⟨some 4,none,.mv (.c (.d (.str ⟨#[]⟩)))⟩] (rR [iM 5 0,iM 6 1,iD 7 77 5 6,iM 4 7]),
 [.t 4]⟩
theorem Cm:cFun Tryz.prog Tryz.f47=some vz.erase:=by kernel_rfl
def le:Fun:=⟨3,13,rQ [iI 5 (.box (.t 2)),iI 6 jY] (.seq (.draw [iM 7 0,iM 8 1,iD 9 21 7 8,iN 10 5 5] [iA 11 25 10,iD 12 24 9 11,iM 6 12]) (.ret)),
 [.t 6]⟩
theorem sH:cFun Tryz.prog Tryz.f7=some le.erase:=by kernel_rfl
end Go.Proofs.YtobhmajhachnaaaGreatDoor
