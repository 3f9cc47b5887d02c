/-
 Contracts: primes, rings, sizes of tensors, tensors that are right. No condition.
-/
import Derived.Test.YtobhmajhachnaaaGreatDoorLift28
import Derived.Test.YtobhmajhachnaaaGreatDoorMgJobsA
import Derived.Test.YtobhmajhachnaaaGreatDoorLiftG
set_option linter.unusedSimpArgs false
set_option linter.unusedVariables false
namespace Go.Proofs.YtobhmajhachnaaaGreatDoor
open Go.RowKit Go.Lift Plain
set_option maxRecDepth 100000
theorem gg(x lo hi:Int):Does Tryz.prog 145 [.d (.int x),.d (.int lo),.d (.int hi)] [] (.d (.bool (decide (lo≤x∧x≤hi)))) []:=by
 generalize hB:decide (lo≤x∧x≤hi)=B;refine zS Tryz.func145 AK ?_;unfold tM;refine zT ?_;by_cases h1:x≥lo
 ·by_cases h2:x≤hi
  ·have e:B=true:=hB ▸ decide_eq_true ⟨h1,h2⟩
   simp only[go_sem,seval,reduceCtorEq,h1,h2,e];exact zX
  ·have e:B=false:=hB ▸ decide_eq_false fun h=>h2 h.2
   simp only[go_sem,seval,reduceCtorEq,h1,h2,e];exact zX
 ·have e:B=false:=hB ▸ decide_eq_false fun h=>h1 h.1
  simp only[go_sem,seval,reduceCtorEq,h1,e];exact zX
def C6(n:Int)(k:Nat):Prop:=∀d:Nat,2≤d→d<k→n % d≠0
theorem zh(n:Int):C6 n 2:=fun d h1 h2=>by omega
theorem wY{n:Int}{k:Nat}(h:C6 n k)(h2:n % k≠0):C6 n (k+1):=fun d h1 h3=>by
 by_cases e:d=k
 ·subst e;exact h2
 ·exact h d h1 (by omega)
theorem rD(n:Int):Does Tryz.prog 99 [.d (.int n)] [] (.d (.bool (bZ n))) []:=by
 refine zS Tryz.func99 xx ?_;unfold pX;refine zT ?_;by_cases h1:n<2
 ·have e:=xB h1
  simp only[go_sem,seval,reduceCtorEq,h1,e];exact zX
 by_cases h2:n>1000003
 ·have e:=rB h2
  simp only[go_sem,seval,reduceCtorEq,h1,h2,e];exact zX
 simp only[go_sem,seval,reduceCtorEq,h1,h2];refine rO (2) (fun i=>1100-i) (mkB 21 2096132) (fun i=>2≤i∧i≤1001∧C6 n i) (fun i=>[(3,.d (.int (i:Nat)))]) (fun i=>[]) (hi:=⟨by omega,by omega,zh n⟩) (hr:=fun i hi=> ?_);unfold nP;obtain⟨i1,i2,i3⟩:=hi;have hs:=Lb i2;have hw:IntKind.i64.wrap ((i:Int)*i)=(i:Int)*i:=IntWalk.i64_in _ (by omega);by_cases h3:(i:Int)*i≤n
 ·have e0:n.tmod i=n % i:=Int.tmod_eq_emod_of_nonneg (by omega)
  have n0:(i:Int)≠0:=by omega
  have hi0:=GF h3 (by omega);by_cases h4:n % i=0
  ·have e:=vi i1 h3 (by omega) h4
   have c:(n % (i:Int)==0)=true:=by simp [h4]
   simp(disch:=omega) only[go_sem,seval,reduceCtorEq,hw,h3,e0,c,e,n0,ne_eq,not_false_eq_true];exact zX
  ·have c:(n % (i:Int)==0)=false:=by simp [h4]
   simp(disch:=omega) only[go_sem,seval,reduceCtorEq,hw,h3,e0,c,n0,ne_eq,not_false_eq_true];exact NextS.drop (mkB 21 2096132) (i+1) (by omega) (⟨by omega,by omega,wY i3 h4⟩)
 ·have e:=vh (by omega) (by omega) i3 (Int.not_le.1 h3)
  simp(disch:=omega) only[go_sem,seval,reduceCtorEq,hw,h3,e];exact zX
theorem rf(n:Int):Does Tryz.prog 144 [.d (.int n)] [] (.d (.bool (bZ n))) []:=by
 refine zS Tryz.func144 xn ?_;unfold pP;refine zT ?_;refine rO (2) (fun i=>1100-i) (mkB 21 524276) (fun i=>2≤i∧i≤1001∧C6 n i) (fun i=>[(3,.d (.int (i:Nat)))]) (fun i=>[]) (hi:=⟨by omega,by omega,zh n⟩) (hr:=fun i hi=> ?_);unfold nJ;obtain⟨i1,i2,i3⟩:=hi;have hs:=Lb i2;have hw:IntKind.i64.wrap ((i:Int)*i)=(i:Int)*i:=IntWalk.i64_in _ (by omega);by_cases h3:(i:Int)*i≤n
 ·by_cases h2:n≤1000003
  ·have e0:n.tmod i=n % i:=Int.tmod_eq_emod_of_nonneg (by omega)
   have n0:(i:Int)≠0:=by omega
   have hi0:=GF h3 (by omega);by_cases h4:n % i=0
   ·have e:=vi i1 h3 (by omega) h4
    have c:(n % (i:Int)==0)=true:=by simp [h4]
    simp(disch:=omega) only[go_sem,seval,reduceCtorEq,hw,h3,h2,e0,c,e,n0,ne_eq,not_false_eq_true];exact zX
   ·have c:(n % (i:Int)==0)=false:=by simp [h4]
    simp(disch:=omega) only[go_sem,seval,reduceCtorEq,hw,h3,h2,e0,c,n0,ne_eq,not_false_eq_true];exact NextS.drop (mkB 21 524276) (i+1) (by omega) (⟨by omega,by omega,wY i3 h4⟩)
  ·have e:=rB (Int.not_le.1 h2)
   have e2:decide (2≤n∧n≤1000003)=false:=decide_eq_false fun h=>h2 h.2
   simp(disch:=omega) only[go_sem,seval,reduceCtorEq,hw,h3,h2];(refine zC (gg n 2 1000003) ?_);simp only[go_sem,seval,reduceCtorEq,e,e2];exact zX
 ·simp(disch:=omega) only[go_sem,seval,reduceCtorEq,hw,h3]
  (refine zC (gg n 2 1000003) ?_);by_cases h2:2≤n∧n≤1000003
  ·have e:=vh h2.1 h2.2 i3 (Int.not_le.1 h3)
   have e2:decide (2≤n∧n≤1000003)=true:=decide_eq_true h2;simp only[go_sem,seval,reduceCtorEq,e,e2];exact zX
  ·have e2:decide (2≤n∧n≤1000003)=false:=decide_eq_false h2
   have e:bZ n=false:=by
    by_cases h5:n<2
    ·exact xB h5
    ·exact rB (by omega)
   simp only[go_sem,seval,reduceCtorEq,e,e2];exact zX
theorem eL(k p n:Int):Does Tryz.prog 67 [aY k p n] [] (.d (.int (af ⟨k,p,n⟩))) []:=by
 refine zS Tryz.func67 vH ?_;unfold nW;refine zT ?_;by_cases h7:k=7
 ·have c:(k==7)=true:=by simp [h7]
  have e:af ⟨k,p,n⟩=n:=if_pos h7;simp only[go_sem,seval,reduceCtorEq,c,e];exact zX
 have c7:(k==7)=false:=by simp [h7]
 by_cases h8:k=8
 ·have c:(k==8)=true:=by simp [h8]
  have e:af ⟨k,p,n⟩=4:=by unfold af;rw[if_neg h7,if_pos h8]
  simp only[go_sem,seval,reduceCtorEq,c7,c,e];exact zX
 ·have c:(k==8)=false:=by simp [h8]
  have e:af ⟨k,p,n⟩=1:=by unfold af;rw[if_neg h7,if_neg h8]
  simp only[go_sem,seval,reduceCtorEq,c7,c,e];exact zX
theorem fW(k p n:Int):Does Tryz.prog 115 [aY k p n] [] (.d (.int (af ⟨k,p,n⟩))) []:=by
 refine zS Tryz.func115 vD ?_;unfold nS;refine zT ?_;by_cases h7:k=7
 ·have c:(k==7)=true:=by simp [h7]
  have e:af ⟨k,p,n⟩=n:=if_pos h7;simp only[go_sem,seval,reduceCtorEq,c,e];exact zX
 have c7:(k==7)=false:=by simp [h7]
 by_cases h8:k=8
 ·have c:(k==8)=true:=by simp [h8]
  have e:af ⟨k,p,n⟩=4:=by unfold af;rw[if_neg h7,if_pos h8]
  simp only[go_sem,seval,reduceCtorEq,c7,c,e];exact zX
 ·have c:(k==8)=false:=by simp [h8]
  have e:af ⟨k,p,n⟩=1:=by unfold af;rw[if_neg h7,if_neg h8]
  simp only[go_sem,seval,reduceCtorEq,c7,c,e];exact zX
theorem BT(k p n:Int)(h:ai ⟨k,p,n⟩=true):Does Tryz.prog 131 [aY k p n] [] (.d (.int (top ⟨k,p,n⟩))) []:=by
 have hb:=dA h;generalize hT:top ⟨k,p,n⟩=T at hb;have hc:=aO h;unfold top at hT;simp only at hc hT;refine zS Tryz.func131 ym ?_;unfold qW;refine zT ?_;rcases hc with hc|hc|hc|hc|hc|hc|hc|hc
 all_goals obtain⟨rfl,hc⟩:=hc
 all_goals simp only[Int.reduceEq,if_true,if_false,or_true,true_or,or_false,or_self,false_or]at hT
 ·simp only[go_sem,seval,reduceCtorEq, ← hT]
  exact zX
 ·have e:=bU hc.1
  simp(disch:=omega) only[go_sem,seval,reduceCtorEq,hT];exact zX
 ·simp only[go_sem,seval,reduceCtorEq,hT]
  exact zX
 ·simp only[go_sem,seval,reduceCtorEq,hT]
  exact zX
 ·simp only[go_sem,seval,reduceCtorEq,hT]
  exact zX
 ·have hm:min n.toNat 64=n.toNat:=by omega
  have hp:=Dh hc.2.1 hc.2.2;have hw:IntKind.i64.wrap (1*2 ^ n.toNat)=2 ^ n.toNat:=by rw[Int.one_mul];exact IntWalk.i64_in _ (by omega)
  simp(disch:=omega) only[go_sem,seval,reduceCtorEq,hm,hw,hT];refine And.intro (by omega) ?_;exact zX
 ·have e:=bU hc.1
  simp(disch:=omega) only[go_sem,seval,reduceCtorEq,hT];exact zX
 ·have e:=bU hc.1
  simp(disch:=omega) only[go_sem,seval,reduceCtorEq,hT];exact zX
theorem oH(k p n:Int)(h:ai ⟨k,p,n⟩=true):Does Tryz.prog 146 [aY k p n] [] (.d (.int (top ⟨k,p,n⟩))) []:=by
 have hb:=dA h;generalize hT:top ⟨k,p,n⟩=T at hb;have hc:=aO h;unfold top at hT;simp only at hc hT;refine zS Tryz.func146 yg ?_;unfold qQ;refine zT ?_;rcases hc with hc|hc|hc|hc|hc|hc|hc|hc
 all_goals obtain⟨rfl,hc⟩:=hc
 all_goals simp only[Int.reduceEq,if_true,if_false,or_true,true_or,or_false,or_self,false_or]at hT
 ·simp only[go_sem,seval,reduceCtorEq, ← hT]
  exact zX
 ·have e:=bU hc.1
  simp(disch:=omega) only[go_sem,seval,reduceCtorEq,hT];exact zX
 ·simp only[go_sem,seval,reduceCtorEq,hT]
  exact zX
 ·simp only[go_sem,seval,reduceCtorEq,hT]
  exact zX
 ·simp only[go_sem,seval,reduceCtorEq,hT]
  exact zX
 ·have hm:min n.toNat 64=n.toNat:=by omega
  have hp:=Dh hc.2.1 hc.2.2;have hw:IntKind.i64.wrap (1*2 ^ n.toNat)=2 ^ n.toNat:=by rw[Int.one_mul];exact IntWalk.i64_in _ (by omega)
  simp(disch:=omega) only[go_sem,seval,reduceCtorEq,hm,hw,hT];refine And.intro (by omega) ?_;exact zX
 ·have e:=bU hc.1
  simp(disch:=omega) only[go_sem,seval,reduceCtorEq,hT];exact zX
 ·have e:=bU hc.1
  simp(disch:=omega) only[go_sem,seval,reduceCtorEq,hT];exact zX
set_option maxHeartbeats 6400000 in
theorem qg(k p n:Int):Does Tryz.prog 62 [aY k p n] [] (.d (.bool (ai ⟨k,p,n⟩))) []:=by
 generalize hT:ai ⟨k,p,n⟩=T;unfold ai at hT;simp only at hT;refine zS Tryz.func62 yv ?_;unfold r8;refine zT ?_;cases c1:(k==1)
 case true=>cases ca:(p==0)<;>cases cb:(n==0)<;>(simp only[go_sem,seval,reduceCtorEq,c1,ca,cb];((refine zE ?_ ?_<;>try simp only[go_sem,seval,reduceCtorEq]);(try rw[← hT]);(try simp_all);(try omega)))
 cases c2:(k==2)
 case true=>
  simp only[go_sem,seval,reduceCtorEq,c1,c2];(refine zC (rD p) ?_);cases ca:bZ p<;>cases cb:(n==0)<;>(simp only[go_sem,seval,reduceCtorEq,ca,cb];((refine zE ?_ ?_<;>try simp only[go_sem,seval,reduceCtorEq]);(try rw[← hT]);(try simp_all);(try omega)))
 cases c3:(k==3)
 case true=>(by_cases h1:p≥1<;>by_cases h2:p≤1000000<;>cases cb:(n==0)<;>(simp only[go_sem,seval,reduceCtorEq,c1,c2,c3,h1,h2,cb];((refine zE ?_ ?_<;>try simp only[go_sem,seval,reduceCtorEq]);(try rw[← hT]);(try simp_all);(try omega))))
 cases c4:(k==4)
 case true=>(by_cases h1:p≥1<;>by_cases h2:p≤1000000<;>cases cb:(n==0)<;>(simp only[go_sem,seval,reduceCtorEq,c1,c2,c3,c4,h1,h2,cb];((refine zE ?_ ?_<;>try simp only[go_sem,seval,reduceCtorEq]);(try rw[← hT]);(try simp_all);(try omega))))
 cases c5:(k==5)
 case true=>(by_cases h1:p≥1<;>by_cases h2:p≤1000000<;>cases cb:(n==0)<;>(simp only[go_sem,seval,reduceCtorEq,c1,c2,c3,c4,c5,h1,h2,cb];((refine zE ?_ ?_<;>try simp only[go_sem,seval,reduceCtorEq]);(try rw[← hT]);(try simp_all);(try omega))))
 cases c6:(k==6)
 case true=>cases ca:(p==0)<;>by_cases h1:n≥1<;>by_cases h2:n≤20<;>(simp only[go_sem,seval,reduceCtorEq,c1,c2,c3,c4,c5,c6,ca,h1,h2];((refine zE ?_ ?_<;>try simp only[go_sem,seval,reduceCtorEq]);(try rw[← hT]);(try simp_all);(try omega)))
 cases c7:(k==7)
 case true=>
  simp only[go_sem,seval,reduceCtorEq,c1,c2,c3,c4,c5,c6,c7];(refine zC (rD p) ?_);cases ca:bZ p<;>by_cases h1:n≥1<;>by_cases h2:n≤6<;>(simp only[go_sem,seval,reduceCtorEq,ca,h1,h2];((refine zE ?_ ?_<;>try simp only[go_sem,seval,reduceCtorEq]);(try rw[← hT]);(try simp_all);(try omega)))
 cases c8:(k==8)
 case true=>
  simp only[go_sem,seval,reduceCtorEq,c1,c2,c3,c4,c5,c6,c7,c8];(refine zC (rD p) ?_);cases ca:bZ p<;>cases cp:(p !=2)<;>cases cb:(n==0)<;>(simp only[go_sem,seval,reduceCtorEq,ca,cp,cb];((refine zE ?_ ?_<;>try simp only[go_sem,seval,reduceCtorEq]);(try rw[← hT]);(try simp_all);(try omega)))
 simp only[go_sem,seval,reduceCtorEq,c1,c2,c3,c4,c5,c6,c7,c8]
 ((refine zE ?_ ?_<;>try simp only[go_sem,seval,reduceCtorEq]);(try rw[← hT]);(try simp_all);(try omega))
set_option maxHeartbeats 6400000 in
theorem yK(k p n:Int):Does Tryz.prog 111 [aY k p n] [] (.d (.bool (ai ⟨k,p,n⟩))) []:=by
 generalize hT:ai ⟨k,p,n⟩=T;unfold ai at hT;simp only at hT;refine zS Tryz.func111 yl ?_;unfold qV;refine zT ?_;cases c1:(k==1)
 case true=>cases ca:(p==0)<;>cases cb:(n==0)<;>(simp only[go_sem,seval,reduceCtorEq,c1,ca,cb];((refine zE ?_ ?_<;>try simp only[go_sem,seval,reduceCtorEq]);(try rw[← hT]);(try simp_all);(try omega)))
 cases c2:(k==2)
 case true=>
  simp only[go_sem,seval,reduceCtorEq,c1,c2];(refine zC (rf p) ?_);cases ca:bZ p<;>cases cb:(n==0)<;>(simp only[go_sem,seval,reduceCtorEq,ca,cb];((refine zE ?_ ?_<;>try simp only[go_sem,seval,reduceCtorEq]);(try rw[← hT]);(try simp_all);(try omega)))
 cases c3:(k==3)
 case true=>(simp only[go_sem,seval,reduceCtorEq,c1,c2,c3];(refine zC (gg p 1 1000000) ?_);(cases h1:decide (1≤p∧p≤1000000)<;>cases cb:(n==0)<;>(simp only[go_sem,seval,reduceCtorEq,h1,cb];((refine zE ?_ ?_<;>try simp only[go_sem,seval,reduceCtorEq]);(try rw[← hT]);(try simp_all);(try omega)))))
 cases c4:(k==4)
 case true=>(simp only[go_sem,seval,reduceCtorEq,c1,c2,c3,c4];(refine zC (gg p 1 1000000) ?_);(cases h1:decide (1≤p∧p≤1000000)<;>cases cb:(n==0)<;>(simp only[go_sem,seval,reduceCtorEq,h1,cb];((refine zE ?_ ?_<;>try simp only[go_sem,seval,reduceCtorEq]);(try rw[← hT]);(try simp_all);(try omega)))))
 cases c5:(k==5)
 case true=>(simp only[go_sem,seval,reduceCtorEq,c1,c2,c3,c4,c5];(refine zC (gg p 1 1000000) ?_);(cases h1:decide (1≤p∧p≤1000000)<;>cases cb:(n==0)<;>(simp only[go_sem,seval,reduceCtorEq,h1,cb];((refine zE ?_ ?_<;>try simp only[go_sem,seval,reduceCtorEq]);(try rw[← hT]);(try simp_all);(try omega)))))
 cases c6:(k==6)
 case true=>
  cases ca:(p==0)
  ·simp only[go_sem,seval,reduceCtorEq,c1,c2,c3,c4,c5,c6,ca]
   ((refine zE ?_ ?_<;>try simp only[go_sem,seval,reduceCtorEq]);(try rw[← hT]);(try simp_all);(try omega))
  ·simp only[go_sem,seval,reduceCtorEq,c1,c2,c3,c4,c5,c6,ca]
   (refine zC (gg n 1 20) ?_);cases h1:decide (1≤n∧n≤20)<;>(simp only[go_sem,seval,reduceCtorEq,h1];((refine zE ?_ ?_<;>try simp only[go_sem,seval,reduceCtorEq]);(try rw[← hT]);(try simp_all);(try omega)))
 cases c7:(k==7)
 case true=>
  simp only[go_sem,seval,reduceCtorEq,c1,c2,c3,c4,c5,c6,c7];(refine zC (rf p) ?_);cases ca:bZ p
  ·simp only[go_sem,seval,reduceCtorEq,ca]
   ((refine zE ?_ ?_<;>try simp only[go_sem,seval,reduceCtorEq]);(try rw[← hT]);(try simp_all);(try omega))
  ·simp only[go_sem,seval,reduceCtorEq,ca]
   (refine zC (gg n 1 6) ?_);cases h1:decide (1≤n∧n≤6)<;>(simp only[go_sem,seval,reduceCtorEq,h1];((refine zE ?_ ?_<;>try simp only[go_sem,seval,reduceCtorEq]);(try rw[← hT]);(try simp_all);(try omega)))
 cases c8:(k==8)
 case true=>
  simp only[go_sem,seval,reduceCtorEq,c1,c2,c3,c4,c5,c6,c7,c8];(refine zC (rf p) ?_);by_cases h1:p>2<;>cases ca:bZ p<;>cases cb:(n==0)<;>(have hb:=bU (n:=p);simp only[go_sem,seval,reduceCtorEq,ca,h1,cb];((refine zE ?_ ?_<;>try simp only[go_sem,seval,reduceCtorEq]);(try rw[← hT]);(try simp_all);(try omega)))
 simp only[go_sem,seval,reduceCtorEq,c1,c2,c3,c4,c5,c6,c7,c8]
 ((refine zE ?_ ?_<;>try simp only[go_sem,seval,reduceCtorEq]);(try rw[← hT]);(try simp_all);(try omega))
set_option maxRecDepth 100000
theorem dO{xs:List Int}{x:Int}(h:xs.length≤1099511627776):Does Tryz.prog 28 [.d (ints xs),.d (.int x)] [] (.d (.bool (has xs x))) []:=by
 refine zS Tryz.func28 yp ?_;unfold qZ;refine zT ?_
 refine lM (xs.length) (fun k=>x∉xs.take k) (fun k=>(ch (.any) (.d (.int x)) (.any) (.any) (.any) (.any) (.any) (.d (ints xs)) (.d (.int xs.length)) (.d (.int k)) (.any) (.any) (.any) (.any) (.any) (.any) [.any])) (fun k=>[]) (by simp) (Wk.kept' [1,7,8,9] 0 (nb rfl) (by first|rfl|simp only[go_sem,seval,reduceCtorEq,bH,aL,aK,bu,bJ,cut,List.contains_cons,List.contains_nil,Nat.reduceBEq,Int.natCast_zero,Int.natCast_add,Int.natCast_one]) (by first|rfl|simp only[go_sem,seval,reduceCtorEq,bH,aL,aK,bu,bJ,cut,List.contains_cons,List.contains_nil,Nat.reduceBEq,Int.natCast_zero,Int.natCast_add,Int.natCast_one])) fun k hk hi=> ?_
 unfold pt;by_cases hlt:k<xs.length
 ·have h1:(k:Int)<xs.length:=by omega
  have hx:xs[k]? =some xs[k]:=zg hlt;by_cases he:x=xs[k]
  ·have he':(x==xs[k])=true:=by simp [he]
   have e:has xs x=true:=aQ.2 (by rw[he];exact List.getElem_mem _);simp(disch:=omega) only[go_sem,seval,reduceCtorEq,h1,hx,he',e];exact zX
  ·have he':(x==xs[k])=false:=by simp [he]
   simp(disch:=omega) only[go_sem,seval,reduceCtorEq,h1,hx,he'];(refine NextI.mk hlt (mX hlt hi he) (Wk.kept' [1,7,8,9] 0 (nb rfl) ?_ ?_)<;>first|rfl|(simp only[go_sem,seval,reduceCtorEq,bH,aL,aK,bu,bJ,cut,List.contains_cons,List.contains_nil,Nat.reduceBEq,Int.natCast_zero,Int.natCast_add,Int.natCast_one];done)|skip)
 ·have h1:¬(k:Int)<xs.length:=by omega
  have e:has xs x=false:=aI.2 (by rw[zt (by omega)]at hi;exact hi);simp(disch:=omega) only[go_sem,seval,reduceCtorEq,h1,e];exact zX
theorem iY{xs:List Int}{x:Int}(h:xs.length≤1099511627776):Does Tryz.prog 61 [.d (ints xs),.d (.int x)] [] (.d (.int (place xs x))) []:=by
 refine zS Tryz.func61 xe ?_;unfold pB;refine zT ?_
 refine lM (xs.length) (fun k=>x∉xs.take k) (fun k=>(ch (.any) (.d (.int x)) (.any) (.any) (.any) (.any) (.any) (.d (ints xs)) (.d (.int xs.length)) (.d (.int k)) (.any) (.any) (.any) (.any) (.any) (.any) [.any,.any,.any])) (fun k=>[]) (by simp) (Wk.kept' [1,7,8,9] 0 (nb rfl) (by first|rfl|simp only[go_sem,seval,reduceCtorEq,bH,aL,aK,bu,bJ,cut,List.contains_cons,List.contains_nil,Nat.reduceBEq,Int.natCast_zero,Int.natCast_add,Int.natCast_one]) (by first|rfl|simp only[go_sem,seval,reduceCtorEq,bH,aL,aK,bu,bJ,cut,List.contains_cons,List.contains_nil,Nat.reduceBEq,Int.natCast_zero,Int.natCast_add,Int.natCast_one])) fun k hk hi=> ?_
 unfold nE;by_cases hlt:k<xs.length
 ·have h1:(k:Int)<xs.length:=by omega
  have hx:xs[k]? =some xs[k]:=zg hlt;by_cases he:xs[k]=x
  ·have he':(xs[k]==x)=true:=by simp [he]
   have e:place xs x=k:=by rw[← he];exact ez hlt (by rw[he];exact hi)
   simp(disch:=omega) only[go_sem,seval,reduceCtorEq,h1,hx,he',e];exact zX
  ·have he':(xs[k]==x)=false:=by simp [he]
   simp(disch:=omega) only[go_sem,seval,reduceCtorEq,h1,hx,he'];(refine NextI.mk hlt (mX hlt hi (fun e=>he e.symm)) (Wk.kept' [1,7,8,9] 0 (nb rfl) ?_ ?_)<;>first|rfl|(simp only[go_sem,seval,reduceCtorEq,bH,aL,aK,bu,bJ,cut,List.contains_cons,List.contains_nil,Nat.reduceBEq,Int.natCast_zero,Int.natCast_add,Int.natCast_one];done)|skip)
 ·have h1:¬(k:Int)<xs.length:=by omega
  have e:place xs x= -1:=gz (by rw[zt (by omega)]at hi;exact hi);simp(disch:=omega) only[go_sem,seval,reduceCtorEq,h1,e];exact zX
theorem iC{ds:List Int}{lim:Int}(h:ds.length≤1099511627776)(hd:∀d∈ds,1≤d∧d≤100)(hl:1≤lim∧lim≤1000000000):Does Tryz.prog 80 [.d (ints ds),.d (.int lim)] [] (.d (.int (min (aa ds) (lim+1)))) []:=by
 refine zS Tryz.func80 sF ?_;unfold l9;refine zT ?_;have e0:min (aa []) (lim+1)=1:=by rw[yU];omega
 refine jc (ds.length) (fun k=>(ch (.any) (.d (.int lim)) (.any) (.any) (.any) (.d (.int (min (aa (ds.take k)) (lim+1)))) (.any) (.any) (.d (ints ds)) (.d (.int ds.length)) (.d (.int k)) (.any) (.any) (.any) (.any) (.any) [.any,.any,.any,.any,.any,.any])) (fun k=>[]) (Wk.kept' [1,5,8,9,10] 0 (nb rfl) (by first|rfl|simp only[go_sem,seval,reduceCtorEq,bH,aL,aK,bu,bJ,cut,List.contains_cons,List.contains_nil,Nat.reduceBEq,Int.natCast_zero,Int.natCast_add,Int.natCast_one,e0]) (by first|rfl|simp only[go_sem,seval,reduceCtorEq,bH,aL,aK,bu,bJ,cut,List.contains_cons,List.contains_nil,Nat.reduceBEq,Int.natCast_zero,Int.natCast_add,Int.natCast_one,e0])) fun k hk=> ?_
 unfold jw;by_cases hlt:k<ds.length
 ·have h1:(k:Int)<ds.length:=by omega
  have hx:ds[k]? =some ds[k]:=zg hlt;have e:=dq ds k hlt;rw[ac hlt]at e;have hb:=hd ds[k] (List.getElem_mem _);have b1:=aW (ds.take k) (fun d hd'=>(hd d (List.mem_of_mem_take hd')).1);have e2:=Kf (aa (ds.take k)) ds[k] (lim+1) hb.1 (by omega);rw[← e]at e2;have b3:0≤min (aa (ds.take k)) (lim+1)*ds[k]:=Int.mul_nonneg (by omega) (by omega);have b4:min (aa (ds.take k)) (lim+1)*ds[k]≤(lim+1)*100:=Int.mul_le_mul (by omega) hb.2 (by omega) (by omega);simp(disch:=omega) only[go_sem,seval,reduceCtorEq,h1,hx]
  (refine Next.mk hlt (Wk.kept' [1,5,8,9,10] 0 (nb rfl) ?_ ?_)<;>first|rfl|(simp only[go_sem,seval,reduceCtorEq,bH,aL,aK,bu,bJ,cut,List.contains_cons,List.contains_nil,Nat.reduceBEq,Int.natCast_zero,Int.natCast_add,Int.natCast_one,e2];done)|skip)
 ·have h1:¬(k:Int)<ds.length:=by omega
  simp(disch:=omega) only[go_sem,seval,reduceCtorEq,h1];(refine zE ?_ ?_<;>try simp only[go_sem,seval,reduceCtorEq]);rw[zt (by omega)]
theorem EO{ls ds:List Int}{k:Nat}(h1:k<ls.length)(h2:k<ds.length)(h:¬(0≤ls[k]∧ls[k]≤99∧1≤ds[k]∧ds[k]≤8∧ls[k]∉ls.take k)):¬ axAt ls ds k:=by
 unfold axAt;rw[ac h1,ac h2];exact h
set_option maxHeartbeats 1600000 in
theorem lI{t:Ten}(h:TSz 1099511627776 t):Does Tryz.prog 63 [tenA t] [] (.d (.int (aT t.labels t.dims))) []:=by
 obtain⟨ls,ds,xs⟩:=t;generalize hT:aT ls ds=T;refine zS Tryz.func63 sQ ?_;unfold lp;unfold tenA;simp only;refine zT ?_;by_cases a1:(ls.length:Int)>12
 ·have e:=wu (ls:=ls) (ds:=ds) (by omega)
  rw[hT]at e;simp only[go_sem,seval,reduceCtorEq,a1,e];exact zX
 by_cases a2:ls.length=ds.length
 rotate_left
 ·have e:=D8 a2
  rw[hT]at e;have c:((ls.length:Int) !=ds.length)=true:=by simp;omega
  simp only[go_sem,seval,reduceCtorEq,a1,c,e];exact zX
 have c:((ls.length:Int) !=ds.length)=false:=by simp;omega
 simp only[go_sem,seval,reduceCtorEq,a1,c];have p0:aa (ds.take 0)=1:=rfl;have hI0:(∀j,j<0→axAt ls ds j)∧aa (ds.take 0)≤4096∧1≤aa (ds.take 0):=⟨fun j hj=>absurd hj (Nat.not_lt_zero j),by rw[p0];omega,by rw[p0];omega⟩
 refine cI (ls.length) (mkB 64 9223372036837998708) (fun k=>(∀j,j<k→axAt ls ds j)∧aa (ds.take k)≤4096∧1≤aa (ds.take k)) (fun k=>[(3,.d (.int (aa (ds.take k)))),(23,.d (.int k))]) (fun k=>[]) (hi:=hI0) (h1:=by first|(simp only[go_sem,seval,reduceCtorEq,nz,na,n1,p0];first|done|rfl)|rfl) (h2:=by first|(simp only[go_sem,seval,reduceCtorEq,nz,na,n1,p0];first|done|rfl)|rfl) (hr:=fun k hk hi=> ?_);unfold k9;obtain⟨i1,i2,i3⟩:=hi;by_cases hlt:k<ls.length
 ·have d1:(k:Int)<ls.length:=by omega
  have hk:k<ds.length:=by omega
  have g1:ls[k]? =some ls[k]:=zg hlt;have g2:ds[k]? =some ds[k]:=zg hk;have htk:(ls.take k).length=k:=by rw[List.length_take];omega
  have bad:¬(0≤ls[k]∧ls[k]≤99∧1≤ds[k]∧ds[k]≤8∧ls[k]∉ls.take k)→T= -1:=fun hb=>by rw[← hT];exact Bp k hlt (EO hlt hk hb)
  simp(disch:=omega) only[go_sem,seval,reduceCtorEq,d1,g1,Option.map_some];by_cases b1:ls[k]<0
  ·simp only[go_sem,seval,reduceCtorEq,b1,bad (by omega)]
   exact zX
  by_cases b2:ls[k]>99
  ·simp only[go_sem,seval,reduceCtorEq,b1,b2,bad (by omega)]
   exact zX
  simp(disch:=omega) only[go_sem,seval,reduceCtorEq,b1,b2]
  (repeat (refine And.intro (by omega) ?_))
  (refine zC (dO (xs:=ls.take k) (x:=ls[k]) (by omega)) ?_ (by simp only[go_sem,seval,reduceCtorEq,htk,Int.sub_zero]));cases b3:has (ls.take k) ls[k]
  rotate_left
  ·simp only[go_sem,seval,reduceCtorEq,b3,bad (fun h=>h.2.2.2.2 (aQ.1 b3))]
   exact zX
  simp(disch:=omega) only[go_sem,seval,reduceCtorEq,b3,g2,Option.map_some]
  (repeat (refine And.intro (by omega) ?_))
  by_cases b4:ds[k]<1
  ·simp(disch:=omega) only[go_sem,seval,reduceCtorEq,b4,bad (by omega)]
   exact zX
  by_cases b5:ds[k]>8
  ·simp(disch:=omega) only[go_sem,seval,reduceCtorEq,b4,b5,bad (by omega)]
   exact zX
  have hpb:1*1≤aa (ds.take k)*ds[k]:=Int.mul_le_mul i3 (by omega) (by omega) (by omega);have hpc:aa (ds.take k)*ds[k]≤4096*8:=Int.mul_le_mul i2 (by omega) (by omega) (by omega);have hw:IntKind.i64.wrap (aa (ds.take k)*ds[k])=aa (ds.take k)*ds[k]:=IntWalk.i64_in _ (by omega);have hps:aa (ds.take (k+1))=aa (ds.take k)*ds[k]:=by rw[dq ds k hk,ac hk]
  by_cases b6:aa (ds.take k)*ds[k]>4096
  ·have e:T= -1:=by rw[← hT];exact F1 k hlt a2 (by rw[ac hk];omega)
   simp(disch:=omega) only[go_sem,seval,reduceCtorEq,b4,b5,hw,b6,e];exact zX
  ·have hI:(∀j,j<k+1→axAt ls ds j)∧aa (ds.take (k+1))≤4096∧1≤aa (ds.take (k+1)):=by
    refine⟨fun j hj=> ?_,by rw[hps];omega,by rw[hps];omega⟩;by_cases e:j=k
    ·subst e
     unfold axAt;rw[ac hlt,ac hk];exact⟨by omega,by omega,by omega,by omega,aI.1 b3⟩
    ·exact i1 j (by omega)
   simp(disch:=omega) only[go_sem,seval,reduceCtorEq,b4,b5,hw,b6];(refine NextI.drop (mkB 64 9223372036837998708) (by omega) (hI) (h1:= ?_) (h2:= ?_)<;>first|(simp only[go_sem,seval,reduceCtorEq,nz,na,n1,hps];first|done|rfl)|rfl|skip)
 ·have d1:¬(k:Int)<ls.length:=by omega
  obtain rfl:k=ls.length:=by omega
  have htl:ds.take ls.length=ds:=zt (by omega);rw[htl]at i2;have e:=wv (by omega) a2 i1 i2;rw[hT]at e;simp(disch:=omega) only[go_sem,seval,reduceCtorEq,d1,htl,e];exact zX
theorem FJ{ls ds:List Int}(h:ls.length≤1099511627776)(h2:ds.length≤1099511627776):Does Tryz.prog 147 [.d (ints ls),.d (ints ds)] [] (.d (.bool (decide (axOk ls ds)))) []:=by
 generalize hT:decide (axOk ls ds)=T;refine zS Tryz.func147 xh ?_;unfold pE;refine zT ?_;by_cases a1:(ls.length:Int)>12
 ·have e:T=false:=by rw[← hT];exact decide_eq_false fun h=>by have:=h.1;omega
  simp only[go_sem,seval,reduceCtorEq,a1,e];exact zX
 by_cases a2:ls.length=ds.length
 rotate_left
 ·have e:T=false:=by rw[← hT];exact decide_eq_false fun h=>a2 h.2.1
  have c:((ls.length:Int) !=ds.length)=true:=by simp;omega
  simp only[go_sem,seval,reduceCtorEq,a1,c,e];exact zX
 have c:((ls.length:Int) !=ds.length)=false:=by simp;omega
 simp only[go_sem,seval,reduceCtorEq,a1,c];refine cI (ls.length) (mkB 44 17592184995952) (fun k=>∀j,j<k→axAt ls ds j) (fun k=>[(19,.d (.int k))]) (fun k=>[]) (hi:=fun j hj=>absurd hj (Nat.not_lt_zero j)) (hr:=fun k hk hi=> ?_);unfold nH;by_cases hlt:k<ls.length
 ·have d1:(k:Int)<ls.length:=by omega
  have hk:k<ds.length:=by omega
  have g1:ls[k]? =some ls[k]:=zg hlt;have g2:ds[k]? =some ds[k]:=zg hk;have htk:(ls.take k).length=k:=by rw[List.length_take];omega
  have bad:¬(0≤ls[k]∧ls[k]≤99∧1≤ds[k]∧ds[k]≤8∧ls[k]∉ls.take k)→T=false:=fun hb=>by rw[← hT];exact decide_eq_false fun h=>EO hlt hk hb (h.2.2 k hlt)
  simp(disch:=omega) only[go_sem,seval,reduceCtorEq,d1,g1,Option.map_some];(refine zC (gg ls[k] 0 99) ?_);cases b1:decide (0≤ls[k]∧ls[k]≤99)
  ·simp(disch:=omega) only[go_sem,seval,reduceCtorEq,b1,bad (fun h=>of_decide_eq_false b1 ⟨h.1,h.2.1⟩)]
   exact zX
  simp(disch:=omega) only[go_sem,seval,reduceCtorEq,b1,g2,Option.map_some]
  (repeat (refine And.intro (by omega) ?_))
  (refine zC (gg ds[k] 1 8) ?_);cases b2:decide (1≤ds[k]∧ds[k]≤8)
  ·simp(disch:=omega) only[go_sem,seval,reduceCtorEq,b2,bad (fun h=>of_decide_eq_false b2 ⟨h.2.2.1,h.2.2.2.1⟩)]
   exact zX
  simp(disch:=omega) only[go_sem,seval,reduceCtorEq,b2]
  (repeat (refine And.intro (by omega) ?_))
  (refine zC (iY (xs:=ls.take k) (x:=ls[k]) (by omega)) ?_ (by simp only[go_sem,seval,reduceCtorEq,htk,Int.sub_zero]));by_cases b3:ls[k]∈ls.take k
  ·have c3:place (ls.take k) ls[k]≥0:=Int.not_lt.1 fun h=>cx.1 h b3
   simp only[go_sem,seval,reduceCtorEq,c3,bad (fun h=>h.2.2.2.2 b3)];exact zX
  ·have c3:¬ place (ls.take k) ls[k]≥0:=Int.not_le.2 (cx.2 b3)
   have hI:∀j,j<k+1→axAt ls ds j:=fun j hj=>by
    by_cases e:j=k
    ·subst e
     unfold axAt;rw[ac hlt,ac hk];have q1:=zd b1;have q2:=zd b2;exact⟨q1.1,q1.2,q2.1,q2.2,b3⟩
    ·exact hi j (by omega)
   simp(disch:=omega) only[go_sem,seval,reduceCtorEq,c3];exact NextI.drop (mkB 44 17592184995952) (by omega) (hI)
 ·have d1:¬(k:Int)<ls.length:=by omega
  obtain rfl:k=ls.length:=by omega
  have e:T=true:=by rw[← hT];exact decide_eq_true ⟨by omega,a2,hi⟩
  simp(disch:=omega) only[go_sem,seval,reduceCtorEq,d1,e];exact zX
theorem qz{t:Ten}(h:TSz 1099511627776 t):Does Tryz.prog 113 [tenA t] [] (.d (.int (aT t.labels t.dims))) []:=by
 have hl:=h.l.len;have hd:=h.d.len;obtain⟨ls,ds,xs⟩:=t;simp only at hl hd ⊢;generalize hT:aT ls ds=T;refine zS Tryz.func113 sG ?_;unfold lc;unfold tenA;simp only;refine zT ?_;(refine zC (FJ (ls:=ls) (ds:=ds) hl hd) ?_);cases a1:decide (axOk ls ds)
 ·have e:T= -1:=by rw[← hT];exact if_neg fun h=>of_decide_eq_false a1 h.1
  simp only[go_sem,seval,reduceCtorEq,a1,e];exact zX
 have ax:=zd a1;simp only[go_sem,seval,reduceCtorEq,a1];(refine zC (iC (ds:=ds) (lim:=4096) hd (fun d hd=>by have:=ax.dim d hd;omega) (by omega)) ?_);by_cases b:min (aa ds) (4097)>4096
 ·have e:T= -1:=by rw[← hT];exact if_neg fun h=>by have:=h.2;omega
  simp only[go_sem,seval,reduceCtorEq,b,e];exact zX
 ·have e:T=min (aa ds) (4097):=by rw[← hT,aT,if_pos ⟨ax,by omega⟩];omega
  simp only[go_sem,seval,reduceCtorEq,b,e];exact zX
set_option maxRecDepth 100000
theorem ID{r:Rg}{xs:List Int}{k:Nat}(hk:k<xs.length)(h:∀j,j<k→0≤xs.getD j 0∧xs.getD j 0≤top r)(h2:0≤xs[k]∧xs[k]≤top r):∀j,j<k+1→0≤xs.getD j 0∧xs.getD j 0≤top r:=fun j hj=>by
 by_cases e:j=k
 ·subst e;rw[ac hk];exact h2
 ·exact h j (by omega)
theorem Cs{k p n:Int}{xs:List Int}(hr:ai ⟨k,p,n⟩=true)(h:Sz 1099511627776 xs):Does Tryz.prog 95 [aY k p n,.d (ints xs)] [] (.d (.bool (jm ⟨k,p,n⟩ xs))) []:=by
 have hl:=h.len;generalize hT:jm ⟨k,p,n⟩ xs=T;refine zS Tryz.func95 yo ?_;unfold qY;refine zT ?_;(refine zC (BT k p n hr) ?_);refine zU ?_;refine cI (xs.length) (mkB 24 16769168) (fun q=>∀j,j<q→0≤xs.getD j 0∧xs.getD j 0≤top ⟨k,p,n⟩) (fun q=>[(12,.d (.int q))]) (fun q=>[]) (hi:=fun j hj=>absurd hj (Nat.not_lt_zero j)) (hr:=fun q hq hiq=> ?_);unfold pr;by_cases hlt:q<xs.length
 ·have d1:(q:Int)<xs.length:=by omega
  have g1:xs[q]? =some xs[q]:=zg hlt;have gd:=ac hlt;simp(disch:=omega) only[go_sem,seval,reduceCtorEq,d1,g1,Option.map_some];by_cases b1:xs[q]<0
  ·have e:T=false:=by rw[← hT];exact xH q hlt (by rw[gd];omega)
   simp only[go_sem,seval,reduceCtorEq,b1,e];exact zX
  by_cases b2:xs[q]>top ⟨k,p,n⟩
  ·have e:T=false:=by rw[← hT];exact xH q hlt (by rw[gd];omega)
   simp only[go_sem,seval,reduceCtorEq,b1,b2,e];exact zX
  simp(disch:=omega) only[go_sem,seval,reduceCtorEq,b1,b2];exact NextI.drop (mkB 24 16769168) (by omega) (ID hlt hiq ⟨by omega,by omega⟩)
 ·have d1:¬(q:Int)<xs.length:=by omega
  obtain rfl:q=xs.length:=by omega
  have e:T=true:=by rw[← hT];exact zJ hiq
  simp(disch:=omega) only[go_sem,seval,reduceCtorEq,d1,e];exact zX
theorem bM{k p n:Int}{t:Ten}(a:I64 k)(b:I64 p)(c:I64 n)(h:TSz 1099511627776 t):Does Tryz.prog 52 [aY k p n,tenA t] [] (.d (.bool (al ⟨k,p,n⟩ t.labels t.dims t.data))) []:=by
 have hx:=h.x;have hxl:=hx.len;have hsz:=lI h;have htc:=dd t.labels t.dims;generalize hT:al ⟨k,p,n⟩ t.labels t.dims t.data=T;unfold al at hT;refine zS Tryz.func52 vL ?_;unfold o3;unfold tenA at hsz ⊢;refine zT ?_;(refine zC (qg k p n) ?_);cases hr:ai ⟨k,p,n⟩
 ·have e:T=false:=by rw[← hT,hr];rfl
  simp only[go_sem,seval,reduceCtorEq,hr,e];exact zX
 have hw:=cm hr;simp only[go_sem,seval,reduceCtorEq,hr];(refine zC (hsz) ?_);refine zU ?_;by_cases h1:aT t.labels t.dims= -1
 ·have e:T=false:=by rw[← hT,hr,decide_eq_false fun h=>h.1 h1];rfl
  have c1:(aT t.labels t.dims != -1)=false:=by simp [h1]
  simp only[go_sem,seval,reduceCtorEq,c1,e];exact zX
 have c1:(aT t.labels t.dims != -1)=true:=by simp [h1]
 have hb:1≤aT t.labels t.dims∧aT t.labels t.dims≤4096:=by rcases htc with e|e;exact absurd e h1;omega
 have hm1:1*1≤aT t.labels t.dims*af ⟨k,p,n⟩:=Int.mul_le_mul hb.1 hw.1 (by omega) (by omega);have hm2:aT t.labels t.dims*af ⟨k,p,n⟩≤4096*6:=Int.mul_le_mul hb.2 hw.2 (by omega) (by omega);have hwr:IntKind.i64.wrap (aT t.labels t.dims*af ⟨k,p,n⟩)=aT t.labels t.dims*af ⟨k,p,n⟩:=IntWalk.i64_in _ (by omega);simp only[go_sem,seval,reduceCtorEq,c1];(refine zD (eL k p n) ?_);by_cases h2:(t.data.length:Int)=aT t.labels t.dims*af ⟨k,p,n⟩
 ·have c2:((t.data.length:Int)==aT t.labels t.dims*af ⟨k,p,n⟩)=true:=by simp [h2]
  have e:T=jm ⟨k,p,n⟩ t.data:=by rw[← hT,hr,decide_eq_true ⟨h1,h2⟩];rfl
  simp only[go_sem,seval,reduceCtorEq,hwr,c2];(refine zC (Cs (xs:=t.data) hr hx) ?_);simp only[go_sem,seval,reduceCtorEq, ← e];exact zX
 ·have c2:((t.data.length:Int)==aT t.labels t.dims*af ⟨k,p,n⟩)=false:=by simp [h2]
  have e:T=false:=by rw[← hT,hr,decide_eq_false fun h=>h2 h.2];rfl
  simp only[go_sem,seval,reduceCtorEq,hwr,c2,e];exact zX
theorem BF{k p n:Int}{t:Ten}(a:I64 k)(b:I64 p)(c:I64 n)(h:TSz 1099511627776 t):Does Tryz.prog 112 [aY k p n,tenA t] [] (.d (.bool (al ⟨k,p,n⟩ t.labels t.dims t.data))) []:=by
 have hx:=h.x;have hxl:=hx.len;have hsz:=qz h;have htc:=dd t.labels t.dims;generalize hT:al ⟨k,p,n⟩ t.labels t.dims t.data=T;unfold al at hT;refine zS Tryz.func112 vE ?_;unfold nT;unfold tenA at hsz ⊢;refine zT ?_;(refine zC (hsz) ?_);refine zU ?_;(refine zD (yK k p n) ?_);cases hr:ai ⟨k,p,n⟩
 ·have e:T=false:=by rw[← hT,hr];rfl
  simp only[go_sem,seval,reduceCtorEq,hr,e];exact zX
 have hw:=cm hr;simp only[go_sem,seval,reduceCtorEq,hr];by_cases h1:aT t.labels t.dims= -1
 ·have e:T=false:=by rw[← hT,hr,decide_eq_false fun h=>h.1 h1];rfl
  have c1:aT t.labels t.dims<0:=by omega
  simp only[go_sem,seval,reduceCtorEq,c1,e];exact zX
 have hb:1≤aT t.labels t.dims∧aT t.labels t.dims≤4096:=by rcases htc with e|e;exact absurd e h1;omega
 have c1:¬ aT t.labels t.dims<0:=by omega
 have hm1:1*1≤aT t.labels t.dims*af ⟨k,p,n⟩:=Int.mul_le_mul hb.1 hw.1 (by omega) (by omega);have hm2:aT t.labels t.dims*af ⟨k,p,n⟩≤4096*6:=Int.mul_le_mul hb.2 hw.2 (by omega) (by omega);have hwr:IntKind.i64.wrap (aT t.labels t.dims*af ⟨k,p,n⟩)=aT t.labels t.dims*af ⟨k,p,n⟩:=IntWalk.i64_in _ (by omega);simp only[go_sem,seval,reduceCtorEq,c1];(refine zD (fW k p n) ?_);by_cases h2:(t.data.length:Int)=aT t.labels t.dims*af ⟨k,p,n⟩
 ·have c2:((t.data.length:Int) !=aT t.labels t.dims*af ⟨k,p,n⟩)=false:=by simp [h2]
  have e:T=jm ⟨k,p,n⟩ t.data:=by rw[← hT,hr,decide_eq_true ⟨h1,h2⟩];rfl
  simp only[go_sem,seval,reduceCtorEq,hwr,c2];refine cI (t.data.length) (mkB 40 1097364144272) (fun q=>∀j,j<q→0≤t.data.getD j 0∧t.data.getD j 0≤top ⟨k,p,n⟩) (fun q=>[(30,.d (.int q))]) (fun q=>[]) (hi:=fun j hj=>absurd hj (Nat.not_lt_zero j)) (hr:=fun q hq hiq=> ?_);unfold ml;by_cases hlt:q<t.data.length
  ·have d1:(q:Int)<t.data.length:=by omega
   have g1:t.data[q]? =some t.data[q]:=zg hlt;have gd:=ac hlt;simp(disch:=omega) only[go_sem,seval,reduceCtorEq,d1,g1,Option.map_some];(refine zC (oH k p n hr) ?_);refine zV ?_;(refine zC (gg t.data[q] 0 (top ⟨k,p,n⟩)) ?_);cases b1:decide (0≤t.data[q]∧t.data[q]≤top ⟨k,p,n⟩)
   ·have e2:T=false:=by rw[e];exact xH q hlt (by rw[gd];exact of_decide_eq_false b1)
    simp only[go_sem,seval,reduceCtorEq,b1,e2];exact zX
   ·simp(disch:=omega) only[go_sem,seval,reduceCtorEq,b1]
    exact NextI.drop (mkB 40 1097364144272) (by omega) (ID hlt hiq (zd b1))
  ·have d1:¬(q:Int)<t.data.length:=by omega
   obtain rfl:q=t.data.length:=by omega
   have e2:T=true:=by rw[e];exact zJ hiq
   simp(disch:=omega) only[go_sem,seval,reduceCtorEq,d1,e2];exact zX
 ·have c2:((t.data.length:Int) !=aT t.labels t.dims*af ⟨k,p,n⟩)=true:=by simp [h2]
  have e:T=false:=by rw[← hT,hr,decide_eq_false fun h=>h2 h.2];rfl
  simp only[go_sem,seval,reduceCtorEq,hwr,c2,e];exact zX
theorem ve{ds is:List Int}(hd:Sz 1099511627776 ds)(hi:Sz 1099511627776 is)(hok:vj ds is)(hdm:∀d∈ds,1≤d∧d≤8)(hp:aa ds≤4096):Does Tryz.prog 83 [.d (ints ds),.d (ints is)] [] (.d (.int (offs ds is))) []:=
 Does.of_calls (M6 _) fun w γ φ vals hv=>by
  obtain⟨_,_,rfl,h0,h1⟩:=rel2 hv;obtain⟨A,c,rfl,o⟩:=BN h0 hd;obtain⟨A',c',rfl,o'⟩:=BN h1 hi
  exact(Ch o o' hok hdm hp).mono fun e w' ⟨h,h'⟩=>⟨h,h' ▸ Below.refl _ _⟩
theorem cj{xs:List Int}(h:xs.length≤1099511627776):Does Tryz.prog 36 [.d (ints xs)] [] (.own 0 0 xs.length) [some ⟨1,true,iv xs⟩]:=by
 refine spec_of (by kernel_rfl) Tryz.func36 vK (fnOk (nb rfl) ?_);unfold nZ ints;simp only[go_sem,seval,cZ,List.replicate];refine⟨by omega, ?_⟩;exact zX
theorem cK{x wd:Nat}{l:List Int}(hx:x*wd+wd≤l.length):((l.drop (x*wd)).take wd).length=wd:=by simp;omega
theorem iV{x wd:Nat}{kk pp nn:Int}{t:Ten}(hw:af ⟨kk,pp,nn⟩=(wd:Int))(h1:wd≤6)(hx:x*wd+wd≤t.data.length)(hx2:x≤1099511627776)(h:t.data.length≤1099511627776):
  Does Tryz.prog 76 [aY kk pp nn,tenA t,.d (.int x)] [] (.d (ints ((t.data.drop (x*wd)).take wd))) []:=by
 refine spec_of (by kernel_rfl) Tryz.func76 oM (fnOk (nb rfl) ?_);unfold ki;simp only[go_sem,seval,cZ,List.replicate];(refine zC (eL kk pp nn) ?_);have e1:(x:Int)*wd=(x*wd:Nat):=by push_cast;rfl
 have e2:((x:Int)+1)*wd=(x*wd+wd:Nat):=by push_cast;rw[Int.add_mul,Int.one_mul]
 have e3:(((x*wd+wd:Nat):Int)-(x*wd:Nat)).toNat=wd:=by omega
 simp(disch:=omega) only[go_sem,seval,cZ,hw,e1,e2,e3];refine⟨⟨by omega,by omega⟩, ?_⟩;refine FnEnd.mk (nb rfl) rfl (zd rfl) ?_ rfl;simp only[go_sem,seval,reduceCtorEq,cK hx]
theorem Cj{x wd:Nat}{kk pp nn:Int}{t:Ten}(hw:af ⟨kk,pp,nn⟩=(wd:Int))(h1:wd≤6)(hx:x*wd+wd≤t.data.length)(hx2:x≤1099511627776)(h:t.data.length≤1099511627776):
  Does Tryz.prog 86 [aY kk pp nn,tenA t,.d (.int x)] [] (.own 0 0 wd) [some ⟨1,true,iv ((t.data.drop (x*wd)).take wd)⟩]:=by
 refine spec_of (by kernel_rfl) Tryz.func86 yf (fnOk (nb rfl) ?_);unfold qP;simp only[go_sem,seval,cZ,List.replicate];(refine zC (fW kk pp nn) ?_);have e1:(x:Int)*wd=(x*wd:Nat):=by push_cast;rfl
 have e2:((x*wd:Nat):Int)+wd=(x*wd+wd:Nat):=by push_cast;rfl
 have e3:(((x*wd+wd:Nat):Int)-(x*wd:Nat)).toNat=wd:=by omega
 simp(disch:=omega) only[go_sem,seval,cZ,hw,e1,e2,e3,cK hx];refine⟨by omega,by omega, ?_⟩;(refine zE ?_ ?_<;>try simp only[go_sem,seval,reduceCtorEq]);rw[List.take_take,Nat.min_self]
theorem bI{r:Rg}{ls ds xs:List Int}(h:al r ls ds xs=true):ai r=true∧axOk ls ds∧aa ds≤4096∧1≤aa ds∧aT ls ds=aa ds∧(xs.length:Int)=aa ds*af r:=by
 simp only[al,Bool.and_eq_true,decide_eq_true_eq]at h;obtain⟨⟨h1,h2,h3⟩,h4⟩:=h;rcases dd ls ds with h5|⟨h5,h6,h7,h8⟩
 ·exact absurd h5 h2
 ·exact⟨h1,h5,h6,h8,h7,by rw[h3,h7]⟩
set_option maxRecDepth 100000
theorem gK{t:Ten}{x:Int}(h:t.labels.length≤1099511627776):Does Tryz.prog 127 [tenA t,.d (.int x)] [] (.d (.int (place t.labels x))) []:=by
 refine zS Tryz.func127 yr ?_;unfold r5;refine zT ?_
 refine lM (t.labels.length) (fun k=>x∉t.labels.take k) (fun k=>(ch (.any) (.d (.int x)) (.any) (.any) (.any) (.any) (.any) (.any) (.d (ints t.labels)) (.d (.int t.labels.length)) (.d (.int k)) (.any) (.any) (.any) (.any) (.any) [.any,.any,.any,.any])) (fun k=>[]) (by simp) (Wk.kept' [1,8,9,10] 0 (nb rfl) (by first|rfl|simp only[go_sem,seval,reduceCtorEq,bH,aL,aK,bu,bJ,cut,List.contains_cons,List.contains_nil,Nat.reduceBEq,Int.natCast_zero,Int.natCast_add,Int.natCast_one]) (by first|rfl|simp only[go_sem,seval,reduceCtorEq,bH,aL,aK,bu,bJ,cut,List.contains_cons,List.contains_nil,Nat.reduceBEq,Int.natCast_zero,Int.natCast_add,Int.natCast_one])) fun k hk hi=> ?_
 unfold pv;by_cases hlt:k<t.labels.length
 ·have h1:(k:Int)<t.labels.length:=by omega
  have hx:t.labels[k]? =some t.labels[k]:=zg hlt;by_cases he:t.labels[k]=x
  ·have he':(t.labels[k]==x)=true:=by simp [he]
   have e:place t.labels x=k:=by rw[← he];exact ez hlt (by rw[he];exact hi)
   simp(disch:=omega) only[go_sem,seval,reduceCtorEq,h1,hx,he',e];exact zX
  ·have he':(t.labels[k]==x)=false:=by simp [he]
   simp(disch:=omega) only[go_sem,seval,reduceCtorEq,h1,hx,he'];(refine NextI.mk hlt (mX hlt hi (fun e=>he e.symm)) (Wk.kept' [1,8,9,10] 0 (nb rfl) ?_ ?_)<;>first|rfl|(simp only[go_sem,seval,reduceCtorEq,bH,aL,aK,bu,bJ,cut,List.contains_cons,List.contains_nil,Nat.reduceBEq,Int.natCast_zero,Int.natCast_add,Int.natCast_one];done)|skip)
 ·have h1:¬(k:Int)<t.labels.length:=by omega
  have e:place t.labels x= -1:=gz (by rw[zt (by omega)]at hi;exact hi);simp(disch:=omega) only[go_sem,seval,reduceCtorEq,h1,e];exact zX
theorem gt{ds:List Int}(h:ds.length≤1099511627776)(hd:∀d∈ds,1≤d)(hp:aa ds≤1152921504606846976):Does Tryz.prog 30 [.d (ints ds)] [] (.d (.int (aa ds))) []:=by
 refine zS Tryz.func30 ut ?_;unfold mA;refine zT ?_
 refine jc (ds.length) (fun k=>(ch (.any) (.any) (.any) (.d (.int (aa (ds.take k)))) (.any) (.any) (.d (ints ds)) (.d (.int ds.length)) (.d (.int k)) (.any) (.any) (.any) (.any) (.any) (.any) (.any) [.any])) (fun k=>[]) (Wk.kept' [3,6,7,8] 0 (nb rfl) (by first|rfl|simp only[go_sem,seval,reduceCtorEq,bH,aL,aK,bu,bJ,cut,List.contains_cons,List.contains_nil,Nat.reduceBEq,Int.natCast_zero,Int.natCast_add,Int.natCast_one]) (by first|rfl|simp only[go_sem,seval,reduceCtorEq,bH,aL,aK,bu,bJ,cut,List.contains_cons,List.contains_nil,Nat.reduceBEq,Int.natCast_zero,Int.natCast_add,Int.natCast_one])) fun k hk=> ?_
 unfold kZ;by_cases hlt:k<ds.length
 ·have h1:(k:Int)<ds.length:=by omega
  have hx:ds[k]? =some ds[k]:=zg hlt;have e:=dq ds k hlt;rw[ac hlt]at e;have b1:=aW (ds.take (k+1)) (fun d hd'=>hd d (List.mem_of_mem_take hd'));have b2:=lG ds (k+1) hd;simp(disch:=omega) only[go_sem,seval,reduceCtorEq,h1,hx, ← e];(refine Next.mk hlt (Wk.kept' [3,6,7,8] 0 (nb rfl) ?_ ?_)<;>first|rfl|(simp only[go_sem,seval,reduceCtorEq,bH,aL,aK,bu,bJ,cut,List.contains_cons,List.contains_nil,Nat.reduceBEq,Int.natCast_zero,Int.natCast_add,Int.natCast_one];done)|skip)
 ·have h1:¬(k:Int)<ds.length:=by omega
  simp(disch:=omega) only[go_sem,seval,reduceCtorEq,h1];(refine zE ?_ ?_<;>try simp only[go_sem,seval,reduceCtorEq]);rw[zt (by omega)]
theorem rP{xs:List Int}{x:Int}(h:xs.length≤1099511627776):Does Tryz.prog 126 [.d (ints xs),.d (.int x)] [] (.own 0 0 (xs.filter (· !=x)).length) [some ⟨1,true,iv (xs.filter (· !=x))⟩]:=by
 refine zS Tryz.func126 sI ?_;unfold lf;refine zT ?_
 refine jc (xs.length) (fun k=>(ch (.any) (.d (.int x)) (.any) (.any) (.any) (.own 0 0 ((xs.take k).filter (· !=x)).length) (.any) (.any) (.d (ints xs)) (.d (.int xs.length)) (.d (.int k)) (.any) (.any) (.any) (.any) (.any) [.any,.any,.any,.any,.any,.any,.any])) (fun k=>[some ⟨1,true,iv ((xs.take k).filter (· !=x))⟩]) (Wk.trans (Wk.nilE 5 1 _ _ rfl) (Wk.kept' [1,5,8,9,10] 1 (nb rfl) (by first|rfl|simp only[go_sem,seval,reduceCtorEq,bH,aL,aK,bu,bJ,cut,List.contains_cons,List.contains_nil,Nat.reduceBEq,Int.natCast_zero,Int.natCast_add,Int.natCast_one]) (by first|rfl|simp only[go_sem,seval,reduceCtorEq,bH,aL,aK,bu,bJ,cut,List.contains_cons,List.contains_nil,Nat.reduceBEq,Int.natCast_zero,Int.natCast_add,Int.natCast_one]))) fun k hk=> ?_
 unfold jy;by_cases hlt:k<xs.length
 ·have h1:(k:Int)<xs.length:=by omega
  have hx:xs[k]? =some xs[k]:=zg hlt;have hf:=dS xs k (· !=x);by_cases he:xs[k]=x
  ·have he':(xs[k] !=x)=false:=by simp [he]
   simp(disch:=omega) only[go_sem,seval,reduceCtorEq,h1,hx,he'];(refine Next.mk hlt (Wk.kept' [1,5,8,9,10] 1 (nb rfl) ?_ ?_)<;>first|rfl|(simp only[go_sem,seval,reduceCtorEq,bH,aL,aK,bu,bJ,cut,List.contains_cons,List.contains_nil,Nat.reduceBEq,Int.natCast_zero,Int.natCast_add,Int.natCast_one,dy (p:=(· !=x)) hlt he'];done)|skip)
  ·have he':(xs[k] !=x)=true:=by simp [he]
   simp(disch:=omega) only[go_sem,seval,reduceCtorEq,h1,hx,he'];refine⟨by omega, ?_⟩;(refine Next.mk hlt (Wk.kept' [1,5,8,9,10] 1 (nb rfl) ?_ ?_)<;>first|rfl|(simp only[go_sem,seval,reduceCtorEq,bH,aL,aK,bu,bJ,cut,List.contains_cons,List.contains_nil,Nat.reduceBEq,Int.natCast_zero,Int.natCast_add,Int.natCast_one,dR (p:=(· !=x)) hlt he',List.length_append];done)|skip)
 ·have h1:¬(k:Int)<xs.length:=by omega
  simp(disch:=omega) only[go_sem,seval,reduceCtorEq,h1];(refine zE ?_ ?_<;>try simp only[go_sem,seval,reduceCtorEq])
  all_goals rw[zt (by omega)]
end Go.Proofs.YtobhmajhachnaaaGreatDoor
