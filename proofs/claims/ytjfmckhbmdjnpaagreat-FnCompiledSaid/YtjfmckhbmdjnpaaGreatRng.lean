/-
 Contracts: primes, rings, sizes of tensors, tensors that are right. No condition.
-/
import Derived.Test.YtjfmckhbmdjnpaaGreatLift28
import Derived.Test.YtjfmckhbmdjnpaaGreatMgCompiledA
import Derived.Test.YtjfmckhbmdjnpaaGreatLiftG
set_option linter.unusedSimpArgs false
set_option linter.unusedVariables false
namespace Go.Proofs.YtjfmckhbmdjnpaaGreat
open Go.RowKit Go.Lift Plain
set_option maxRecDepth 100000
theorem g8 (x lo hi:Int):Does Tryz.prog 131 [.d (.int x),.d (.int lo),.d (.int hi)] [] (.d (.bool (decide (lo≤x∧x≤hi)))) []:=by
 generalize hB:decide (lo≤x∧x≤hi)=B
 (refine spec_of (by kernel_rfl) Tryz.func131 ze (fnOk (nb rfl) ?_);unfold sM)
 (simp only[Nat.reduceSub,Zl,zn,Nat.reduceAdd,zF];try simp only[af]);(simp only[go_sem,seval,reduceCtorEq,List.replicate])
 by_cases h1:x≥lo
 ·by_cases h2:x≤hi
  ·have e:B=true:=hB ▸ decide_eq_true ⟨h1,h2⟩
   simp only[go_sem,seval,reduceCtorEq,h1,h2,e]
   (refine zE ?_ ?_<;>try simp only[go_sem,seval,reduceCtorEq])
  ·have e:B=false:=hB ▸ decide_eq_false fun h=>h2 h.2
   simp only[go_sem,seval,reduceCtorEq,h1,h2,e]
   (refine zE ?_ ?_<;>try simp only[go_sem,seval,reduceCtorEq])
 ·have e:B=false:=hB ▸ decide_eq_false fun h=>h1 h.1
  simp only[go_sem,seval,reduceCtorEq,h1,e]
  (refine zE ?_ ?_<;>try simp only[go_sem,seval,reduceCtorEq])
def AJ (n:Int) (k:Nat):Prop:=∀ d:Nat,2≤d→d<k→n % d≠0
theorem xQ (n:Int):AJ n 2:=fun d h1 h2=>by omega
theorem vL {n:Int} {k:Nat} (h:AJ n k) (h2:n % k≠0):AJ n (k+1):=fun d h1 h3=>by
 by_cases e:d=k
 ·subst e;exact h2
 ·exact h d h1 (by omega)
theorem qY (n:Int):Does Tryz.prog 117 [.d (.int n)] [] (.d (.bool (bW n))) []:=by
 (refine spec_of (by kernel_rfl) Tryz.func117 wj (fnOk (nb rfl) ?_);unfold pM)
 (simp only[Nat.reduceSub,Zl,zn,Nat.reduceAdd,zF];try simp only[af]);(simp only[go_sem,seval,reduceCtorEq,List.replicate])
 by_cases h1:n<2
 ·have e:=wr h1
  simp only[go_sem,seval,reduceCtorEq,h1,e]
  (refine zE ?_ ?_<;>try simp only[go_sem,seval,reduceCtorEq])
 by_cases h2:n>1000003
 ·have e:=qX h2
  simp only[go_sem,seval,reduceCtorEq,h1,h2,e]
  (refine zE ?_ ?_<;>try simp only[go_sem,seval,reduceCtorEq])
 simp only[go_sem,seval,reduceCtorEq,h1,h2]
 refine uL (2) (fun i=>1100-i) (mkB 21 2096132) (fun i=>2≤i∧i≤1001∧AJ n i) (fun i=>[(3,.d (.int (i:Nat)))]) (fun i=>[]) (hi:=⟨by omega,by omega,xQ n⟩) (h1:=by first | (simp only[go_sem,seval,reduceCtorEq,nz,na,n1];first | done | rfl) | rfl) (h2:=by first | (simp only[go_sem,seval,reduceCtorEq,nz,na,n1];first | done | rfl) | rfl) (hr:=fun i hi=> ?_)
 unfold nC
 obtain⟨i1,i2,i3⟩:=hi
 have hs:=Jp i2
 have hw:IntKind.i64.wrap ((i:Int)*i)=(i:Int)*i:=IntWalk.i64_in _ (by omega)
 by_cases h3:(i:Int)*i≤n
 ·have e0:n.tmod i=n % i:=Int.tmod_eq_emod_of_nonneg (by omega)
  have n0:(i:Int)≠0:=by omega
  have hi0:=Fb h3 (by omega)
  by_cases h4:n % i=0
  ·have e:=uj i1 h3 (by omega) h4
   have c:(n % (i:Int)==0)=true:=by simp [h4]
   simp(disch:=omega) only[go_sem,seval,reduceCtorEq,hw,h3,e0,c,e,n0,ne_eq,not_false_eq_true]
   (refine zE ?_ ?_<;>try simp only[go_sem,seval,reduceCtorEq])
  ·have c:(n % (i:Int)==0)=false:=by simp [h4]
   simp(disch:=omega) only[go_sem,seval,reduceCtorEq,hw,h3,e0,c,n0,ne_eq,not_false_eq_true]
   (refine NextS.drop (mkB 21 2096132) (i+1) (by omega) (⟨by omega,by omega,vL i3 h4⟩) (h1:= ?_) (h2:= ?_)<;>first | (simp only[go_sem,seval,reduceCtorEq,nz,na,n1];first | done | rfl) | rfl | skip)
 ·have e:=ui (by omega) (by omega) i3 (Int.not_le.1 h3)
  simp(disch:=omega) only[go_sem,seval,reduceCtorEq,hw,h3,e]
  (refine zE ?_ ?_<;>try simp only[go_sem,seval,reduceCtorEq])
theorem qN (n:Int):Does Tryz.prog 130 [.d (.int n)] [] (.d (.bool (bW n))) []:=by
 (refine spec_of (by kernel_rfl) Tryz.func130 w8 (fnOk (nb rfl) ?_);unfold pE)
 (simp only[Nat.reduceSub,Zl,zn,Nat.reduceAdd,zF];try simp only[af]);(simp only[go_sem,seval,reduceCtorEq,List.replicate])
 refine uL (2) (fun i=>1100-i) (mkB 21 524276) (fun i=>2≤i∧i≤1001∧AJ n i) (fun i=>[(3,.d (.int (i:Nat)))]) (fun i=>[]) (hi:=⟨by omega,by omega,xQ n⟩) (h1:=by first | (simp only[go_sem,seval,reduceCtorEq,nz,na,n1];first | done | rfl) | rfl) (h2:=by first | (simp only[go_sem,seval,reduceCtorEq,nz,na,n1];first | done | rfl) | rfl) (hr:=fun i hi=> ?_)
 unfold nw
 obtain⟨i1,i2,i3⟩:=hi
 have hs:=Jp i2
 have hw:IntKind.i64.wrap ((i:Int)*i)=(i:Int)*i:=IntWalk.i64_in _ (by omega)
 by_cases h3:(i:Int)*i≤n
 ·by_cases h2:n≤1000003
  ·have e0:n.tmod i=n % i:=Int.tmod_eq_emod_of_nonneg (by omega)
   have n0:(i:Int)≠0:=by omega
   have hi0:=Fb h3 (by omega)
   by_cases h4:n % i=0
   ·have e:=uj i1 h3 (by omega) h4
    have c:(n % (i:Int)==0)=true:=by simp [h4]
    simp(disch:=omega) only[go_sem,seval,reduceCtorEq,hw,h3,h2,e0,c,e,n0,ne_eq,not_false_eq_true]
    (refine zE ?_ ?_<;>try simp only[go_sem,seval,reduceCtorEq])
   ·have c:(n % (i:Int)==0)=false:=by simp [h4]
    simp(disch:=omega) only[go_sem,seval,reduceCtorEq,hw,h3,h2,e0,c,n0,ne_eq,not_false_eq_true]
    (refine NextS.drop (mkB 21 524276) (i+1) (by omega) (⟨by omega,by omega,vL i3 h4⟩) (h1:= ?_) (h2:= ?_)<;>first | (simp only[go_sem,seval,reduceCtorEq,nz,na,n1];first | done | rfl) | rfl | skip)
  ·have e:=qX (Int.not_le.1 h2)
   have e2:decide (2≤n∧n≤1000003)=false:=decide_eq_false fun h=>h2 h.2
   simp(disch:=omega) only[go_sem,seval,reduceCtorEq,hw,h3,h2]
   (refine zC (g8 n 2 1000003) ?_)
   simp only[go_sem,seval,reduceCtorEq,e,e2]
   (refine zE ?_ ?_<;>try simp only[go_sem,seval,reduceCtorEq])
 ·simp(disch:=omega) only[go_sem,seval,reduceCtorEq,hw,h3]
  (refine zC (g8 n 2 1000003) ?_)
  by_cases h2:2≤n∧n≤1000003
  ·have e:=ui h2.1 h2.2 i3 (Int.not_le.1 h3)
   have e2:decide (2≤n∧n≤1000003)=true:=decide_eq_true h2
   simp only[go_sem,seval,reduceCtorEq,e,e2]
   (refine zE ?_ ?_<;>try simp only[go_sem,seval,reduceCtorEq])
  ·have e2:decide (2≤n∧n≤1000003)=false:=decide_eq_false h2
   have e:bW n=false:=by
    by_cases h5:n<2
    ·exact wr h5
    ·exact qX (by omega)
   simp only[go_sem,seval,reduceCtorEq,e,e2]
   (refine zE ?_ ?_<;>try simp only[go_sem,seval,reduceCtorEq])
theorem fN (k p n:Int):Does Tryz.prog 79 [bo k p n] [] (.d (.int (ai ⟨k,p,n⟩))) []:=by
 (refine spec_of (by kernel_rfl) Tryz.func79 uF (fnOk (nb rfl) ?_);unfold nI)
 (simp only[Nat.reduceSub,Zl,zn,Nat.reduceAdd,zF];try simp only[af]);(simp only[go_sem,seval,reduceCtorEq,List.replicate])
 by_cases h7:k=7
 ·have c:(k==7)=true:=by simp [h7]
  have e:ai ⟨k,p,n⟩=n:=if_pos h7
  simp only[go_sem,seval,reduceCtorEq,c,e]
  (refine zE ?_ ?_<;>try simp only[go_sem,seval,reduceCtorEq])
 have c7:(k==7)=false:=by simp [h7]
 by_cases h8:k=8
 ·have c:(k==8)=true:=by simp [h8]
  have e:ai ⟨k,p,n⟩=4:=by unfold ai;rw[if_neg h7,if_pos h8]
  simp only[go_sem,seval,reduceCtorEq,c7,c,e]
  (refine zE ?_ ?_<;>try simp only[go_sem,seval,reduceCtorEq])
 ·have c:(k==8)=false:=by simp [h8]
  have e:ai ⟨k,p,n⟩=1:=by unfold ai;rw[if_neg h7,if_neg h8]
  simp only[go_sem,seval,reduceCtorEq,c7,c,e]
  (refine zE ?_ ?_<;>try simp only[go_sem,seval,reduceCtorEq])
theorem fR (k p n:Int):Does Tryz.prog 122 [bo k p n] [] (.d (.int (ai ⟨k,p,n⟩))) []:=by
 (refine spec_of (by kernel_rfl) Tryz.func122 uC (fnOk (nb rfl) ?_);unfold nF)
 (simp only[Nat.reduceSub,Zl,zn,Nat.reduceAdd,zF];try simp only[af]);(simp only[go_sem,seval,reduceCtorEq,List.replicate])
 by_cases h7:k=7
 ·have c:(k==7)=true:=by simp [h7]
  have e:ai ⟨k,p,n⟩=n:=if_pos h7
  simp only[go_sem,seval,reduceCtorEq,c,e]
  (refine zE ?_ ?_<;>try simp only[go_sem,seval,reduceCtorEq])
 have c7:(k==7)=false:=by simp [h7]
 by_cases h8:k=8
 ·have c:(k==8)=true:=by simp [h8]
  have e:ai ⟨k,p,n⟩=4:=by unfold ai;rw[if_neg h7,if_pos h8]
  simp only[go_sem,seval,reduceCtorEq,c7,c,e]
  (refine zE ?_ ?_<;>try simp only[go_sem,seval,reduceCtorEq])
 ·have c:(k==8)=false:=by simp [h8]
  have e:ai ⟨k,p,n⟩=1:=by unfold ai;rw[if_neg h7,if_neg h8]
  simp only[go_sem,seval,reduceCtorEq,c7,c,e]
  (refine zE ?_ ?_<;>try simp only[go_sem,seval,reduceCtorEq])
theorem Ay (k p n:Int) (h:ah ⟨k,p,n⟩=true):Does Tryz.prog 128 [bo k p n] [] (.d (.int (top ⟨k,p,n⟩))) []:=by
 have hb:=dS h
 generalize hT:top ⟨k,p,n⟩=T at hb
 have hc:=aO h
 unfold top at hT
 simp only at hc hT
 (refine spec_of (by kernel_rfl) Tryz.func128 xk (fnOk (nb rfl) ?_);unfold qw)
 (simp only[Nat.reduceSub,Zl,zn,Nat.reduceAdd,zF];try simp only[af]);(simp only[go_sem,seval,reduceCtorEq,List.replicate])
 rcases hc with hc | hc | hc | hc | hc | hc | hc | hc
 all_goals obtain⟨rfl,hc⟩:=hc
 all_goals simp only[Int.reduceEq,if_true,if_false,or_true,true_or,or_false,or_self,false_or]at hT
 ·simp only[go_sem,seval,reduceCtorEq, ← hT]
  (refine zE ?_ ?_<;>try simp only[go_sem,seval,reduceCtorEq])
 ·have e:=bS hc.1
  simp(disch:=omega) only[go_sem,seval,reduceCtorEq,hT]
  (refine zE ?_ ?_<;>try simp only[go_sem,seval,reduceCtorEq])
 ·simp only[go_sem,seval,reduceCtorEq,hT]
  (refine zE ?_ ?_<;>try simp only[go_sem,seval,reduceCtorEq])
 ·simp only[go_sem,seval,reduceCtorEq,hT]
  (refine zE ?_ ?_<;>try simp only[go_sem,seval,reduceCtorEq])
 ·simp only[go_sem,seval,reduceCtorEq,hT]
  (refine zE ?_ ?_<;>try simp only[go_sem,seval,reduceCtorEq])
 ·have hm:min n.toNat 64=n.toNat:=by omega
  have hp:=BD hc.2.1 hc.2.2
  have hw:IntKind.i64.wrap (1*2 ^ n.toNat)=2 ^ n.toNat:=by rw[Int.one_mul];exact IntWalk.i64_in _ (by omega)
  simp(disch:=omega) only[go_sem,seval,reduceCtorEq,hm,hw,hT]
  refine And.intro (by omega) ?_
  (refine zE ?_ ?_<;>try simp only[go_sem,seval,reduceCtorEq])
 ·have e:=bS hc.1
  simp(disch:=omega) only[go_sem,seval,reduceCtorEq,hT]
  (refine zE ?_ ?_<;>try simp only[go_sem,seval,reduceCtorEq])
 ·have e:=bS hc.1
  simp(disch:=omega) only[go_sem,seval,reduceCtorEq,hT]
  (refine zE ?_ ?_<;>try simp only[go_sem,seval,reduceCtorEq])
theorem ow (k p n:Int) (h:ah ⟨k,p,n⟩=true):Does Tryz.prog 132 [bo k p n] [] (.d (.int (top ⟨k,p,n⟩))) []:=by
 have hb:=dS h
 generalize hT:top ⟨k,p,n⟩=T at hb
 have hc:=aO h
 unfold top at hT
 simp only at hc hT
 (refine spec_of (by kernel_rfl) Tryz.func132 xe (fnOk (nb rfl) ?_);unfold qp)
 (simp only[Nat.reduceSub,Zl,zn,Nat.reduceAdd,zF];try simp only[af]);(simp only[go_sem,seval,reduceCtorEq,List.replicate])
 rcases hc with hc | hc | hc | hc | hc | hc | hc | hc
 all_goals obtain⟨rfl,hc⟩:=hc
 all_goals simp only[Int.reduceEq,if_true,if_false,or_true,true_or,or_false,or_self,false_or]at hT
 ·simp only[go_sem,seval,reduceCtorEq, ← hT]
  (refine zE ?_ ?_<;>try simp only[go_sem,seval,reduceCtorEq])
 ·have e:=bS hc.1
  simp(disch:=omega) only[go_sem,seval,reduceCtorEq,hT]
  (refine zE ?_ ?_<;>try simp only[go_sem,seval,reduceCtorEq])
 ·simp only[go_sem,seval,reduceCtorEq,hT]
  (refine zE ?_ ?_<;>try simp only[go_sem,seval,reduceCtorEq])
 ·simp only[go_sem,seval,reduceCtorEq,hT]
  (refine zE ?_ ?_<;>try simp only[go_sem,seval,reduceCtorEq])
 ·simp only[go_sem,seval,reduceCtorEq,hT]
  (refine zE ?_ ?_<;>try simp only[go_sem,seval,reduceCtorEq])
 ·have hm:min n.toNat 64=n.toNat:=by omega
  have hp:=BD hc.2.1 hc.2.2
  have hw:IntKind.i64.wrap (1*2 ^ n.toNat)=2 ^ n.toNat:=by rw[Int.one_mul];exact IntWalk.i64_in _ (by omega)
  simp(disch:=omega) only[go_sem,seval,reduceCtorEq,hm,hw,hT]
  refine And.intro (by omega) ?_
  (refine zE ?_ ?_<;>try simp only[go_sem,seval,reduceCtorEq])
 ·have e:=bS hc.1
  simp(disch:=omega) only[go_sem,seval,reduceCtorEq,hT]
  (refine zE ?_ ?_<;>try simp only[go_sem,seval,reduceCtorEq])
 ·have e:=bS hc.1
  simp(disch:=omega) only[go_sem,seval,reduceCtorEq,hT]
  (refine zE ?_ ?_<;>try simp only[go_sem,seval,reduceCtorEq])
set_option maxHeartbeats 6400000 in
theorem y7 (k p n:Int):Does Tryz.prog 87 [bo k p n] [] (.d (.bool (ah ⟨k,p,n⟩))) []:=by
 generalize hT:ah ⟨k,p,n⟩=T
 unfold ah at hT
 simp only at hT
 (refine spec_of (by kernel_rfl) Tryz.func87 xr (fnOk (nb rfl) ?_);unfold qG)
 (simp only[Nat.reduceSub,Zl,zn,Nat.reduceAdd,zF];try simp only[af]);(simp only[go_sem,seval,reduceCtorEq,List.replicate])
 cases c1:(k==1)
 case true=>cases ca:(p==0)<;>cases cb:(n==0)<;>(simp only[go_sem,seval,reduceCtorEq,c1,ca,cb];((refine zE ?_ ?_<;>try simp only[go_sem,seval,reduceCtorEq]);(try rw[← hT]);(try simp_all);(try omega)))
 cases c2:(k==2)
 case true=>
  simp only[go_sem,seval,reduceCtorEq,c1,c2]
  (refine zC (qY p) ?_)
  cases ca:bW p<;>cases cb:(n==0)<;>(simp only[go_sem,seval,reduceCtorEq,ca,cb];((refine zE ?_ ?_<;>try simp only[go_sem,seval,reduceCtorEq]);(try rw[← hT]);(try simp_all);(try omega)))
 cases c3:(k==3)
 case true=>(by_cases h1:p≥1<;>by_cases h2:p≤1000000<;>cases cb:(n==0)<;>(simp only[go_sem,seval,reduceCtorEq,c1,c2,c3,h1,h2,cb];((refine zE ?_ ?_<;>try simp only[go_sem,seval,reduceCtorEq]);(try rw[← hT]);(try simp_all);(try omega))))
 cases c4:(k==4)
 case true=>(by_cases h1:p≥1<;>by_cases h2:p≤1000000<;>cases cb:(n==0)<;>(simp only[go_sem,seval,reduceCtorEq,c1,c2,c3,c4,h1,h2,cb];((refine zE ?_ ?_<;>try simp only[go_sem,seval,reduceCtorEq]);(try rw[← hT]);(try simp_all);(try omega))))
 cases c5:(k==5)
 case true=>(by_cases h1:p≥1<;>by_cases h2:p≤1000000<;>cases cb:(n==0)<;>(simp only[go_sem,seval,reduceCtorEq,c1,c2,c3,c4,c5,h1,h2,cb];((refine zE ?_ ?_<;>try simp only[go_sem,seval,reduceCtorEq]);(try rw[← hT]);(try simp_all);(try omega))))
 cases c6:(k==6)
 case true=>cases ca:(p==0)<;>by_cases h1:n≥1<;>by_cases h2:n≤20<;>(simp only[go_sem,seval,reduceCtorEq,c1,c2,c3,c4,c5,c6,ca,h1,h2];((refine zE ?_ ?_<;>try simp only[go_sem,seval,reduceCtorEq]);(try rw[← hT]);(try simp_all);(try omega)))
 cases c7:(k==7)
 case true=>
  simp only[go_sem,seval,reduceCtorEq,c1,c2,c3,c4,c5,c6,c7]
  (refine zC (qY p) ?_)
  cases ca:bW p<;>by_cases h1:n≥1<;>by_cases h2:n≤6<;>(simp only[go_sem,seval,reduceCtorEq,ca,h1,h2];((refine zE ?_ ?_<;>try simp only[go_sem,seval,reduceCtorEq]);(try rw[← hT]);(try simp_all);(try omega)))
 cases c8:(k==8)
 case true=>
  simp only[go_sem,seval,reduceCtorEq,c1,c2,c3,c4,c5,c6,c7,c8]
  (refine zC (qY p) ?_)
  cases ca:bW p<;>cases cp:(p !=2)<;>cases cb:(n==0)<;>(simp only[go_sem,seval,reduceCtorEq,ca,cp,cb];((refine zE ?_ ?_<;>try simp only[go_sem,seval,reduceCtorEq]);(try rw[← hT]);(try simp_all);(try omega)))
 simp only[go_sem,seval,reduceCtorEq,c1,c2,c3,c4,c5,c6,c7,c8]
 ((refine zE ?_ ?_<;>try simp only[go_sem,seval,reduceCtorEq]);(try rw[← hT]);(try simp_all);(try omega))
set_option maxHeartbeats 6400000 in
theorem xD (k p n:Int):Does Tryz.prog 118 [bo k p n] [] (.d (.bool (ah ⟨k,p,n⟩))) []:=by
 generalize hT:ah ⟨k,p,n⟩=T
 unfold ah at hT
 simp only at hT
 (refine spec_of (by kernel_rfl) Tryz.func118 xj (fnOk (nb rfl) ?_);unfold qv)
 (simp only[Nat.reduceSub,Zl,zn,Nat.reduceAdd,zF];try simp only[af]);(simp only[go_sem,seval,reduceCtorEq,List.replicate])
 cases c1:(k==1)
 case true=>cases ca:(p==0)<;>cases cb:(n==0)<;>(simp only[go_sem,seval,reduceCtorEq,c1,ca,cb];((refine zE ?_ ?_<;>try simp only[go_sem,seval,reduceCtorEq]);(try rw[← hT]);(try simp_all);(try omega)))
 cases c2:(k==2)
 case true=>
  simp only[go_sem,seval,reduceCtorEq,c1,c2]
  (refine zC (qN p) ?_)
  cases ca:bW p<;>cases cb:(n==0)<;>(simp only[go_sem,seval,reduceCtorEq,ca,cb];((refine zE ?_ ?_<;>try simp only[go_sem,seval,reduceCtorEq]);(try rw[← hT]);(try simp_all);(try omega)))
 cases c3:(k==3)
 case true=>(simp only[go_sem,seval,reduceCtorEq,c1,c2,c3];(refine zC (g8 p 1 1000000) ?_);(cases h1:decide (1≤p∧p≤1000000)<;>cases cb:(n==0)<;>(simp only[go_sem,seval,reduceCtorEq,h1,cb];((refine zE ?_ ?_<;>try simp only[go_sem,seval,reduceCtorEq]);(try rw[← hT]);(try simp_all);(try omega)))))
 cases c4:(k==4)
 case true=>(simp only[go_sem,seval,reduceCtorEq,c1,c2,c3,c4];(refine zC (g8 p 1 1000000) ?_);(cases h1:decide (1≤p∧p≤1000000)<;>cases cb:(n==0)<;>(simp only[go_sem,seval,reduceCtorEq,h1,cb];((refine zE ?_ ?_<;>try simp only[go_sem,seval,reduceCtorEq]);(try rw[← hT]);(try simp_all);(try omega)))))
 cases c5:(k==5)
 case true=>(simp only[go_sem,seval,reduceCtorEq,c1,c2,c3,c4,c5];(refine zC (g8 p 1 1000000) ?_);(cases h1:decide (1≤p∧p≤1000000)<;>cases cb:(n==0)<;>(simp only[go_sem,seval,reduceCtorEq,h1,cb];((refine zE ?_ ?_<;>try simp only[go_sem,seval,reduceCtorEq]);(try rw[← hT]);(try simp_all);(try omega)))))
 cases c6:(k==6)
 case true=>
  cases ca:(p==0)
  ·simp only[go_sem,seval,reduceCtorEq,c1,c2,c3,c4,c5,c6,ca]
   ((refine zE ?_ ?_<;>try simp only[go_sem,seval,reduceCtorEq]);(try rw[← hT]);(try simp_all);(try omega))
  ·simp only[go_sem,seval,reduceCtorEq,c1,c2,c3,c4,c5,c6,ca]
   (refine zC (g8 n 1 20) ?_)
   cases h1:decide (1≤n∧n≤20)<;>(simp only[go_sem,seval,reduceCtorEq,h1];((refine zE ?_ ?_<;>try simp only[go_sem,seval,reduceCtorEq]);(try rw[← hT]);(try simp_all);(try omega)))
 cases c7:(k==7)
 case true=>
  simp only[go_sem,seval,reduceCtorEq,c1,c2,c3,c4,c5,c6,c7]
  (refine zC (qN p) ?_)
  cases ca:bW p
  ·simp only[go_sem,seval,reduceCtorEq,ca]
   ((refine zE ?_ ?_<;>try simp only[go_sem,seval,reduceCtorEq]);(try rw[← hT]);(try simp_all);(try omega))
  ·simp only[go_sem,seval,reduceCtorEq,ca]
   (refine zC (g8 n 1 6) ?_)
   cases h1:decide (1≤n∧n≤6)<;>(simp only[go_sem,seval,reduceCtorEq,h1];((refine zE ?_ ?_<;>try simp only[go_sem,seval,reduceCtorEq]);(try rw[← hT]);(try simp_all);(try omega)))
 cases c8:(k==8)
 case true=>
  simp only[go_sem,seval,reduceCtorEq,c1,c2,c3,c4,c5,c6,c7,c8]
  (refine zC (qN p) ?_)
  by_cases h1:p>2<;>cases ca:bW p<;>cases cb:(n==0)<;>(have hb:=bS (n:=p);simp only[go_sem,seval,reduceCtorEq,ca,h1,cb];((refine zE ?_ ?_<;>try simp only[go_sem,seval,reduceCtorEq]);(try rw[← hT]);(try simp_all);(try omega)))
 simp only[go_sem,seval,reduceCtorEq,c1,c2,c3,c4,c5,c6,c7,c8]
 ((refine zE ?_ ?_<;>try simp only[go_sem,seval,reduceCtorEq]);(try rw[← hT]);(try simp_all);(try omega))
set_option maxRecDepth 100000
theorem fo {xs:List Int} {x:Int} (h:xs.length≤1099511627776):Does Tryz.prog 57 [.d (ints xs),.d (.int x)] [] (.d (.bool (has xs x))) []:=by
 (refine spec_of (by kernel_rfl) Tryz.func57 xn (fnOk (nb rfl) ?_);unfold qz)
 (simp only[Nat.reduceSub,Zl,zn,Nat.reduceAdd,zF];try simp only[af]);(simp only[go_sem,seval,reduceCtorEq,List.replicate])
 refine lw (xs.length) (fun k=>x∉xs.take k) (fun k=>(ch (.any) (.d (.int x)) (.any) (.any) (.any) (.any) (.any) (.d (ints xs)) (.d (.int xs.length)) (.d (.int k)) (.any) (.any) (.any) (.any) (.any) (.any) [.any])) (fun k=>[]) (by simp) (Wk.kept' [1,7,8,9] 0 (nb rfl) (by first | rfl | simp only[go_sem,seval,reduceCtorEq,bU,aT,aS,br,c9,cut,List.contains_cons,List.contains_nil,Nat.reduceBEq,Int.natCast_zero,Int.natCast_add,Int.natCast_one]) (by first | rfl | simp only[go_sem,seval,reduceCtorEq,bU,aT,aS,br,c9,cut,List.contains_cons,List.contains_nil,Nat.reduceBEq,Int.natCast_zero,Int.natCast_add,Int.natCast_one])) fun k hk hi=> ?_
 unfold ph
 by_cases hlt:k<xs.length
 ·have h1:(k:Int)<xs.length:=by omega
  have hx:xs[k]? =some xs[k]:=zg hlt
  by_cases he:x=xs[k]
  ·have he':(x==xs[k])=true:=by simp [he]
   have e:has xs x=true:=aI.2 (by rw[he];exact List.getElem_mem _)
   simp(disch:=omega) only[go_sem,seval,reduceCtorEq,h1,hx,he',e]
   (refine zE ?_ ?_<;>try simp only[go_sem,seval,reduceCtorEq])
  ·have he':(x==xs[k])=false:=by simp [he]
   simp(disch:=omega) only[go_sem,seval,reduceCtorEq,h1,hx,he']
   (refine NextI.mk hlt (mF hlt hi he) (Wk.kept' [1,7,8,9] 0 (nb rfl) ?_ ?_)<;>first | rfl | (simp only[go_sem,seval,reduceCtorEq,bU,aT,aS,br,c9,cut,List.contains_cons,List.contains_nil,Nat.reduceBEq,Int.natCast_zero,Int.natCast_add,Int.natCast_one];done) | skip)
 ·have h1:¬ (k:Int)<xs.length:=by omega
  have e:has xs x=false:=bK.2 (by rw[zt (by omega)]at hi;exact hi)
  simp(disch:=omega) only[go_sem,seval,reduceCtorEq,h1,e]
  (refine zE ?_ ?_<;>try simp only[go_sem,seval,reduceCtorEq])
theorem lP {xs:List Int} {x:Int} (h:xs.length≤1099511627776):Does Tryz.prog 94 [.d (ints xs),.d (.int x)] [] (.d (.int (bB xs x))) []:=by
 (refine spec_of (by kernel_rfl) Tryz.func94 vX (fnOk (nb rfl) ?_);unfold pw)
 (simp only[Nat.reduceSub,Zl,zn,Nat.reduceAdd,zF];try simp only[af]);(simp only[go_sem,seval,reduceCtorEq,List.replicate])
 refine lw (xs.length) (fun k=>x∉xs.take k) (fun k=>(ch (.any) (.d (.int x)) (.any) (.any) (.any) (.any) (.any) (.d (ints xs)) (.d (.int xs.length)) (.d (.int k)) (.any) (.any) (.any) (.any) (.any) (.any) [.any,.any,.any])) (fun k=>[]) (by simp) (Wk.kept' [1,7,8,9] 0 (nb rfl) (by first | rfl | simp only[go_sem,seval,reduceCtorEq,bU,aT,aS,br,c9,cut,List.contains_cons,List.contains_nil,Nat.reduceBEq,Int.natCast_zero,Int.natCast_add,Int.natCast_one]) (by first | rfl | simp only[go_sem,seval,reduceCtorEq,bU,aT,aS,br,c9,cut,List.contains_cons,List.contains_nil,Nat.reduceBEq,Int.natCast_zero,Int.natCast_add,Int.natCast_one])) fun k hk hi=> ?_
 unfold nq
 by_cases hlt:k<xs.length
 ·have h1:(k:Int)<xs.length:=by omega
  have hx:xs[k]? =some xs[k]:=zg hlt
  by_cases he:xs[k]=x
  ·have he':(xs[k]==x)=true:=by simp [he]
   have e:bB xs x=k:=by rw[← he];exact ff hlt (by rw[he];exact hi)
   simp(disch:=omega) only[go_sem,seval,reduceCtorEq,h1,hx,he',e]
   (refine zE ?_ ?_<;>try simp only[go_sem,seval,reduceCtorEq])
  ·have he':(xs[k]==x)=false:=by simp [he]
   simp(disch:=omega) only[go_sem,seval,reduceCtorEq,h1,hx,he']
   (refine NextI.mk hlt (mF hlt hi (fun e=>he e.symm)) (Wk.kept' [1,7,8,9] 0 (nb rfl) ?_ ?_)<;>first | rfl | (simp only[go_sem,seval,reduceCtorEq,bU,aT,aS,br,c9,cut,List.contains_cons,List.contains_nil,Nat.reduceBEq,Int.natCast_zero,Int.natCast_add,Int.natCast_one];done) | skip)
 ·have h1:¬ (k:Int)<xs.length:=by omega
  have e:bB xs x= -1:=gE (by rw[zt (by omega)]at hi;exact hi)
  simp(disch:=omega) only[go_sem,seval,reduceCtorEq,h1,e]
  (refine zE ?_ ?_<;>try simp only[go_sem,seval,reduceCtorEq])
theorem ix {ds:List Int} {lim:Int} (h:ds.length≤1099511627776) (hd:∀ d∈ds,1≤d∧d≤100) (hl:1≤lim∧lim≤1000000000):Does Tryz.prog 91 [.d (ints ds),.d (.int lim)] [] (.d (.int (min (aa ds) (lim+1)))) []:=by
 (refine spec_of (by kernel_rfl) Tryz.func91 rO (fnOk (nb rfl) ?_);unfold kZ)
 (simp only[Nat.reduceSub,Zl,zn,Nat.reduceAdd,zF];try simp only[af]);(simp only[go_sem,seval,reduceCtorEq,List.replicate])
 have e0:min (aa []) (lim+1)=1:=by rw[xI];omega
 refine lC (ds.length) (fun k=>(ch (.any) (.d (.int lim)) (.any) (.any) (.any) (.d (.int (min (aa (ds.take k)) (lim+1)))) (.any) (.any) (.d (ints ds)) (.d (.int ds.length)) (.d (.int k)) (.any) (.any) (.any) (.any) (.any) [.any,.any,.any,.any,.any,.any])) (fun k=>[]) (Wk.kept' [1,5,8,9,10] 0 (nb rfl) (by first | rfl | simp only[go_sem,seval,reduceCtorEq,bU,aT,aS,br,c9,cut,List.contains_cons,List.contains_nil,Nat.reduceBEq,Int.natCast_zero,Int.natCast_add,Int.natCast_one,e0]) (by first | rfl | simp only[go_sem,seval,reduceCtorEq,bU,aT,aS,br,c9,cut,List.contains_cons,List.contains_nil,Nat.reduceBEq,Int.natCast_zero,Int.natCast_add,Int.natCast_one,e0])) fun k hk=> ?_
 unfold ju
 by_cases hlt:k<ds.length
 ·have h1:(k:Int)<ds.length:=by omega
  have hx:ds[k]? =some ds[k]:=zg hlt
  have e:=cB ds k hlt
  rw[ae hlt]at e
  have hb:=hd ds[k] (List.getElem_mem _)
  have b1:=bf (ds.take k) (fun d hd'=>(hd d (List.mem_of_mem_take hd')).1)
  have e2:=CV (aa (ds.take k)) ds[k] (lim+1) hb.1 (by omega)
  rw[← e]at e2
  have b3:0≤min (aa (ds.take k)) (lim+1)*ds[k]:=Int.mul_nonneg (by omega) (by omega)
  have b4:min (aa (ds.take k)) (lim+1)*ds[k]≤(lim+1)*100:=Int.mul_le_mul (by omega) hb.2 (by omega) (by omega)
  simp(disch:=omega) only[go_sem,seval,reduceCtorEq,h1,hx]
  (refine Next.mk hlt (Wk.kept' [1,5,8,9,10] 0 (nb rfl) ?_ ?_)<;>first | rfl | (simp only[go_sem,seval,reduceCtorEq,bU,aT,aS,br,c9,cut,List.contains_cons,List.contains_nil,Nat.reduceBEq,Int.natCast_zero,Int.natCast_add,Int.natCast_one,e2];done) | skip)
 ·have h1:¬ (k:Int)<ds.length:=by omega
  simp(disch:=omega) only[go_sem,seval,reduceCtorEq,h1]
  (refine zE ?_ ?_<;>try simp only[go_sem,seval,reduceCtorEq])
  rw[zt (by omega)]
theorem Dl {ls ds:List Int} {k:Nat} (h1:k<ls.length) (h2:k<ds.length) (h:¬ (0≤ls[k]∧ls[k]≤99∧1≤ds[k]∧ds[k]≤8∧ls[k]∉ls.take k)):¬ axAt ls ds k:=by
 unfold axAt
 rw[ae h1,ae h2]
 exact h
set_option maxHeartbeats 1600000 in
theorem g9 {t:Ten} (h:TSz 1099511627776 t):Does Tryz.prog 39 [tenA t] [] (.d (.int (aY t.labels t.dims))) []:=by
 obtain⟨ls,ds,xs⟩:=t
 generalize hT:aY ls ds=T
 (refine spec_of (by kernel_rfl) Tryz.func39 s6 (fnOk (nb rfl) ?_);unfold lg)
 unfold tenA
 simp only
 (simp only[Nat.reduceSub,Zl,zn,Nat.reduceAdd,zF];try simp only[af]);(simp only[go_sem,seval,reduceCtorEq,List.replicate])
 by_cases a1:(ls.length:Int)>12
 ·have e:=vi (ls:=ls) (ds:=ds) (by omega)
  rw[hT]at e
  simp only[go_sem,seval,reduceCtorEq,a1,e]
  (refine zE ?_ ?_<;>try simp only[go_sem,seval,reduceCtorEq])
 by_cases a2:ls.length=ds.length
 rotate_left
 ·have e:=Br a2
  rw[hT]at e
  have c:((ls.length:Int) !=ds.length)=true:=by simp;omega
  simp only[go_sem,seval,reduceCtorEq,a1,c,e]
  (refine zE ?_ ?_<;>try simp only[go_sem,seval,reduceCtorEq])
 have c:((ls.length:Int) !=ds.length)=false:=by simp;omega
 simp only[go_sem,seval,reduceCtorEq,a1,c]
 have p0:aa (ds.take 0)=1:=rfl
 have hI0:(∀ j,j<0→axAt ls ds j)∧aa (ds.take 0)≤4096∧1≤aa (ds.take 0):=⟨fun j hj=>absurd hj (Nat.not_lt_zero j),by rw[p0];omega,by rw[p0];omega⟩
 refine bG (ls.length) (mkB 64 9223372036837998708) (fun k=>(∀ j,j<k→axAt ls ds j)∧aa (ds.take k)≤4096∧1≤aa (ds.take k)) (fun k=>[(3,.d (.int (aa (ds.take k)))),(23,.d (.int k))]) (fun k=>[]) (hi:=hI0) (h1:=by first | (simp only[go_sem,seval,reduceCtorEq,nz,na,n1,p0];first | done | rfl) | rfl) (h2:=by first | (simp only[go_sem,seval,reduceCtorEq,nz,na,n1,p0];first | done | rfl) | rfl) (hr:=fun k hk hi=> ?_)
 unfold jT
 obtain⟨i1,i2,i3⟩:=hi
 by_cases hlt:k<ls.length
 ·have d1:(k:Int)<ls.length:=by omega
  have hk:k<ds.length:=by omega
  have g1:ls[k]? =some ls[k]:=zg hlt
  have g2:ds[k]? =some ds[k]:=zg hk
  have htk:(ls.take k).length=k:=by rw[List.length_take];omega
  have bad:¬ (0≤ls[k]∧ls[k]≤99∧1≤ds[k]∧ds[k]≤8∧ls[k]∉ls.take k)→T= -1:=fun hb=>by rw[← hT];exact A4 k hlt (Dl hlt hk hb)
  simp(disch:=omega) only[go_sem,seval,reduceCtorEq,d1,g1,Option.map_some]
  by_cases b1:ls[k]<0
  ·simp only[go_sem,seval,reduceCtorEq,b1,bad (by omega)]
   (refine zE ?_ ?_<;>try simp only[go_sem,seval,reduceCtorEq])
  by_cases b2:ls[k]>99
  ·simp only[go_sem,seval,reduceCtorEq,b1,b2,bad (by omega)]
   (refine zE ?_ ?_<;>try simp only[go_sem,seval,reduceCtorEq])
  simp(disch:=omega) only[go_sem,seval,reduceCtorEq,b1,b2]
  (repeat (refine And.intro (by omega) ?_))
  (refine aA (fo (xs:=ls.take k) (x:=ls[k]) (by omega)) ?_ ?_ ?_;(focus (simp only[go_sem,seval,reduceCtorEq,htk,Int.sub_zero];done));(first | rfl | (focus (simp only[go_sem];done))))
  cases b3:has (ls.take k) ls[k]
  rotate_left
  ·simp only[go_sem,seval,reduceCtorEq,b3,bad (fun h=>h.2.2.2.2 (aI.1 b3))]
   (refine zE ?_ ?_<;>try simp only[go_sem,seval,reduceCtorEq])
  simp(disch:=omega) only[go_sem,seval,reduceCtorEq,b3,g2,Option.map_some]
  (repeat (refine And.intro (by omega) ?_))
  by_cases b4:ds[k]<1
  ·simp(disch:=omega) only[go_sem,seval,reduceCtorEq,b4,bad (by omega)]
   (refine zE ?_ ?_<;>try simp only[go_sem,seval,reduceCtorEq])
  by_cases b5:ds[k]>8
  ·simp(disch:=omega) only[go_sem,seval,reduceCtorEq,b4,b5,bad (by omega)]
   (refine zE ?_ ?_<;>try simp only[go_sem,seval,reduceCtorEq])
  have hpb:1*1≤aa (ds.take k)*ds[k]:=Int.mul_le_mul i3 (by omega) (by omega) (by omega)
  have hpc:aa (ds.take k)*ds[k]≤4096*8:=Int.mul_le_mul i2 (by omega) (by omega) (by omega)
  have hw:IntKind.i64.wrap (aa (ds.take k)*ds[k])=aa (ds.take k)*ds[k]:=IntWalk.i64_in _ (by omega)
  have hps:aa (ds.take (k+1))=aa (ds.take k)*ds[k]:=by rw[cB ds k hk,ae hk]
  by_cases b6:aa (ds.take k)*ds[k]>4096
  ·have e:T= -1:=by rw[← hT];exact Dx k hlt a2 (by rw[ae hk];omega)
   simp(disch:=omega) only[go_sem,seval,reduceCtorEq,b4,b5,hw,b6,e]
   (refine zE ?_ ?_<;>try simp only[go_sem,seval,reduceCtorEq])
  ·have hI:(∀ j,j<k+1→axAt ls ds j)∧aa (ds.take (k+1))≤4096∧1≤aa (ds.take (k+1)):=by
    refine⟨fun j hj=> ?_,by rw[hps];omega,by rw[hps];omega⟩
    by_cases e:j=k
    ·subst e
     unfold axAt
     rw[ae hlt,ae hk]
     exact⟨by omega,by omega,by omega,by omega,bK.1 b3⟩
    ·exact i1 j (by omega)
   simp(disch:=omega) only[go_sem,seval,reduceCtorEq,b4,b5,hw,b6]
   (refine NextI.drop (mkB 64 9223372036837998708) (by omega) (hI) (h1:= ?_) (h2:= ?_)<;>first | (simp only[go_sem,seval,reduceCtorEq,nz,na,n1,hps];first | done | rfl) | rfl | skip)
 ·have d1:¬ (k:Int)<ls.length:=by omega
  obtain rfl:k=ls.length:=by omega
  have htl:ds.take ls.length=ds:=zt (by omega)
  rw[htl]at i2
  have e:=Bs (by omega) a2 i1 i2
  rw[hT]at e
  simp(disch:=omega) only[go_sem,seval,reduceCtorEq,d1,htl,e]
  (refine zE ?_ ?_<;>try simp only[go_sem,seval,reduceCtorEq])
theorem Eg {ls ds:List Int} (h:ls.length≤1099511627776) (h2:ds.length≤1099511627776):Does Tryz.prog 133 [.d (ints ls),.d (ints ds)] [] (.d (.bool (decide (axOk ls ds)))) []:=by
 generalize hT:decide (axOk ls ds)=T
 (refine spec_of (by kernel_rfl) Tryz.func133 w3 (fnOk (nb rfl) ?_);unfold pz)
 (simp only[Nat.reduceSub,Zl,zn,Nat.reduceAdd,zF];try simp only[af]);(simp only[go_sem,seval,reduceCtorEq,List.replicate])
 by_cases a1:(ls.length:Int)>12
 ·have e:T=false:=by rw[← hT];exact decide_eq_false fun h=>by have:=h.1;omega
  simp only[go_sem,seval,reduceCtorEq,a1,e]
  (refine zE ?_ ?_<;>try simp only[go_sem,seval,reduceCtorEq])
 by_cases a2:ls.length=ds.length
 rotate_left
 ·have e:T=false:=by rw[← hT];exact decide_eq_false fun h=>a2 h.2.1
  have c:((ls.length:Int) !=ds.length)=true:=by simp;omega
  simp only[go_sem,seval,reduceCtorEq,a1,c,e]
  (refine zE ?_ ?_<;>try simp only[go_sem,seval,reduceCtorEq])
 have c:((ls.length:Int) !=ds.length)=false:=by simp;omega
 simp only[go_sem,seval,reduceCtorEq,a1,c]
 refine bG (ls.length) (mkB 44 17592184995952) (fun k=>∀ j,j<k→axAt ls ds j) (fun k=>[(19,.d (.int k))]) (fun k=>[]) (hi:=fun j hj=>absurd hj (Nat.not_lt_zero j)) (h1:=by first | (simp only[go_sem,seval,reduceCtorEq,nz,na,n1];first | done | rfl) | rfl) (h2:=by first | (simp only[go_sem,seval,reduceCtorEq,nz,na,n1];first | done | rfl) | rfl) (hr:=fun k hk hi=> ?_)
 unfold nu
 by_cases hlt:k<ls.length
 ·have d1:(k:Int)<ls.length:=by omega
  have hk:k<ds.length:=by omega
  have g1:ls[k]? =some ls[k]:=zg hlt
  have g2:ds[k]? =some ds[k]:=zg hk
  have htk:(ls.take k).length=k:=by rw[List.length_take];omega
  have bad:¬ (0≤ls[k]∧ls[k]≤99∧1≤ds[k]∧ds[k]≤8∧ls[k]∉ls.take k)→T=false:=fun hb=>by rw[← hT];exact decide_eq_false fun h=>Dl hlt hk hb (h.2.2 k hlt)
  simp(disch:=omega) only[go_sem,seval,reduceCtorEq,d1,g1,Option.map_some]
  (refine zC (g8 ls[k] 0 99) ?_)
  cases b1:decide (0≤ls[k]∧ls[k]≤99)
  ·simp(disch:=omega) only[go_sem,seval,reduceCtorEq,b1,bad (fun h=>of_decide_eq_false b1 ⟨h.1,h.2.1⟩)]
   (refine zE ?_ ?_<;>try simp only[go_sem,seval,reduceCtorEq])
  simp(disch:=omega) only[go_sem,seval,reduceCtorEq,b1,g2,Option.map_some]
  (repeat (refine And.intro (by omega) ?_))
  (refine zC (g8 ds[k] 1 8) ?_)
  cases b2:decide (1≤ds[k]∧ds[k]≤8)
  ·simp(disch:=omega) only[go_sem,seval,reduceCtorEq,b2,bad (fun h=>of_decide_eq_false b2 ⟨h.2.2.1,h.2.2.2.1⟩)]
   (refine zE ?_ ?_<;>try simp only[go_sem,seval,reduceCtorEq])
  simp(disch:=omega) only[go_sem,seval,reduceCtorEq,b2]
  (repeat (refine And.intro (by omega) ?_))
  (refine aA (lP (xs:=ls.take k) (x:=ls[k]) (by omega)) ?_ ?_ ?_;(focus (simp only[go_sem,seval,reduceCtorEq,htk,Int.sub_zero];done));(first | rfl | (focus (simp only[go_sem];done))))
  by_cases b3:ls[k]∈ls.take k
  ·have c3:bB (ls.take k) ls[k]≥0:=Int.not_lt.1 fun h=>dh.1 h b3
   simp only[go_sem,seval,reduceCtorEq,c3,bad (fun h=>h.2.2.2.2 b3)]
   (refine zE ?_ ?_<;>try simp only[go_sem,seval,reduceCtorEq])
  ·have c3:¬ bB (ls.take k) ls[k]≥0:=Int.not_le.2 (dh.2 b3)
   have hI:∀ j,j<k+1→axAt ls ds j:=fun j hj=>by
    by_cases e:j=k
    ·subst e
     unfold axAt
     rw[ae hlt,ae hk]
     have q1:=zd b1
     have q2:=zd b2
     exact⟨q1.1,q1.2,q2.1,q2.2,b3⟩
    ·exact hi j (by omega)
   simp(disch:=omega) only[go_sem,seval,reduceCtorEq,c3]
   (refine NextI.drop (mkB 44 17592184995952) (by omega) (hI) (h1:= ?_) (h2:= ?_)<;>first | (simp only[go_sem,seval,reduceCtorEq,nz,na,n1];first | done | rfl) | rfl | skip)
 ·have d1:¬ (k:Int)<ls.length:=by omega
  obtain rfl:k=ls.length:=by omega
  have e:T=true:=by rw[← hT];exact decide_eq_true ⟨by omega,a2,hi⟩
  simp(disch:=omega) only[go_sem,seval,reduceCtorEq,d1,e]
  (refine zE ?_ ?_<;>try simp only[go_sem,seval,reduceCtorEq])
theorem qf {t:Ten} (h:TSz 1099511627776 t):Does Tryz.prog 120 [tenA t] [] (.d (.int (aY t.labels t.dims))) []:=by
 have hl:=h.l.len
 have hd:=h.d.len
 obtain⟨ls,ds,xs⟩:=t
 simp only at hl hd ⊢
 generalize hT:aY ls ds=T
 (refine spec_of (by kernel_rfl) Tryz.func120 rP (fnOk (nb rfl) ?_);unfold l3)
 unfold tenA
 simp only
 (simp only[Nat.reduceSub,Zl,zn,Nat.reduceAdd,zF];try simp only[af]);(simp only[go_sem,seval,reduceCtorEq,List.replicate])
 (refine zC (Eg (ls:=ls) (ds:=ds) hl hd) ?_)
 cases a1:decide (axOk ls ds)
 ·have e:T= -1:=by rw[← hT];exact if_neg fun h=>of_decide_eq_false a1 h.1
  simp only[go_sem,seval,reduceCtorEq,a1,e]
  (refine zE ?_ ?_<;>try simp only[go_sem,seval,reduceCtorEq])
 have ax:=zd a1
 simp only[go_sem,seval,reduceCtorEq,a1]
 (refine zC (ix (ds:=ds) (lim:=4096) hd (fun d hd=>by have:=ax.dim d hd;omega) (by omega)) ?_)
 by_cases b:min (aa ds) (4097)>4096
 ·have e:T= -1:=by rw[← hT];exact if_neg fun h=>by have:=h.2;omega
  simp only[go_sem,seval,reduceCtorEq,b,e]
  (refine zE ?_ ?_<;>try simp only[go_sem,seval,reduceCtorEq])
 ·have e:T=min (aa ds) (4097):=by rw[← hT,aY,if_pos ⟨ax,by omega⟩];omega
  simp only[go_sem,seval,reduceCtorEq,b,e]
  (refine zE ?_ ?_<;>try simp only[go_sem,seval,reduceCtorEq])
set_option maxRecDepth 100000
theorem GW {r:Rg} {xs:List Int} {k:Nat} (hk:k<xs.length) (h:∀ j,j<k→0≤xs.getD j 0∧xs.getD j 0≤top r) (h2:0≤xs[k]∧xs[k]≤top r):∀ j,j<k+1→0≤xs.getD j 0∧xs.getD j 0≤top r:=fun j hj=>by
 by_cases e:j=k
 ·subst e;rw[ae hk];exact h2
 ·exact h j (by omega)
theorem Gx {k p n:Int} {xs:List Int} (hr:ah ⟨k,p,n⟩=true) (h:Sz 1099511627776 xs):Does Tryz.prog 113 [bo k p n,.d (ints xs)] [] (.d (.bool (nj ⟨k,p,n⟩ xs))) []:=by
 have hl:=h.len
 generalize hT:nj ⟨k,p,n⟩ xs=T
 (refine spec_of (by kernel_rfl) Tryz.func113 xm (fnOk (nb rfl) ?_);unfold qy)
 (simp only[Nat.reduceSub,Zl,zn,Nat.reduceAdd,zF];try simp only[af]);(simp only[go_sem,seval,reduceCtorEq,List.replicate])
 (refine zC (Ay k p n hr) ?_)
 simp only[go_sem,seval,reduceCtorEq]
 refine bG (xs.length) (mkB 24 16769168) (fun q=>∀ j,j<q→0≤xs.getD j 0∧xs.getD j 0≤top ⟨k,p,n⟩) (fun q=>[(12,.d (.int q))]) (fun q=>[]) (hi:=fun j hj=>absurd hj (Nat.not_lt_zero j)) (h1:=by first | (simp only[go_sem,seval,reduceCtorEq,nz,na,n1];first | done | rfl) | rfl) (h2:=by first | (simp only[go_sem,seval,reduceCtorEq,nz,na,n1];first | done | rfl) | rfl) (hr:=fun q hq hiq=> ?_)
 unfold pg
 by_cases hlt:q<xs.length
 ·have d1:(q:Int)<xs.length:=by omega
  have g1:xs[q]? =some xs[q]:=zg hlt
  have gd:=ae hlt
  simp(disch:=omega) only[go_sem,seval,reduceCtorEq,d1,g1,Option.map_some]
  by_cases b1:xs[q]<0
  ·have e:T=false:=by rw[← hT];exact wC q hlt (by rw[gd];omega)
   simp only[go_sem,seval,reduceCtorEq,b1,e]
   (refine zE ?_ ?_<;>try simp only[go_sem,seval,reduceCtorEq])
  by_cases b2:xs[q]>top ⟨k,p,n⟩
  ·have e:T=false:=by rw[← hT];exact wC q hlt (by rw[gd];omega)
   simp only[go_sem,seval,reduceCtorEq,b1,b2,e]
   (refine zE ?_ ?_<;>try simp only[go_sem,seval,reduceCtorEq])
  simp(disch:=omega) only[go_sem,seval,reduceCtorEq,b1,b2]
  (refine NextI.drop (mkB 24 16769168) (by omega) (GW hlt hiq ⟨by omega,by omega⟩) (h1:= ?_) (h2:= ?_)<;>first | (simp only[go_sem,seval,reduceCtorEq,nz,na,n1];first | done | rfl) | rfl | skip)
 ·have d1:¬ (q:Int)<xs.length:=by omega
  obtain rfl:q=xs.length:=by omega
  have e:T=true:=by rw[← hT];exact yd hiq
  simp(disch:=omega) only[go_sem,seval,reduceCtorEq,d1,e]
  (refine zE ?_ ?_<;>try simp only[go_sem,seval,reduceCtorEq])
theorem eJ {k p n:Int} {t:Ten} (a:I64 k) (b:I64 p) (c:I64 n) (h:TSz 1099511627776 t):Does Tryz.prog 73 [bo k p n,tenA t] [] (.d (.bool (aE ⟨k,p,n⟩ t.labels t.dims t.data))) []:=by
 have hx:=h.x
 have hxl:=hx.len
 have hsz:=g9 h
 have htc:=da t.labels t.dims
 generalize hT:aE ⟨k,p,n⟩ t.labels t.dims t.data=T
 unfold aE at hT
 (refine spec_of (by kernel_rfl) Tryz.func73 uI (fnOk (nb rfl) ?_);unfold nL)
 unfold tenA at hsz ⊢
 (simp only[Nat.reduceSub,Zl,zn,Nat.reduceAdd,zF];try simp only[af]);(simp only[go_sem,seval,reduceCtorEq,List.replicate])
 (refine zC (y7 k p n) ?_)
 cases hr:ah ⟨k,p,n⟩
 ·have e:T=false:=by rw[← hT,hr];rfl
  simp only[go_sem,seval,reduceCtorEq,hr,e]
  (refine zE ?_ ?_<;>try simp only[go_sem,seval,reduceCtorEq])
 have hw:=cr hr
 simp only[go_sem,seval,reduceCtorEq,hr]
 (refine zC (hsz) ?_)
 simp only[go_sem,seval,reduceCtorEq]
 by_cases h1:aY t.labels t.dims= -1
 ·have e:T=false:=by rw[← hT,hr,decide_eq_false fun h=>h.1 h1];rfl
  have c1:(aY t.labels t.dims != -1)=false:=by simp [h1]
  simp only[go_sem,seval,reduceCtorEq,c1,e]
  (refine zE ?_ ?_<;>try simp only[go_sem,seval,reduceCtorEq])
 have c1:(aY t.labels t.dims != -1)=true:=by simp [h1]
 have hb:1≤aY t.labels t.dims∧aY t.labels t.dims≤4096:=by rcases htc with e | e;exact absurd e h1;omega
 have hm1:1*1≤aY t.labels t.dims*ai ⟨k,p,n⟩:=Int.mul_le_mul hb.1 hw.1 (by omega) (by omega)
 have hm2:aY t.labels t.dims*ai ⟨k,p,n⟩≤4096*6:=Int.mul_le_mul hb.2 hw.2 (by omega) (by omega)
 have hwr:IntKind.i64.wrap (aY t.labels t.dims*ai ⟨k,p,n⟩)=aY t.labels t.dims*ai ⟨k,p,n⟩:=IntWalk.i64_in _ (by omega)
 simp only[go_sem,seval,reduceCtorEq,c1]
 (refine zD (fN k p n) ?_)
 by_cases h2:(t.data.length:Int)=aY t.labels t.dims*ai ⟨k,p,n⟩
 ·have c2:((t.data.length:Int)==aY t.labels t.dims*ai ⟨k,p,n⟩)=true:=by simp [h2]
  have e:T=nj ⟨k,p,n⟩ t.data:=by rw[← hT,hr,decide_eq_true ⟨h1,h2⟩];rfl
  simp only[go_sem,seval,reduceCtorEq,hwr,c2]
  (refine zC (Gx (xs:=t.data) hr hx) ?_)
  simp only[go_sem,seval,reduceCtorEq, ← e]
  (refine zE ?_ ?_<;>try simp only[go_sem,seval,reduceCtorEq])
 ·have c2:((t.data.length:Int)==aY t.labels t.dims*ai ⟨k,p,n⟩)=false:=by simp [h2]
  have e:T=false:=by rw[← hT,hr,decide_eq_false fun h=>h2 h.2];rfl
  simp only[go_sem,seval,reduceCtorEq,hwr,c2,e]
  (refine zE ?_ ?_<;>try simp only[go_sem,seval,reduceCtorEq])
theorem Aj {k p n:Int} {t:Ten} (a:I64 k) (b:I64 p) (c:I64 n) (h:TSz 1099511627776 t):Does Tryz.prog 119 [bo k p n,tenA t] [] (.d (.bool (aE ⟨k,p,n⟩ t.labels t.dims t.data))) []:=by
 have hx:=h.x
 have hxl:=hx.len
 have hsz:=qf h
 have htc:=da t.labels t.dims
 generalize hT:aE ⟨k,p,n⟩ t.labels t.dims t.data=T
 unfold aE at hT
 (refine spec_of (by kernel_rfl) Tryz.func119 uD (fnOk (nb rfl) ?_);unfold nG)
 unfold tenA at hsz ⊢
 (simp only[Nat.reduceSub,Zl,zn,Nat.reduceAdd,zF];try simp only[af]);(simp only[go_sem,seval,reduceCtorEq,List.replicate])
 (refine zC (hsz) ?_)
 simp only[go_sem,seval,reduceCtorEq]
 (refine zD (xD k p n) ?_)
 cases hr:ah ⟨k,p,n⟩
 ·have e:T=false:=by rw[← hT,hr];rfl
  simp only[go_sem,seval,reduceCtorEq,hr,e]
  (refine zE ?_ ?_<;>try simp only[go_sem,seval,reduceCtorEq])
 have hw:=cr hr
 simp only[go_sem,seval,reduceCtorEq,hr]
 by_cases h1:aY t.labels t.dims= -1
 ·have e:T=false:=by rw[← hT,hr,decide_eq_false fun h=>h.1 h1];rfl
  have c1:aY t.labels t.dims<0:=by omega
  simp only[go_sem,seval,reduceCtorEq,c1,e]
  (refine zE ?_ ?_<;>try simp only[go_sem,seval,reduceCtorEq])
 have hb:1≤aY t.labels t.dims∧aY t.labels t.dims≤4096:=by rcases htc with e | e;exact absurd e h1;omega
 have c1:¬ aY t.labels t.dims<0:=by omega
 have hm1:1*1≤aY t.labels t.dims*ai ⟨k,p,n⟩:=Int.mul_le_mul hb.1 hw.1 (by omega) (by omega)
 have hm2:aY t.labels t.dims*ai ⟨k,p,n⟩≤4096*6:=Int.mul_le_mul hb.2 hw.2 (by omega) (by omega)
 have hwr:IntKind.i64.wrap (aY t.labels t.dims*ai ⟨k,p,n⟩)=aY t.labels t.dims*ai ⟨k,p,n⟩:=IntWalk.i64_in _ (by omega)
 simp only[go_sem,seval,reduceCtorEq,c1]
 (refine zD (fR k p n) ?_)
 by_cases h2:(t.data.length:Int)=aY t.labels t.dims*ai ⟨k,p,n⟩
 ·have c2:((t.data.length:Int) !=aY t.labels t.dims*ai ⟨k,p,n⟩)=false:=by simp [h2]
  have e:T=nj ⟨k,p,n⟩ t.data:=by rw[← hT,hr,decide_eq_true ⟨h1,h2⟩];rfl
  simp only[go_sem,seval,reduceCtorEq,hwr,c2]
  refine bG (t.data.length) (mkB 40 1097364144272) (fun q=>∀ j,j<q→0≤t.data.getD j 0∧t.data.getD j 0≤top ⟨k,p,n⟩) (fun q=>[(30,.d (.int q))]) (fun q=>[]) (hi:=fun j hj=>absurd hj (Nat.not_lt_zero j)) (h1:=by first | (simp only[go_sem,seval,reduceCtorEq,nz,na,n1];first | done | rfl) | rfl) (h2:=by first | (simp only[go_sem,seval,reduceCtorEq,nz,na,n1];first | done | rfl) | rfl) (hr:=fun q hq hiq=> ?_)
  unfold m6
  by_cases hlt:q<t.data.length
  ·have d1:(q:Int)<t.data.length:=by omega
   have g1:t.data[q]? =some t.data[q]:=zg hlt
   have gd:=ae hlt
   simp(disch:=omega) only[go_sem,seval,reduceCtorEq,d1,g1,Option.map_some]
   (refine zC (ow k p n hr) ?_)
   simp(disch:=omega) only[go_sem,seval,reduceCtorEq]
   (refine zC (g8 t.data[q] 0 (top ⟨k,p,n⟩)) ?_)
   cases b1:decide (0≤t.data[q]∧t.data[q]≤top ⟨k,p,n⟩)
   ·have e2:T=false:=by rw[e];exact wC q hlt (by rw[gd];exact of_decide_eq_false b1)
    simp only[go_sem,seval,reduceCtorEq,b1,e2]
    (refine zE ?_ ?_<;>try simp only[go_sem,seval,reduceCtorEq])
   ·simp(disch:=omega) only[go_sem,seval,reduceCtorEq,b1]
    (refine NextI.drop (mkB 40 1097364144272) (by omega) (GW hlt hiq (zd b1)) (h1:= ?_) (h2:= ?_)<;>first | (simp only[go_sem,seval,reduceCtorEq,nz,na,n1];first | done | rfl) | rfl | skip)
  ·have d1:¬ (q:Int)<t.data.length:=by omega
   obtain rfl:q=t.data.length:=by omega
   have e2:T=true:=by rw[e];exact yd hiq
   simp(disch:=omega) only[go_sem,seval,reduceCtorEq,d1,e2]
   (refine zE ?_ ?_<;>try simp only[go_sem,seval,reduceCtorEq])
 ·have c2:((t.data.length:Int) !=aY t.labels t.dims*ai ⟨k,p,n⟩)=true:=by simp [h2]
  have e:T=false:=by rw[← hT,hr,decide_eq_false fun h=>h2 h.2];rfl
  simp only[go_sem,seval,reduceCtorEq,hwr,c2,e]
  (refine zE ?_ ?_<;>try simp only[go_sem,seval,reduceCtorEq])
theorem ug {ds is:List Int} (hd:Sz 1099511627776 ds) (hi:Sz 1099511627776 is) (hok:uk ds is) (hdm:∀ d∈ds,1≤d∧d≤8) (hp:aa ds≤4096):Does Tryz.prog 95 [.d (ints ds),.d (ints is)] [] (.d (.int (offs ds is))) []:=
 Does.of_calls (Kh _) fun w γ φ vals hv=>by
  obtain⟨_,_,rfl,h0,h1⟩:=rel2 hv
  obtain⟨A,c,rfl,o⟩:=At h0 hd
  obtain⟨A',c',rfl,o'⟩:=At h1 hi
  exact(AS o o' hok hdm hp).mono fun e w' ⟨h,h'⟩=>⟨h,h' ▸ Below.refl _ _⟩
theorem fW {xs:List Int} (h:xs.length≤1099511627776):Does Tryz.prog 72 [.d (ints xs)] [] (.own 0 0 xs.length) [some ⟨1,true,iv xs⟩]:=by
 refine spec_of (by kernel_rfl) Tryz.func72 uH (fnOk (nb rfl) ?_)
 unfold nK ints
 simp only[go_sem,seval,cA,List.replicate]
 refine⟨by omega, ?_⟩
 (refine zE ?_ ?_<;>try simp only[go_sem,seval,reduceCtorEq])
theorem gg {x wd:Nat} {l:List Int} (hx:x*wd+wd≤l.length):((l.drop (x*wd)).take wd).length=wd:=by simp;omega
theorem sX {x wd:Nat} {kk pp nn:Int} {t:Ten} (hw:ai ⟨kk,pp,nn⟩=(wd:Int)) (h1:wd≤6) (hx:x*wd+wd≤t.data.length) (hx2:x≤1099511627776) (h:t.data.length≤1099511627776):
  Does Tryz.prog 81 [bo kk pp nn,tenA t,.d (.int x)] [] (.d (ints ((t.data.drop (x*wd)).take wd))) []:=by
 refine spec_of (by kernel_rfl) Tryz.func81 oB (fnOk (nb rfl) ?_)
 unfold k9
 simp only[go_sem,seval,cA,List.replicate]
 (refine zC (fN kk pp nn) ?_)
 have e1:(x:Int)*wd=(x*wd:Nat):=by push_cast;rfl
 have e2:((x:Int)+1)*wd=(x*wd+wd:Nat):=by push_cast;rw[Int.add_mul,Int.one_mul]
 have e3:(((x*wd+wd:Nat):Int)-(x*wd:Nat)).toNat=wd:=by omega
 simp(disch:=omega) only[go_sem,seval,cA,hw,e1,e2,e3]
 refine⟨⟨by omega,by omega⟩, ?_⟩
 refine FnEnd.mk (nb rfl) rfl (zd rfl) ?_ rfl
 simp only[go_sem,seval,reduceCtorEq,gg hx]
theorem AU {x wd:Nat} {kk pp nn:Int} {t:Ten} (hw:ai ⟨kk,pp,nn⟩=(wd:Int)) (h1:wd≤6) (hx:x*wd+wd≤t.data.length) (hx2:x≤1099511627776) (h:t.data.length≤1099511627776):
  Does Tryz.prog 98 [bo kk pp nn,tenA t,.d (.int x)] [] (.own 0 0 wd) [some ⟨1,true,iv ((t.data.drop (x*wd)).take wd)⟩]:=by
 refine spec_of (by kernel_rfl) Tryz.func98 xd (fnOk (nb rfl) ?_)
 unfold qo
 simp only[go_sem,seval,cA,List.replicate]
 (refine zC (fR kk pp nn) ?_)
 have e1:(x:Int)*wd=(x*wd:Nat):=by push_cast;rfl
 have e2:((x*wd:Nat):Int)+wd=(x*wd+wd:Nat):=by push_cast;rfl
 have e3:(((x*wd+wd:Nat):Int)-(x*wd:Nat)).toNat=wd:=by omega
 simp(disch:=omega) only[go_sem,seval,cA,hw,e1,e2,e3,gg hx]
 refine⟨by omega,by omega, ?_⟩
 (refine zE ?_ ?_<;>try simp only[go_sem,seval,reduceCtorEq])
 rw[List.take_take,Nat.min_self]
theorem dy {r:Rg} {ls ds xs:List Int} (h:aE r ls ds xs=true):ah r=true∧axOk ls ds∧aa ds≤4096∧1≤aa ds∧aY ls ds=aa ds∧(xs.length:Int)=aa ds*ai r:=by
 simp only[aE,Bool.and_eq_true,decide_eq_true_eq]at h
 obtain⟨⟨h1,h2,h3⟩,h4⟩:=h
 rcases da ls ds with h5 | ⟨h5,h6,h7,h8⟩
 ·exact absurd h5 h2
 ·exact⟨h1,h5,h6,h8,h7,by rw[h3,h7]⟩
set_option maxRecDepth 100000
theorem oY {t:Ten} {x:Int} (h:t.labels.length≤1099511627776):Does Tryz.prog 114 [tenA t,.d (.int x)] [] (.d (.int (bB t.labels x))) []:=by
 (refine spec_of (by kernel_rfl) Tryz.func114 xp (fnOk (nb rfl) ?_);unfold qE)
 (simp only[Nat.reduceSub,Zl,zn,Nat.reduceAdd,zF];try simp only[af]);(simp only[go_sem,seval,reduceCtorEq,List.replicate])
 refine lw (t.labels.length) (fun k=>x∉t.labels.take k) (fun k=>(ch (.any) (.d (.int x)) (.any) (.any) (.any) (.any) (.any) (.any) (.d (ints t.labels)) (.d (.int t.labels.length)) (.d (.int k)) (.any) (.any) (.any) (.any) (.any) [.any,.any,.any,.any])) (fun k=>[]) (by simp) (Wk.kept' [1,8,9,10] 0 (nb rfl) (by first | rfl | simp only[go_sem,seval,reduceCtorEq,bU,aT,aS,br,c9,cut,List.contains_cons,List.contains_nil,Nat.reduceBEq,Int.natCast_zero,Int.natCast_add,Int.natCast_one]) (by first | rfl | simp only[go_sem,seval,reduceCtorEq,bU,aT,aS,br,c9,cut,List.contains_cons,List.contains_nil,Nat.reduceBEq,Int.natCast_zero,Int.natCast_add,Int.natCast_one])) fun k hk hi=> ?_
 unfold po
 by_cases hlt:k<t.labels.length
 ·have h1:(k:Int)<t.labels.length:=by omega
  have hx:t.labels[k]? =some t.labels[k]:=zg hlt
  by_cases he:t.labels[k]=x
  ·have he':(t.labels[k]==x)=true:=by simp [he]
   have e:bB t.labels x=k:=by rw[← he];exact ff hlt (by rw[he];exact hi)
   simp(disch:=omega) only[go_sem,seval,reduceCtorEq,h1,hx,he',e]
   (refine zE ?_ ?_<;>try simp only[go_sem,seval,reduceCtorEq])
  ·have he':(t.labels[k]==x)=false:=by simp [he]
   simp(disch:=omega) only[go_sem,seval,reduceCtorEq,h1,hx,he']
   (refine NextI.mk hlt (mF hlt hi (fun e=>he e.symm)) (Wk.kept' [1,8,9,10] 0 (nb rfl) ?_ ?_)<;>first | rfl | (simp only[go_sem,seval,reduceCtorEq,bU,aT,aS,br,c9,cut,List.contains_cons,List.contains_nil,Nat.reduceBEq,Int.natCast_zero,Int.natCast_add,Int.natCast_one];done) | skip)
 ·have h1:¬ (k:Int)<t.labels.length:=by omega
  have e:bB t.labels x= -1:=gE (by rw[zt (by omega)]at hi;exact hi)
  simp(disch:=omega) only[go_sem,seval,reduceCtorEq,h1,e]
  (refine zE ?_ ?_<;>try simp only[go_sem,seval,reduceCtorEq])
theorem nX {ds:List Int} (h:ds.length≤1099511627776) (hd:∀ d∈ds,1≤d) (hp:aa ds≤1152921504606846976):Does Tryz.prog 37 [.d (ints ds)] [] (.d (.int (aa ds))) []:=by
 (refine spec_of (by kernel_rfl) Tryz.func37 tt (fnOk (nb rfl) ?_);unfold mi)
 (simp only[Nat.reduceSub,Zl,zn,Nat.reduceAdd,zF];try simp only[af]);(simp only[go_sem,seval,reduceCtorEq,List.replicate])
 refine lC (ds.length) (fun k=>(ch (.any) (.any) (.any) (.d (.int (aa (ds.take k)))) (.any) (.any) (.d (ints ds)) (.d (.int ds.length)) (.d (.int k)) (.any) (.any) (.any) (.any) (.any) (.any) (.any) [.any])) (fun k=>[]) (Wk.kept' [3,6,7,8] 0 (nb rfl) (by first | rfl | simp only[go_sem,seval,reduceCtorEq,bU,aT,aS,br,c9,cut,List.contains_cons,List.contains_nil,Nat.reduceBEq,Int.natCast_zero,Int.natCast_add,Int.natCast_one]) (by first | rfl | simp only[go_sem,seval,reduceCtorEq,bU,aT,aS,br,c9,cut,List.contains_cons,List.contains_nil,Nat.reduceBEq,Int.natCast_zero,Int.natCast_add,Int.natCast_one])) fun k hk=> ?_
 unfold kT
 by_cases hlt:k<ds.length
 ·have h1:(k:Int)<ds.length:=by omega
  have hx:ds[k]? =some ds[k]:=zg hlt
  have e:=cB ds k hlt
  rw[ae hlt]at e
  have b1:=bf (ds.take (k+1)) (fun d hd'=>hd d (List.mem_of_mem_take hd'))
  have b2:=lm ds (k+1) hd
  simp(disch:=omega) only[go_sem,seval,reduceCtorEq,h1,hx, ← e]
  (refine Next.mk hlt (Wk.kept' [3,6,7,8] 0 (nb rfl) ?_ ?_)<;>first | rfl | (simp only[go_sem,seval,reduceCtorEq,bU,aT,aS,br,c9,cut,List.contains_cons,List.contains_nil,Nat.reduceBEq,Int.natCast_zero,Int.natCast_add,Int.natCast_one];done) | skip)
 ·have h1:¬ (k:Int)<ds.length:=by omega
  simp(disch:=omega) only[go_sem,seval,reduceCtorEq,h1]
  (refine zE ?_ ?_<;>try simp only[go_sem,seval,reduceCtorEq])
  rw[zt (by omega)]
end Go.Proofs.YtjfmckhbmdjnpaaGreat
