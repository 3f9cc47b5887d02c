/-
 Contracts: primes, rings, sizes of tensors, tensors that are right. No condition.
-/
import Derived.Test.YtjfmckhbmdjnpaaGreatLift28
import Derived.Test.YtjfmckhbmdjnpaaGreatMgDecompositionsA
import Derived.Test.YtjfmckhbmdjnpaaGreatLiftG
set_option linter.unusedSimpArgs false
set_option linter.unusedVariables false
namespace Go.Proofs.YtjfmckhbmdjnpaaGreat
open Go.RowKit Go.Lift Plain
set_option maxRecDepth 100000
theorem fq (x lo hi:Int):Does Tryz.prog 131 [.d (.int x),.d (.int lo),.d (.int hi)] [] (.d (.bool (decide (lo≤x∧x≤hi)))) []:=by
 generalize hB:decide (lo≤x∧x≤hi)=B
 (refine spec_of (by kernel_rfl) Tryz.func131 xv (fnOk (nb rfl) ?_);unfold qX)
 (simp only[Nat.reduceSub,Zl,zn,Nat.reduceAdd,zF];try simp only[af]);(simp only[go_sem,seval,reduceCtorEq,List.replicate])
 by_cases h1:x≥lo
 ·by_cases h2:x≤hi
  ·have e:B=true:=hB ▸ decide_eq_true ⟨h1,h2⟩
   simp only[go_sem,seval,reduceCtorEq,h1,h2,e]
   (refine zE ?_ ?_<;>try simp only[go_sem,seval,reduceCtorEq])
  ·have e:B=false:=hB ▸ decide_eq_false fun h=>h2 h.2
   simp only[go_sem,seval,reduceCtorEq,h1,h2,e]
   (refine zE ?_ ?_<;>try simp only[go_sem,seval,reduceCtorEq])
 ·have e:B=false:=hB ▸ decide_eq_false fun h=>h1 h.1
  simp only[go_sem,seval,reduceCtorEq,h1,e]
  (refine zE ?_ ?_<;>try simp only[go_sem,seval,reduceCtorEq])
def yJ (n:Int) (k:Nat):Prop:=∀ d:Nat,2≤d→d<k→n % d≠0
theorem wg (n:Int):yJ n 2:=fun d h1 h2=>by omega
theorem uf {n:Int} {k:Nat} (h:yJ n k) (h2:n % k≠0):yJ n (k+1):=fun d h1 h3=>by
 by_cases e:d=k
 ·subst e;exact h2
 ·exact h d h1 (by omega)
theorem pC (n:Int):Does Tryz.prog 117 [.d (.int n)] [] (.d (.bool (bO n))) []:=by
 (refine spec_of (by kernel_rfl) Tryz.func117 uF (fnOk (nb rfl) ?_);unfold o7)
 (simp only[Nat.reduceSub,Zl,zn,Nat.reduceAdd,zF];try simp only[af]);(simp only[go_sem,seval,reduceCtorEq,List.replicate])
 by_cases h1:n<2
 ·have e:=uK h1
  simp only[go_sem,seval,reduceCtorEq,h1,e]
  (refine zE ?_ ?_<;>try simp only[go_sem,seval,reduceCtorEq])
 by_cases h2:n>1000003
 ·have e:=pB h2
  simp only[go_sem,seval,reduceCtorEq,h1,h2,e]
  (refine zE ?_ ?_<;>try simp only[go_sem,seval,reduceCtorEq])
 simp only[go_sem,seval,reduceCtorEq,h1,h2]
 refine sV (2) (fun i=>1100-i) (mkB 21 2096132) (fun i=>2≤i∧i≤1001∧yJ n i) (fun i=>[(3,.d (.int (i:Nat)))]) (fun i=>[]) (hi:=⟨by omega,by omega,wg n⟩) (h1:=by first | (simp only[go_sem,seval,reduceCtorEq,nz,na,n1];first | done | rfl) | rfl) (h2:=by first | (simp only[go_sem,seval,reduceCtorEq,nz,na,n1];first | done | rfl) | rfl) (hr:=fun i hi=> ?_)
 unfold mn
 obtain⟨i1,i2,i3⟩:=hi
 have hs:=HE i2
 have hw:IntKind.i64.wrap ((i:Int)*i)=(i:Int)*i:=IntWalk.i64_in _ (by omega)
 by_cases h3:(i:Int)*i≤n
 ·have e0:n.tmod i=n % i:=Int.tmod_eq_emod_of_nonneg (by omega)
  have n0:(i:Int)≠0:=by omega
  have hi0:=DF h3 (by omega)
  by_cases h4:n % i=0
  ·have e:=sn i1 h3 (by omega) h4
   have c:(n % (i:Int)==0)=true:=by simp [h4]
   simp(disch:=omega) only[go_sem,seval,reduceCtorEq,hw,h3,e0,c,e,n0,ne_eq,not_false_eq_true]
   (refine zE ?_ ?_<;>try simp only[go_sem,seval,reduceCtorEq])
  ·have c:(n % (i:Int)==0)=false:=by simp [h4]
   simp(disch:=omega) only[go_sem,seval,reduceCtorEq,hw,h3,e0,c,n0,ne_eq,not_false_eq_true]
   (refine NextS.drop (mkB 21 2096132) (i+1) (by omega) (⟨by omega,by omega,uf i3 h4⟩) (h1:= ?_) (h2:= ?_)<;>first | (simp only[go_sem,seval,reduceCtorEq,nz,na,n1];first | done | rfl) | rfl | skip)
 ·have e:=sj (by omega) (by omega) i3 (Int.not_le.1 h3)
  simp(disch:=omega) only[go_sem,seval,reduceCtorEq,hw,h3,e]
  (refine zE ?_ ?_<;>try simp only[go_sem,seval,reduceCtorEq])
theorem pr (n:Int):Does Tryz.prog 130 [.d (.int n)] [] (.d (.bool (bO n))) []:=by
 (refine spec_of (by kernel_rfl) Tryz.func130 uy (fnOk (nb rfl) ?_);unfold nW)
 (simp only[Nat.reduceSub,Zl,zn,Nat.reduceAdd,zF];try simp only[af]);(simp only[go_sem,seval,reduceCtorEq,List.replicate])
 refine sV (2) (fun i=>1100-i) (mkB 21 524276) (fun i=>2≤i∧i≤1001∧yJ n i) (fun i=>[(3,.d (.int (i:Nat)))]) (fun i=>[]) (hi:=⟨by omega,by omega,wg n⟩) (h1:=by first | (simp only[go_sem,seval,reduceCtorEq,nz,na,n1];first | done | rfl) | rfl) (h2:=by first | (simp only[go_sem,seval,reduceCtorEq,nz,na,n1];first | done | rfl) | rfl) (hr:=fun i hi=> ?_)
 unfold mg
 obtain⟨i1,i2,i3⟩:=hi
 have hs:=HE i2
 have hw:IntKind.i64.wrap ((i:Int)*i)=(i:Int)*i:=IntWalk.i64_in _ (by omega)
 by_cases h3:(i:Int)*i≤n
 ·by_cases h2:n≤1000003
  ·have e0:n.tmod i=n % i:=Int.tmod_eq_emod_of_nonneg (by omega)
   have n0:(i:Int)≠0:=by omega
   have hi0:=DF h3 (by omega)
   by_cases h4:n % i=0
   ·have e:=sn i1 h3 (by omega) h4
    have c:(n % (i:Int)==0)=true:=by simp [h4]
    simp(disch:=omega) only[go_sem,seval,reduceCtorEq,hw,h3,h2,e0,c,e,n0,ne_eq,not_false_eq_true]
    (refine zE ?_ ?_<;>try simp only[go_sem,seval,reduceCtorEq])
   ·have c:(n % (i:Int)==0)=false:=by simp [h4]
    simp(disch:=omega) only[go_sem,seval,reduceCtorEq,hw,h3,h2,e0,c,n0,ne_eq,not_false_eq_true]
    (refine NextS.drop (mkB 21 524276) (i+1) (by omega) (⟨by omega,by omega,uf i3 h4⟩) (h1:= ?_) (h2:= ?_)<;>first | (simp only[go_sem,seval,reduceCtorEq,nz,na,n1];first | done | rfl) | rfl | skip)
  ·have e:=pB (Int.not_le.1 h2)
   have e2:decide (2≤n∧n≤1000003)=false:=decide_eq_false fun h=>h2 h.2
   simp(disch:=omega) only[go_sem,seval,reduceCtorEq,hw,h3,h2]
   (refine zC (fq n 2 1000003) ?_)
   simp only[go_sem,seval,reduceCtorEq,e,e2]
   (refine zE ?_ ?_<;>try simp only[go_sem,seval,reduceCtorEq])
 ·simp(disch:=omega) only[go_sem,seval,reduceCtorEq,hw,h3]
  (refine zC (fq n 2 1000003) ?_)
  by_cases h2:2≤n∧n≤1000003
  ·have e:=sj h2.1 h2.2 i3 (Int.not_le.1 h3)
   have e2:decide (2≤n∧n≤1000003)=true:=decide_eq_true h2
   simp only[go_sem,seval,reduceCtorEq,e,e2]
   (refine zE ?_ ?_<;>try simp only[go_sem,seval,reduceCtorEq])
  ·have e2:decide (2≤n∧n≤1000003)=false:=decide_eq_false h2
   have e:bO n=false:=by
    by_cases h5:n<2
    ·exact uK h5
    ·exact pB (by omega)
   simp only[go_sem,seval,reduceCtorEq,e,e2]
   (refine zE ?_ ?_<;>try simp only[go_sem,seval,reduceCtorEq])
theorem eX (k p n:Int):Does Tryz.prog 79 [bm k p n] [] (.d (.int (ah ⟨k,p,n⟩))) []:=by
 (refine spec_of (by kernel_rfl) Tryz.func79 sN (fnOk (nb rfl) ?_);unfold mu)
 (simp only[Nat.reduceSub,Zl,zn,Nat.reduceAdd,zF];try simp only[af]);(simp only[go_sem,seval,reduceCtorEq,List.replicate])
 by_cases h7:k=7
 ·have c:(k==7)=true:=by simp [h7]
  have e:ah ⟨k,p,n⟩=n:=if_pos h7
  simp only[go_sem,seval,reduceCtorEq,c,e]
  (refine zE ?_ ?_<;>try simp only[go_sem,seval,reduceCtorEq])
 have c7:(k==7)=false:=by simp [h7]
 by_cases h8:k=8
 ·have c:(k==8)=true:=by simp [h8]
  have e:ah ⟨k,p,n⟩=4:=by unfold ah;rw[if_neg h7,if_pos h8]
  simp only[go_sem,seval,reduceCtorEq,c7,c,e]
  (refine zE ?_ ?_<;>try simp only[go_sem,seval,reduceCtorEq])
 ·have c:(k==8)=false:=by simp [h8]
  have e:ah ⟨k,p,n⟩=1:=by unfold ah;rw[if_neg h7,if_neg h8]
  simp only[go_sem,seval,reduceCtorEq,c7,c,e]
  (refine zE ?_ ?_<;>try simp only[go_sem,seval,reduceCtorEq])
theorem f8 (k p n:Int):Does Tryz.prog 122 [bm k p n] [] (.d (.int (ah ⟨k,p,n⟩))) []:=by
 (refine spec_of (by kernel_rfl) Tryz.func122 sJ (fnOk (nb rfl) ?_);unfold mp)
 (simp only[Nat.reduceSub,Zl,zn,Nat.reduceAdd,zF];try simp only[af]);(simp only[go_sem,seval,reduceCtorEq,List.replicate])
 by_cases h7:k=7
 ·have c:(k==7)=true:=by simp [h7]
  have e:ah ⟨k,p,n⟩=n:=if_pos h7
  simp only[go_sem,seval,reduceCtorEq,c,e]
  (refine zE ?_ ?_<;>try simp only[go_sem,seval,reduceCtorEq])
 have c7:(k==7)=false:=by simp [h7]
 by_cases h8:k=8
 ·have c:(k==8)=true:=by simp [h8]
  have e:ah ⟨k,p,n⟩=4:=by unfold ah;rw[if_neg h7,if_pos h8]
  simp only[go_sem,seval,reduceCtorEq,c7,c,e]
  (refine zE ?_ ?_<;>try simp only[go_sem,seval,reduceCtorEq])
 ·have c:(k==8)=false:=by simp [h8]
  have e:ah ⟨k,p,n⟩=1:=by unfold ah;rw[if_neg h7,if_neg h8]
  simp only[go_sem,seval,reduceCtorEq,c7,c,e]
  (refine zE ?_ ?_<;>try simp only[go_sem,seval,reduceCtorEq])
theorem yv (k p n:Int) (h:ae ⟨k,p,n⟩=true):Does Tryz.prog 128 [bm k p n] [] (.d (.int (top ⟨k,p,n⟩))) []:=by
 have hb:=dE h
 generalize hT:top ⟨k,p,n⟩=T at hb
 have hc:=aL h
 unfold top at hT
 simp only at hc hT
 (refine spec_of (by kernel_rfl) Tryz.func128 vE (fnOk (nb rfl) ?_);unfold p7)
 (simp only[Nat.reduceSub,Zl,zn,Nat.reduceAdd,zF];try simp only[af]);(simp only[go_sem,seval,reduceCtorEq,List.replicate])
 rcases hc with hc | hc | hc | hc | hc | hc | hc | hc
 all_goals obtain⟨rfl,hc⟩:=hc
 all_goals simp only[Int.reduceEq,if_true,if_false,or_true,true_or,or_false,or_self,false_or]at hT
 ·simp only[go_sem,seval,reduceCtorEq, ← hT]
  (refine zE ?_ ?_<;>try simp only[go_sem,seval,reduceCtorEq])
 ·have e:=bL hc.1
  simp(disch:=omega) only[go_sem,seval,reduceCtorEq,hT]
  (refine zE ?_ ?_<;>try simp only[go_sem,seval,reduceCtorEq])
 ·simp only[go_sem,seval,reduceCtorEq,hT]
  (refine zE ?_ ?_<;>try simp only[go_sem,seval,reduceCtorEq])
 ·simp only[go_sem,seval,reduceCtorEq,hT]
  (refine zE ?_ ?_<;>try simp only[go_sem,seval,reduceCtorEq])
 ·simp only[go_sem,seval,reduceCtorEq,hT]
  (refine zE ?_ ?_<;>try simp only[go_sem,seval,reduceCtorEq])
 ·have hm:min n.toNat 64=n.toNat:=by omega
  have hp:=Aa hc.2.1 hc.2.2
  have hw:IntKind.i64.wrap (1*2 ^ n.toNat)=2 ^ n.toNat:=by rw[Int.one_mul];exact IntWalk.i64_in _ (by omega)
  simp(disch:=omega) only[go_sem,seval,reduceCtorEq,hm,hw,hT]
  refine And.intro (by omega) ?_
  (refine zE ?_ ?_<;>try simp only[go_sem,seval,reduceCtorEq])
 ·have e:=bL hc.1
  simp(disch:=omega) only[go_sem,seval,reduceCtorEq,hT]
  (refine zE ?_ ?_<;>try simp only[go_sem,seval,reduceCtorEq])
 ·have e:=bL hc.1
  simp(disch:=omega) only[go_sem,seval,reduceCtorEq,hT]
  (refine zE ?_ ?_<;>try simp only[go_sem,seval,reduceCtorEq])
theorem mR (k p n:Int) (h:ae ⟨k,p,n⟩=true):Does Tryz.prog 132 [bm k p n] [] (.d (.int (top ⟨k,p,n⟩))) []:=by
 have hb:=dE h
 generalize hT:top ⟨k,p,n⟩=T at hb
 have hc:=aL h
 unfold top at hT
 simp only at hc hT
 (refine spec_of (by kernel_rfl) Tryz.func132 vy (fnOk (nb rfl) ?_);unfold oW)
 (simp only[Nat.reduceSub,Zl,zn,Nat.reduceAdd,zF];try simp only[af]);(simp only[go_sem,seval,reduceCtorEq,List.replicate])
 rcases hc with hc | hc | hc | hc | hc | hc | hc | hc
 all_goals obtain⟨rfl,hc⟩:=hc
 all_goals simp only[Int.reduceEq,if_true,if_false,or_true,true_or,or_false,or_self,false_or]at hT
 ·simp only[go_sem,seval,reduceCtorEq, ← hT]
  (refine zE ?_ ?_<;>try simp only[go_sem,seval,reduceCtorEq])
 ·have e:=bL hc.1
  simp(disch:=omega) only[go_sem,seval,reduceCtorEq,hT]
  (refine zE ?_ ?_<;>try simp only[go_sem,seval,reduceCtorEq])
 ·simp only[go_sem,seval,reduceCtorEq,hT]
  (refine zE ?_ ?_<;>try simp only[go_sem,seval,reduceCtorEq])
 ·simp only[go_sem,seval,reduceCtorEq,hT]
  (refine zE ?_ ?_<;>try simp only[go_sem,seval,reduceCtorEq])
 ·simp only[go_sem,seval,reduceCtorEq,hT]
  (refine zE ?_ ?_<;>try simp only[go_sem,seval,reduceCtorEq])
 ·have hm:min n.toNat 64=n.toNat:=by omega
  have hp:=Aa hc.2.1 hc.2.2
  have hw:IntKind.i64.wrap (1*2 ^ n.toNat)=2 ^ n.toNat:=by rw[Int.one_mul];exact IntWalk.i64_in _ (by omega)
  simp(disch:=omega) only[go_sem,seval,reduceCtorEq,hm,hw,hT]
  refine And.intro (by omega) ?_
  (refine zE ?_ ?_<;>try simp only[go_sem,seval,reduceCtorEq])
 ·have e:=bL hc.1
  simp(disch:=omega) only[go_sem,seval,reduceCtorEq,hT]
  (refine zE ?_ ?_<;>try simp only[go_sem,seval,reduceCtorEq])
 ·have e:=bL hc.1
  simp(disch:=omega) only[go_sem,seval,reduceCtorEq,hT]
  (refine zE ?_ ?_<;>try simp only[go_sem,seval,reduceCtorEq])
set_option maxHeartbeats 6400000 in
theorem wy (k p n:Int):Does Tryz.prog 87 [bm k p n] [] (.d (.bool (ae ⟨k,p,n⟩))) []:=by
 generalize hT:ae ⟨k,p,n⟩=T
 unfold ae at hT
 simp only at hT
 (refine spec_of (by kernel_rfl) Tryz.func87 vM (fnOk (nb rfl) ?_);unfold ph)
 (simp only[Nat.reduceSub,Zl,zn,Nat.reduceAdd,zF];try simp only[af]);(simp only[go_sem,seval,reduceCtorEq,List.replicate])
 cases c1:(k==1)
 case true=>cases ca:(p==0)<;>cases cb:(n==0)<;>(simp only[go_sem,seval,reduceCtorEq,c1,ca,cb];((refine zE ?_ ?_<;>try simp only[go_sem,seval,reduceCtorEq]);(try rw[← hT]);(try simp_all);(try omega)))
 cases c2:(k==2)
 case true=>
  simp only[go_sem,seval,reduceCtorEq,c1,c2]
  (refine zC (pC p) ?_)
  cases ca:bO p<;>cases cb:(n==0)<;>(simp only[go_sem,seval,reduceCtorEq,ca,cb];((refine zE ?_ ?_<;>try simp only[go_sem,seval,reduceCtorEq]);(try rw[← hT]);(try simp_all);(try omega)))
 cases c3:(k==3)
 case true=>(by_cases h1:p≥1<;>by_cases h2:p≤1000000<;>cases cb:(n==0)<;>(simp only[go_sem,seval,reduceCtorEq,c1,c2,c3,h1,h2,cb];((refine zE ?_ ?_<;>try simp only[go_sem,seval,reduceCtorEq]);(try rw[← hT]);(try simp_all);(try omega))))
 cases c4:(k==4)
 case true=>(by_cases h1:p≥1<;>by_cases h2:p≤1000000<;>cases cb:(n==0)<;>(simp only[go_sem,seval,reduceCtorEq,c1,c2,c3,c4,h1,h2,cb];((refine zE ?_ ?_<;>try simp only[go_sem,seval,reduceCtorEq]);(try rw[← hT]);(try simp_all);(try omega))))
 cases c5:(k==5)
 case true=>(by_cases h1:p≥1<;>by_cases h2:p≤1000000<;>cases cb:(n==0)<;>(simp only[go_sem,seval,reduceCtorEq,c1,c2,c3,c4,c5,h1,h2,cb];((refine zE ?_ ?_<;>try simp only[go_sem,seval,reduceCtorEq]);(try rw[← hT]);(try simp_all);(try omega))))
 cases c6:(k==6)
 case true=>cases ca:(p==0)<;>by_cases h1:n≥1<;>by_cases h2:n≤20<;>(simp only[go_sem,seval,reduceCtorEq,c1,c2,c3,c4,c5,c6,ca,h1,h2];((refine zE ?_ ?_<;>try simp only[go_sem,seval,reduceCtorEq]);(try rw[← hT]);(try simp_all);(try omega)))
 cases c7:(k==7)
 case true=>
  simp only[go_sem,seval,reduceCtorEq,c1,c2,c3,c4,c5,c6,c7]
  (refine zC (pC p) ?_)
  cases ca:bO p<;>by_cases h1:n≥1<;>by_cases h2:n≤6<;>(simp only[go_sem,seval,reduceCtorEq,ca,h1,h2];((refine zE ?_ ?_<;>try simp only[go_sem,seval,reduceCtorEq]);(try rw[← hT]);(try simp_all);(try omega)))
 cases c8:(k==8)
 case true=>
  simp only[go_sem,seval,reduceCtorEq,c1,c2,c3,c4,c5,c6,c7,c8]
  (refine zC (pC p) ?_)
  cases ca:bO p<;>cases cp:(p !=2)<;>cases cb:(n==0)<;>(simp only[go_sem,seval,reduceCtorEq,ca,cp,cb];((refine zE ?_ ?_<;>try simp only[go_sem,seval,reduceCtorEq]);(try rw[← hT]);(try simp_all);(try omega)))
 simp only[go_sem,seval,reduceCtorEq,c1,c2,c3,c4,c5,c6,c7,c8]
 ((refine zE ?_ ?_<;>try simp only[go_sem,seval,reduceCtorEq]);(try rw[← hT]);(try simp_all);(try omega))
set_option maxHeartbeats 6400000 in
theorem vW (k p n:Int):Does Tryz.prog 118 [bm k p n] [] (.d (.bool (ae ⟨k,p,n⟩))) []:=by
 generalize hT:ae ⟨k,p,n⟩=T
 unfold ae at hT
 simp only at hT
 (refine spec_of (by kernel_rfl) Tryz.func118 vD (fnOk (nb rfl) ?_);unfold p6)
 (simp only[Nat.reduceSub,Zl,zn,Nat.reduceAdd,zF];try simp only[af]);(simp only[go_sem,seval,reduceCtorEq,List.replicate])
 cases c1:(k==1)
 case true=>cases ca:(p==0)<;>cases cb:(n==0)<;>(simp only[go_sem,seval,reduceCtorEq,c1,ca,cb];((refine zE ?_ ?_<;>try simp only[go_sem,seval,reduceCtorEq]);(try rw[← hT]);(try simp_all);(try omega)))
 cases c2:(k==2)
 case true=>
  simp only[go_sem,seval,reduceCtorEq,c1,c2]
  (refine zC (pr p) ?_)
  cases ca:bO p<;>cases cb:(n==0)<;>(simp only[go_sem,seval,reduceCtorEq,ca,cb];((refine zE ?_ ?_<;>try simp only[go_sem,seval,reduceCtorEq]);(try rw[← hT]);(try simp_all);(try omega)))
 cases c3:(k==3)
 case true=>(simp only[go_sem,seval,reduceCtorEq,c1,c2,c3];(refine zC (fq p 1 1000000) ?_);(cases h1:decide (1≤p∧p≤1000000)<;>cases cb:(n==0)<;>(simp only[go_sem,seval,reduceCtorEq,h1,cb];((refine zE ?_ ?_<;>try simp only[go_sem,seval,reduceCtorEq]);(try rw[← hT]);(try simp_all);(try omega)))))
 cases c4:(k==4)
 case true=>(simp only[go_sem,seval,reduceCtorEq,c1,c2,c3,c4];(refine zC (fq p 1 1000000) ?_);(cases h1:decide (1≤p∧p≤1000000)<;>cases cb:(n==0)<;>(simp only[go_sem,seval,reduceCtorEq,h1,cb];((refine zE ?_ ?_<;>try simp only[go_sem,seval,reduceCtorEq]);(try rw[← hT]);(try simp_all);(try omega)))))
 cases c5:(k==5)
 case true=>(simp only[go_sem,seval,reduceCtorEq,c1,c2,c3,c4,c5];(refine zC (fq p 1 1000000) ?_);(cases h1:decide (1≤p∧p≤1000000)<;>cases cb:(n==0)<;>(simp only[go_sem,seval,reduceCtorEq,h1,cb];((refine zE ?_ ?_<;>try simp only[go_sem,seval,reduceCtorEq]);(try rw[← hT]);(try simp_all);(try omega)))))
 cases c6:(k==6)
 case true=>
  cases ca:(p==0)
  ·simp only[go_sem,seval,reduceCtorEq,c1,c2,c3,c4,c5,c6,ca]
   ((refine zE ?_ ?_<;>try simp only[go_sem,seval,reduceCtorEq]);(try rw[← hT]);(try simp_all);(try omega))
  ·simp only[go_sem,seval,reduceCtorEq,c1,c2,c3,c4,c5,c6,ca]
   (refine zC (fq n 1 20) ?_)
   cases h1:decide (1≤n∧n≤20)<;>(simp only[go_sem,seval,reduceCtorEq,h1];((refine zE ?_ ?_<;>try simp only[go_sem,seval,reduceCtorEq]);(try rw[← hT]);(try simp_all);(try omega)))
 cases c7:(k==7)
 case true=>
  simp only[go_sem,seval,reduceCtorEq,c1,c2,c3,c4,c5,c6,c7]
  (refine zC (pr p) ?_)
  cases ca:bO p
  ·simp only[go_sem,seval,reduceCtorEq,ca]
   ((refine zE ?_ ?_<;>try simp only[go_sem,seval,reduceCtorEq]);(try rw[← hT]);(try simp_all);(try omega))
  ·simp only[go_sem,seval,reduceCtorEq,ca]
   (refine zC (fq n 1 6) ?_)
   cases h1:decide (1≤n∧n≤6)<;>(simp only[go_sem,seval,reduceCtorEq,h1];((refine zE ?_ ?_<;>try simp only[go_sem,seval,reduceCtorEq]);(try rw[← hT]);(try simp_all);(try omega)))
 cases c8:(k==8)
 case true=>
  simp only[go_sem,seval,reduceCtorEq,c1,c2,c3,c4,c5,c6,c7,c8]
  (refine zC (pr p) ?_)
  by_cases h1:p>2<;>cases ca:bO p<;>cases cb:(n==0)<;>(have hb:=bL (n:=p);simp only[go_sem,seval,reduceCtorEq,ca,h1,cb];((refine zE ?_ ?_<;>try simp only[go_sem,seval,reduceCtorEq]);(try rw[← hT]);(try simp_all);(try omega)))
 simp only[go_sem,seval,reduceCtorEq,c1,c2,c3,c4,c5,c6,c7,c8]
 ((refine zE ?_ ?_<;>try simp only[go_sem,seval,reduceCtorEq]);(try rw[← hT]);(try simp_all);(try omega))
end Go.Proofs.YtjfmckhbmdjnpaaGreat
