/-
 Contracts: primes, rings, sizes of tensors, tensors that are right. No condition.
-/
import Derived.Test.YtneocijmbnhblaaGreatLift28
import Derived.Test.YtneocijmbnhblaaGreatMgEnvironmentsA
import Derived.Test.YtneocijmbnhblaaGreatLiftG
set_option linter.unusedSimpArgs false
set_option linter.unusedVariables false
namespace Go.Proofs.YtneocijmbnhblaaGreat
open Go.RowKit Go.Lift Plain
set_option maxRecDepth 100000
theorem fx (x lo hi:Int):Does Tryz.prog 120 [.d (.int x),.d (.int lo),.d (.int hi)] [] (.d (.bool (decide (lo≤x∧x≤hi)))) []:=by
 generalize hB:decide (lo≤x∧x≤hi)=B
 (refine spec_of (by kernel_rfl) Tryz.func120 tj (fnOk (nb rfl) ?_);unfold C_spec_l01In)
 (simp only[Nat.reduceSub,List.length_cons,List.length_nil,Nat.reduceAdd,am,al,aj,ai,ah,af,ae,ac];try simp only[au]);(simp only[go_sem,seval,reduceCtorEq,List.replicate])
 by_cases h1:x≥lo
 ·by_cases h2:x≤hi
  ·have e:B=true:=hB ▸ decide_eq_true ⟨h1,h2⟩
   simp only[go_sem,seval,reduceCtorEq,h1,h2,e]
   (refine FnEnd.mk (nb rfl) rfl (of_decide_eq_true rfl) ?_ ?_<;>try simp only[go_sem,seval,reduceCtorEq])
  ·have e:B=false:=hB ▸ decide_eq_false fun h=>h2 h.2
   simp only[go_sem,seval,reduceCtorEq,h1,h2,e]
   (refine FnEnd.mk (nb rfl) rfl (of_decide_eq_true rfl) ?_ ?_<;>try simp only[go_sem,seval,reduceCtorEq])
 ·have e:B=false:=hB ▸ decide_eq_false fun h=>h1 h.1
  simp only[go_sem,seval,reduceCtorEq,h1,e]
  (refine FnEnd.mk (nb rfl) rfl (of_decide_eq_true rfl) ?_ ?_<;>try simp only[go_sem,seval,reduceCtorEq])
def uS (n:Int) (k:Nat):Prop:=∀ d:Nat,2≤d→d<k→n % d≠0
theorem rZ (n:Int):uS n 2:=fun d h1 h2=>by omega
theorem q6 {n:Int} {k:Nat} (h:uS n k) (h2:n % k≠0):uS n (k+1):=fun d h1 h3=>by
 by_cases e:d=k
 ·subst e;exact h2
 ·exact h d h1 (by omega)
theorem ll (n:Int):Does Tryz.prog 107 [.d (.int n)] [] (.d (.bool (c9 n))) []:=by
 (refine spec_of (by kernel_rfl) Tryz.func107 qy (fnOk (nb rfl) ?_);unfold C_impl_IsPrime)
 (simp only[Nat.reduceSub,List.length_cons,List.length_nil,Nat.reduceAdd,am,al,aj,ai,ah,af,ae,ac];try simp only[au]);(simp only[go_sem,seval,reduceCtorEq,List.replicate])
 by_cases h1:n<2
 ·have e:=qB h1
  simp only[go_sem,seval,reduceCtorEq,h1,e]
  (refine FnEnd.mk (nb rfl) rfl (of_decide_eq_true rfl) ?_ ?_<;>try simp only[go_sem,seval,reduceCtorEq])
 by_cases h2:n>1000003
 ·have e:=lk h2
  simp only[go_sem,seval,reduceCtorEq,h1,h2,e]
  (refine FnEnd.mk (nb rfl) rfl (of_decide_eq_true rfl) ?_ ?_<;>try simp only[go_sem,seval,reduceCtorEq])
 simp only[go_sem,seval,reduceCtorEq,h1,h2]
 refine p7 (2) (fun i=>1100-i) (mkB 21 2096132) (fun i=>2≤i∧i≤1001∧uS n i) (fun i=>[(3,.d (.int (i:Nat)))]) (fun i=>[]) (hi:=⟨by omega,by omega,rZ n⟩) (h1:=by first | (simp only[go_sem,seval,reduceCtorEq,nz,na,n1];first | done | rfl) | rfl) (h2:=by first | (simp only[go_sem,seval,reduceCtorEq,nz,na,n1];first | done | rfl) | rfl) (hr:=fun i hi=> ?_)
 unfold L0_impl_IsPrime
 obtain⟨i1,i2,i3⟩:=hi
 have hs:=Db i2
 have hw:IntKind.i64.wrap ((i:Int)*i)=(i:Int)*i:=IntWalk.i64_in _ (by omega)
 by_cases h3:(i:Int)*i≤n
 ·have e0:n.tmod i=n % i:=Int.tmod_eq_emod_of_nonneg (by omega)
  have n0:(i:Int)≠0:=by omega
  have hi0:=zd h3 (by omega)
  by_cases h4:n % i=0
  ·have e:=oB i1 h3 (by omega) h4
   have c:(n % (i:Int)==0)=true:=by simp [h4]
   simp(disch:=omega) only[go_sem,seval,reduceCtorEq,hw,h3,e0,c,e,n0,ne_eq,not_false_eq_true]
   (refine FnEnd.mk (nb rfl) rfl (of_decide_eq_true rfl) ?_ ?_<;>try simp only[go_sem,seval,reduceCtorEq])
  ·have c:(n % (i:Int)==0)=false:=by simp [h4]
   simp(disch:=omega) only[go_sem,seval,reduceCtorEq,hw,h3,e0,c,n0,ne_eq,not_false_eq_true]
   (refine NextS.drop (mkB 21 2096132) (i+1) (by omega) (⟨by omega,by omega,q6 i3 h4⟩) (h1:= ?_) (h2:= ?_)<;>first | (simp only[go_sem,seval,reduceCtorEq,nz,na,n1];first | done | rfl) | rfl | skip)
 ·have e:=oA (by omega) (by omega) i3 (Int.not_le.1 h3)
  simp(disch:=omega) only[go_sem,seval,reduceCtorEq,hw,h3,e]
  (refine FnEnd.mk (nb rfl) rfl (of_decide_eq_true rfl) ?_ ?_<;>try simp only[go_sem,seval,reduceCtorEq])
theorem l7 (n:Int):Does Tryz.prog 119 [.d (.int n)] [] (.d (.bool (c9 n))) []:=by
 (refine spec_of (by kernel_rfl) Tryz.func119 qt (fnOk (nb rfl) ?_);unfold C_spec_IsPrime)
 (simp only[Nat.reduceSub,List.length_cons,List.length_nil,Nat.reduceAdd,am,al,aj,ai,ah,af,ae,ac];try simp only[au]);(simp only[go_sem,seval,reduceCtorEq,List.replicate])
 refine p7 (2) (fun i=>1100-i) (mkB 21 524276) (fun i=>2≤i∧i≤1001∧uS n i) (fun i=>[(3,.d (.int (i:Nat)))]) (fun i=>[]) (hi:=⟨by omega,by omega,rZ n⟩) (h1:=by first | (simp only[go_sem,seval,reduceCtorEq,nz,na,n1];first | done | rfl) | rfl) (h2:=by first | (simp only[go_sem,seval,reduceCtorEq,nz,na,n1];first | done | rfl) | rfl) (hr:=fun i hi=> ?_)
 unfold L0_spec_IsPrime
 obtain⟨i1,i2,i3⟩:=hi
 have hs:=Db i2
 have hw:IntKind.i64.wrap ((i:Int)*i)=(i:Int)*i:=IntWalk.i64_in _ (by omega)
 by_cases h3:(i:Int)*i≤n
 ·by_cases h2:n≤1000003
  ·have e0:n.tmod i=n % i:=Int.tmod_eq_emod_of_nonneg (by omega)
   have n0:(i:Int)≠0:=by omega
   have hi0:=zd h3 (by omega)
   by_cases h4:n % i=0
   ·have e:=oB i1 h3 (by omega) h4
    have c:(n % (i:Int)==0)=true:=by simp [h4]
    simp(disch:=omega) only[go_sem,seval,reduceCtorEq,hw,h3,h2,e0,c,e,n0,ne_eq,not_false_eq_true]
    (refine FnEnd.mk (nb rfl) rfl (of_decide_eq_true rfl) ?_ ?_<;>try simp only[go_sem,seval,reduceCtorEq])
   ·have c:(n % (i:Int)==0)=false:=by simp [h4]
    simp(disch:=omega) only[go_sem,seval,reduceCtorEq,hw,h3,h2,e0,c,n0,ne_eq,not_false_eq_true]
    (refine NextS.drop (mkB 21 524276) (i+1) (by omega) (⟨by omega,by omega,q6 i3 h4⟩) (h1:= ?_) (h2:= ?_)<;>first | (simp only[go_sem,seval,reduceCtorEq,nz,na,n1];first | done | rfl) | rfl | skip)
  ·have e:=lk (Int.not_le.1 h2)
   have e2:decide (2≤n∧n≤1000003)=false:=decide_eq_false fun h=>h2 h.2
   simp(disch:=omega) only[go_sem,seval,reduceCtorEq,hw,h3,h2]
   (refine aa (fx n 2 1000003) ?_ ?_ ?_;(focus (simp only[go_sem,seval,reduceCtorEq];done));(first | rfl | (focus (simp only[go_sem];done))))
   simp only[go_sem,seval,reduceCtorEq,e,e2]
   (refine FnEnd.mk (nb rfl) rfl (of_decide_eq_true rfl) ?_ ?_<;>try simp only[go_sem,seval,reduceCtorEq])
 ·simp(disch:=omega) only[go_sem,seval,reduceCtorEq,hw,h3]
  (refine aa (fx n 2 1000003) ?_ ?_ ?_;(focus (simp only[go_sem,seval,reduceCtorEq];done));(first | rfl | (focus (simp only[go_sem];done))))
  by_cases h2:2≤n∧n≤1000003
  ·have e:=oA h2.1 h2.2 i3 (Int.not_le.1 h3)
   have e2:decide (2≤n∧n≤1000003)=true:=decide_eq_true h2
   simp only[go_sem,seval,reduceCtorEq,e,e2]
   (refine FnEnd.mk (nb rfl) rfl (of_decide_eq_true rfl) ?_ ?_<;>try simp only[go_sem,seval,reduceCtorEq])
  ·have e2:decide (2≤n∧n≤1000003)=false:=decide_eq_false h2
   have e:c9 n=false:=by
    by_cases h5:n<2
    ·exact qB h5
    ·exact lk (by omega)
   simp only[go_sem,seval,reduceCtorEq,e,e2]
   (refine FnEnd.mk (nb rfl) rfl (of_decide_eq_true rfl) ?_ ?_<;>try simp only[go_sem,seval,reduceCtorEq])
theorem eZ (k p n:Int):Does Tryz.prog 73 [bn k p n] [] (.d (.int (ar ⟨k,p,n⟩))) []:=by
 (refine spec_of (by kernel_rfl) Tryz.func73 oX (fnOk (nb rfl) ?_);unfold C_impl_rawWidth)
 (simp only[Nat.reduceSub,List.length_cons,List.length_nil,Nat.reduceAdd,am,al,aj,ai,ah,af,ae,ac];try simp only[au]);(simp only[go_sem,seval,reduceCtorEq,List.replicate])
 by_cases h7:k=7
 ·have c:(k==7)=true:=by simp [h7]
  have e:ar ⟨k,p,n⟩=n:=if_pos h7
  simp only[go_sem,seval,reduceCtorEq,c,e]
  (refine FnEnd.mk (nb rfl) rfl (of_decide_eq_true rfl) ?_ ?_<;>try simp only[go_sem,seval,reduceCtorEq])
 have c7:(k==7)=false:=by simp [h7]
 by_cases h8:k=8
 ·have c:(k==8)=true:=by simp [h8]
  have e:ar ⟨k,p,n⟩=4:=by unfold ar;rw[if_neg h7,if_pos h8]
  simp only[go_sem,seval,reduceCtorEq,c7,c,e]
  (refine FnEnd.mk (nb rfl) rfl (of_decide_eq_true rfl) ?_ ?_<;>try simp only[go_sem,seval,reduceCtorEq])
 ·have c:(k==8)=false:=by simp [h8]
  have e:ar ⟨k,p,n⟩=1:=by unfold ar;rw[if_neg h7,if_neg h8]
  simp only[go_sem,seval,reduceCtorEq,c7,c,e]
  (refine FnEnd.mk (nb rfl) rfl (of_decide_eq_true rfl) ?_ ?_<;>try simp only[go_sem,seval,reduceCtorEq])
theorem fj (k p n:Int):Does Tryz.prog 110 [bn k p n] [] (.d (.int (ar ⟨k,p,n⟩))) []:=by
 (refine spec_of (by kernel_rfl) Tryz.func110 oS (fnOk (nb rfl) ?_);unfold C_spec_l02Width)
 (simp only[Nat.reduceSub,List.length_cons,List.length_nil,Nat.reduceAdd,am,al,aj,ai,ah,af,ae,ac];try simp only[au]);(simp only[go_sem,seval,reduceCtorEq,List.replicate])
 by_cases h7:k=7
 ·have c:(k==7)=true:=by simp [h7]
  have e:ar ⟨k,p,n⟩=n:=if_pos h7
  simp only[go_sem,seval,reduceCtorEq,c,e]
  (refine FnEnd.mk (nb rfl) rfl (of_decide_eq_true rfl) ?_ ?_<;>try simp only[go_sem,seval,reduceCtorEq])
 have c7:(k==7)=false:=by simp [h7]
 by_cases h8:k=8
 ·have c:(k==8)=true:=by simp [h8]
  have e:ar ⟨k,p,n⟩=4:=by unfold ar;rw[if_neg h7,if_pos h8]
  simp only[go_sem,seval,reduceCtorEq,c7,c,e]
  (refine FnEnd.mk (nb rfl) rfl (of_decide_eq_true rfl) ?_ ?_<;>try simp only[go_sem,seval,reduceCtorEq])
 ·have c:(k==8)=false:=by simp [h8]
  have e:ar ⟨k,p,n⟩=1:=by unfold ar;rw[if_neg h7,if_neg h8]
  simp only[go_sem,seval,reduceCtorEq,c7,c,e]
  (refine FnEnd.mk (nb rfl) rfl (of_decide_eq_true rfl) ?_ ?_<;>try simp only[go_sem,seval,reduceCtorEq])
theorem uF (k p n:Int) (h:aq ⟨k,p,n⟩=true):Does Tryz.prog 74 [bn k p n] [] (.d (.int (top ⟨k,p,n⟩))) []:=by
 have hb:=dP h
 generalize hT:top ⟨k,p,n⟩=T at hb
 have hc:=aR h
 unfold top at hT
 simp only at hc hT
 (refine spec_of (by kernel_rfl) Tryz.func74 ro (fnOk (nb rfl) ?_);unfold C_impl_rawTop)
 (simp only[Nat.reduceSub,List.length_cons,List.length_nil,Nat.reduceAdd,am,al,aj,ai,ah,af,ae,ac];try simp only[au]);(simp only[go_sem,seval,reduceCtorEq,List.replicate])
 rcases hc with hc | hc | hc | hc | hc | hc | hc | hc
 all_goals obtain⟨rfl,hc⟩:=hc
 all_goals simp only[Int.reduceEq,if_true,if_false,or_true,true_or,or_false,or_self,false_or]at hT
 ·simp only[go_sem,seval,reduceCtorEq, ← hT]
  (refine FnEnd.mk (nb rfl) rfl (of_decide_eq_true rfl) ?_ ?_<;>try simp only[go_sem,seval,reduceCtorEq])
 ·have e:=bV hc.1
  simp(disch:=omega) only[go_sem,seval,reduceCtorEq,hT]
  (refine FnEnd.mk (nb rfl) rfl (of_decide_eq_true rfl) ?_ ?_<;>try simp only[go_sem,seval,reduceCtorEq])
 ·simp only[go_sem,seval,reduceCtorEq,hT]
  (refine FnEnd.mk (nb rfl) rfl (of_decide_eq_true rfl) ?_ ?_<;>try simp only[go_sem,seval,reduceCtorEq])
 ·simp only[go_sem,seval,reduceCtorEq,hT]
  (refine FnEnd.mk (nb rfl) rfl (of_decide_eq_true rfl) ?_ ?_<;>try simp only[go_sem,seval,reduceCtorEq])
 ·simp only[go_sem,seval,reduceCtorEq,hT]
  (refine FnEnd.mk (nb rfl) rfl (of_decide_eq_true rfl) ?_ ?_<;>try simp only[go_sem,seval,reduceCtorEq])
 ·have hm:min n.toNat 64=n.toNat:=by omega
  have hp:=vV hc.2.1 hc.2.2
  have hw:IntKind.i64.wrap (1*2 ^ n.toNat)=2 ^ n.toNat:=by rw[Int.one_mul];exact IntWalk.i64_in _ (by omega)
  simp(disch:=omega) only[go_sem,seval,reduceCtorEq,hm,hw,hT]
  refine And.intro (by omega) ?_
  (refine FnEnd.mk (nb rfl) rfl (of_decide_eq_true rfl) ?_ ?_<;>try simp only[go_sem,seval,reduceCtorEq])
 ·have e:=bV hc.1
  simp(disch:=omega) only[go_sem,seval,reduceCtorEq,hT]
  (refine FnEnd.mk (nb rfl) rfl (of_decide_eq_true rfl) ?_ ?_<;>try simp only[go_sem,seval,reduceCtorEq])
 ·have e:=bV hc.1
  simp(disch:=omega) only[go_sem,seval,reduceCtorEq,hT]
  (refine FnEnd.mk (nb rfl) rfl (of_decide_eq_true rfl) ?_ ?_<;>try simp only[go_sem,seval,reduceCtorEq])
theorem jQ (k p n:Int) (h:aq ⟨k,p,n⟩=true):Does Tryz.prog 112 [bn k p n] [] (.d (.int (top ⟨k,p,n⟩))) []:=by
 have hb:=dP h
 generalize hT:top ⟨k,p,n⟩=T at hb
 have hc:=aR h
 unfold top at hT
 simp only at hc hT
 (refine spec_of (by kernel_rfl) Tryz.func112 rh (fnOk (nb rfl) ?_);unfold C_spec_l02Top)
 (simp only[Nat.reduceSub,List.length_cons,List.length_nil,Nat.reduceAdd,am,al,aj,ai,ah,af,ae,ac];try simp only[au]);(simp only[go_sem,seval,reduceCtorEq,List.replicate])
 rcases hc with hc | hc | hc | hc | hc | hc | hc | hc
 all_goals obtain⟨rfl,hc⟩:=hc
 all_goals simp only[Int.reduceEq,if_true,if_false,or_true,true_or,or_false,or_self,false_or]at hT
 ·simp only[go_sem,seval,reduceCtorEq, ← hT]
  (refine FnEnd.mk (nb rfl) rfl (of_decide_eq_true rfl) ?_ ?_<;>try simp only[go_sem,seval,reduceCtorEq])
 ·have e:=bV hc.1
  simp(disch:=omega) only[go_sem,seval,reduceCtorEq,hT]
  (refine FnEnd.mk (nb rfl) rfl (of_decide_eq_true rfl) ?_ ?_<;>try simp only[go_sem,seval,reduceCtorEq])
 ·simp only[go_sem,seval,reduceCtorEq,hT]
  (refine FnEnd.mk (nb rfl) rfl (of_decide_eq_true rfl) ?_ ?_<;>try simp only[go_sem,seval,reduceCtorEq])
 ·simp only[go_sem,seval,reduceCtorEq,hT]
  (refine FnEnd.mk (nb rfl) rfl (of_decide_eq_true rfl) ?_ ?_<;>try simp only[go_sem,seval,reduceCtorEq])
 ·simp only[go_sem,seval,reduceCtorEq,hT]
  (refine FnEnd.mk (nb rfl) rfl (of_decide_eq_true rfl) ?_ ?_<;>try simp only[go_sem,seval,reduceCtorEq])
 ·have hm:min n.toNat 64=n.toNat:=by omega
  have hp:=vV hc.2.1 hc.2.2
  have hw:IntKind.i64.wrap (1*2 ^ n.toNat)=2 ^ n.toNat:=by rw[Int.one_mul];exact IntWalk.i64_in _ (by omega)
  simp(disch:=omega) only[go_sem,seval,reduceCtorEq,hm,hw,hT]
  refine And.intro (by omega) ?_
  (refine FnEnd.mk (nb rfl) rfl (of_decide_eq_true rfl) ?_ ?_<;>try simp only[go_sem,seval,reduceCtorEq])
 ·have e:=bV hc.1
  simp(disch:=omega) only[go_sem,seval,reduceCtorEq,hT]
  (refine FnEnd.mk (nb rfl) rfl (of_decide_eq_true rfl) ?_ ?_<;>try simp only[go_sem,seval,reduceCtorEq])
 ·have e:=bV hc.1
  simp(disch:=omega) only[go_sem,seval,reduceCtorEq,hT]
  (refine FnEnd.mk (nb rfl) rfl (of_decide_eq_true rfl) ?_ ?_<;>try simp only[go_sem,seval,reduceCtorEq])
set_option maxHeartbeats 6400000 in
theorem se (k p n:Int):Does Tryz.prog 67 [bn k p n] [] (.d (.bool (aq ⟨k,p,n⟩))) []:=by
 generalize hT:aq ⟨k,p,n⟩=T
 unfold aq at hT
 simp only at hT
 (refine spec_of (by kernel_rfl) Tryz.func67 ry (fnOk (nb rfl) ?_);unfold C_impl_RingOk)
 (simp only[Nat.reduceSub,List.length_cons,List.length_nil,Nat.reduceAdd,am,al,aj,ai,ah,af,ae,ac];try simp only[au]);(simp only[go_sem,seval,reduceCtorEq,List.replicate])
 cases c1:(k==1)
 case true=>cases ca:(p==0)<;>cases cb:(n==0)<;>(simp only[go_sem,seval,reduceCtorEq,c1,ca,cb];((refine FnEnd.mk (nb rfl) rfl (of_decide_eq_true rfl) ?_ ?_<;>try simp only[go_sem,seval,reduceCtorEq]);(try rw[← hT]);(try simp_all);(try omega)))
 cases c2:(k==2)
 case true=>
  simp only[go_sem,seval,reduceCtorEq,c1,c2]
  (refine aa (ll p) ?_ ?_ ?_;(focus (simp only[go_sem,seval,reduceCtorEq];done));(first | rfl | (focus (simp only[go_sem];done))))
  cases ca:c9 p<;>cases cb:(n==0)<;>(simp only[go_sem,seval,reduceCtorEq,ca,cb];((refine FnEnd.mk (nb rfl) rfl (of_decide_eq_true rfl) ?_ ?_<;>try simp only[go_sem,seval,reduceCtorEq]);(try rw[← hT]);(try simp_all);(try omega)))
 cases c3:(k==3)
 case true=>(by_cases h1:p≥1<;>by_cases h2:p≤1000000<;>cases cb:(n==0)<;>(simp only[go_sem,seval,reduceCtorEq,c1,c2,c3,h1,h2,cb];((refine FnEnd.mk (nb rfl) rfl (of_decide_eq_true rfl) ?_ ?_<;>try simp only[go_sem,seval,reduceCtorEq]);(try rw[← hT]);(try simp_all);(try omega))))
 cases c4:(k==4)
 case true=>(by_cases h1:p≥1<;>by_cases h2:p≤1000000<;>cases cb:(n==0)<;>(simp only[go_sem,seval,reduceCtorEq,c1,c2,c3,c4,h1,h2,cb];((refine FnEnd.mk (nb rfl) rfl (of_decide_eq_true rfl) ?_ ?_<;>try simp only[go_sem,seval,reduceCtorEq]);(try rw[← hT]);(try simp_all);(try omega))))
 cases c5:(k==5)
 case true=>(by_cases h1:p≥1<;>by_cases h2:p≤1000000<;>cases cb:(n==0)<;>(simp only[go_sem,seval,reduceCtorEq,c1,c2,c3,c4,c5,h1,h2,cb];((refine FnEnd.mk (nb rfl) rfl (of_decide_eq_true rfl) ?_ ?_<;>try simp only[go_sem,seval,reduceCtorEq]);(try rw[← hT]);(try simp_all);(try omega))))
 cases c6:(k==6)
 case true=>cases ca:(p==0)<;>by_cases h1:n≥1<;>by_cases h2:n≤20<;>(simp only[go_sem,seval,reduceCtorEq,c1,c2,c3,c4,c5,c6,ca,h1,h2];((refine FnEnd.mk (nb rfl) rfl (of_decide_eq_true rfl) ?_ ?_<;>try simp only[go_sem,seval,reduceCtorEq]);(try rw[← hT]);(try simp_all);(try omega)))
 cases c7:(k==7)
 case true=>
  simp only[go_sem,seval,reduceCtorEq,c1,c2,c3,c4,c5,c6,c7]
  (refine aa (ll p) ?_ ?_ ?_;(focus (simp only[go_sem,seval,reduceCtorEq];done));(first | rfl | (focus (simp only[go_sem];done))))
  cases ca:c9 p<;>by_cases h1:n≥1<;>by_cases h2:n≤6<;>(simp only[go_sem,seval,reduceCtorEq,ca,h1,h2];((refine FnEnd.mk (nb rfl) rfl (of_decide_eq_true rfl) ?_ ?_<;>try simp only[go_sem,seval,reduceCtorEq]);(try rw[← hT]);(try simp_all);(try omega)))
 cases c8:(k==8)
 case true=>
  simp only[go_sem,seval,reduceCtorEq,c1,c2,c3,c4,c5,c6,c7,c8]
  (refine aa (ll p) ?_ ?_ ?_;(focus (simp only[go_sem,seval,reduceCtorEq];done));(first | rfl | (focus (simp only[go_sem];done))))
  cases ca:c9 p<;>cases cp:(p !=2)<;>cases cb:(n==0)<;>(simp only[go_sem,seval,reduceCtorEq,ca,cp,cb];((refine FnEnd.mk (nb rfl) rfl (of_decide_eq_true rfl) ?_ ?_<;>try simp only[go_sem,seval,reduceCtorEq]);(try rw[← hT]);(try simp_all);(try omega)))
 simp only[go_sem,seval,reduceCtorEq,c1,c2,c3,c4,c5,c6,c7,c8]
 ((refine FnEnd.mk (nb rfl) rfl (of_decide_eq_true rfl) ?_ ?_<;>try simp only[go_sem,seval,reduceCtorEq]);(try rw[← hT]);(try simp_all);(try omega))
set_option maxHeartbeats 6400000 in
theorem rK (k p n:Int):Does Tryz.prog 115 [bn k p n] [] (.d (.bool (aq ⟨k,p,n⟩))) []:=by
 generalize hT:aq ⟨k,p,n⟩=T
 unfold aq at hT
 simp only at hT
 (refine spec_of (by kernel_rfl) Tryz.func115 rm (fnOk (nb rfl) ?_);unfold C_spec_RingOk)
 (simp only[Nat.reduceSub,List.length_cons,List.length_nil,Nat.reduceAdd,am,al,aj,ai,ah,af,ae,ac];try simp only[au]);(simp only[go_sem,seval,reduceCtorEq,List.replicate])
 cases c1:(k==1)
 case true=>cases ca:(p==0)<;>cases cb:(n==0)<;>(simp only[go_sem,seval,reduceCtorEq,c1,ca,cb];((refine FnEnd.mk (nb rfl) rfl (of_decide_eq_true rfl) ?_ ?_<;>try simp only[go_sem,seval,reduceCtorEq]);(try rw[← hT]);(try simp_all);(try omega)))
 cases c2:(k==2)
 case true=>
  simp only[go_sem,seval,reduceCtorEq,c1,c2]
  (refine aa (l7 p) ?_ ?_ ?_;(focus (simp only[go_sem,seval,reduceCtorEq];done));(first | rfl | (focus (simp only[go_sem];done))))
  cases ca:c9 p<;>cases cb:(n==0)<;>(simp only[go_sem,seval,reduceCtorEq,ca,cb];((refine FnEnd.mk (nb rfl) rfl (of_decide_eq_true rfl) ?_ ?_<;>try simp only[go_sem,seval,reduceCtorEq]);(try rw[← hT]);(try simp_all);(try omega)))
 cases c3:(k==3)
 case true=>(simp only[go_sem,seval,reduceCtorEq,c1,c2,c3];(refine aa (fx p 1 1000000) ?_ ?_ ?_;(focus (simp only[go_sem,seval,reduceCtorEq];done));(first | rfl | (focus (simp only[go_sem];done))));(cases h1:decide (1≤p∧p≤1000000)<;>cases cb:(n==0)<;>(simp only[go_sem,seval,reduceCtorEq,h1,cb];((refine FnEnd.mk (nb rfl) rfl (of_decide_eq_true rfl) ?_ ?_<;>try simp only[go_sem,seval,reduceCtorEq]);(try rw[← hT]);(try simp_all);(try omega)))))
 cases c4:(k==4)
 case true=>(simp only[go_sem,seval,reduceCtorEq,c1,c2,c3,c4];(refine aa (fx p 1 1000000) ?_ ?_ ?_;(focus (simp only[go_sem,seval,reduceCtorEq];done));(first | rfl | (focus (simp only[go_sem];done))));(cases h1:decide (1≤p∧p≤1000000)<;>cases cb:(n==0)<;>(simp only[go_sem,seval,reduceCtorEq,h1,cb];((refine FnEnd.mk (nb rfl) rfl (of_decide_eq_true rfl) ?_ ?_<;>try simp only[go_sem,seval,reduceCtorEq]);(try rw[← hT]);(try simp_all);(try omega)))))
 cases c5:(k==5)
 case true=>(simp only[go_sem,seval,reduceCtorEq,c1,c2,c3,c4,c5];(refine aa (fx p 1 1000000) ?_ ?_ ?_;(focus (simp only[go_sem,seval,reduceCtorEq];done));(first | rfl | (focus (simp only[go_sem];done))));(cases h1:decide (1≤p∧p≤1000000)<;>cases cb:(n==0)<;>(simp only[go_sem,seval,reduceCtorEq,h1,cb];((refine FnEnd.mk (nb rfl) rfl (of_decide_eq_true rfl) ?_ ?_<;>try simp only[go_sem,seval,reduceCtorEq]);(try rw[← hT]);(try simp_all);(try omega)))))
 cases c6:(k==6)
 case true=>
  cases ca:(p==0)
  ·simp only[go_sem,seval,reduceCtorEq,c1,c2,c3,c4,c5,c6,ca]
   ((refine FnEnd.mk (nb rfl) rfl (of_decide_eq_true rfl) ?_ ?_<;>try simp only[go_sem,seval,reduceCtorEq]);(try rw[← hT]);(try simp_all);(try omega))
  ·simp only[go_sem,seval,reduceCtorEq,c1,c2,c3,c4,c5,c6,ca]
   (refine aa (fx n 1 20) ?_ ?_ ?_;(focus (simp only[go_sem,seval,reduceCtorEq];done));(first | rfl | (focus (simp only[go_sem];done))))
   cases h1:decide (1≤n∧n≤20)<;>(simp only[go_sem,seval,reduceCtorEq,h1];((refine FnEnd.mk (nb rfl) rfl (of_decide_eq_true rfl) ?_ ?_<;>try simp only[go_sem,seval,reduceCtorEq]);(try rw[← hT]);(try simp_all);(try omega)))
 cases c7:(k==7)
 case true=>
  simp only[go_sem,seval,reduceCtorEq,c1,c2,c3,c4,c5,c6,c7]
  (refine aa (l7 p) ?_ ?_ ?_;(focus (simp only[go_sem,seval,reduceCtorEq];done));(first | rfl | (focus (simp only[go_sem];done))))
  cases ca:c9 p
  ·simp only[go_sem,seval,reduceCtorEq,ca]
   ((refine FnEnd.mk (nb rfl) rfl (of_decide_eq_true rfl) ?_ ?_<;>try simp only[go_sem,seval,reduceCtorEq]);(try rw[← hT]);(try simp_all);(try omega))
  ·simp only[go_sem,seval,reduceCtorEq,ca]
   (refine aa (fx n 1 6) ?_ ?_ ?_;(focus (simp only[go_sem,seval,reduceCtorEq];done));(first | rfl | (focus (simp only[go_sem];done))))
   cases h1:decide (1≤n∧n≤6)<;>(simp only[go_sem,seval,reduceCtorEq,h1];((refine FnEnd.mk (nb rfl) rfl (of_decide_eq_true rfl) ?_ ?_<;>try simp only[go_sem,seval,reduceCtorEq]);(try rw[← hT]);(try simp_all);(try omega)))
 cases c8:(k==8)
 case true=>
  simp only[go_sem,seval,reduceCtorEq,c1,c2,c3,c4,c5,c6,c7,c8]
  (refine aa (l7 p) ?_ ?_ ?_;(focus (simp only[go_sem,seval,reduceCtorEq];done));(first | rfl | (focus (simp only[go_sem];done))))
  by_cases h1:p>2<;>cases ca:c9 p<;>cases cb:(n==0)<;>(have hb:=bV (n:=p);simp only[go_sem,seval,reduceCtorEq,ca,h1,cb];((refine FnEnd.mk (nb rfl) rfl (of_decide_eq_true rfl) ?_ ?_<;>try simp only[go_sem,seval,reduceCtorEq]);(try rw[← hT]);(try simp_all);(try omega)))
 simp only[go_sem,seval,reduceCtorEq,c1,c2,c3,c4,c5,c6,c7,c8]
 ((refine FnEnd.mk (nb rfl) rfl (of_decide_eq_true rfl) ?_ ?_<;>try simp only[go_sem,seval,reduceCtorEq]);(try rw[← hT]);(try simp_all);(try omega))
end Go.Proofs.YtneocijmbnhblaaGreat
