/-
 Contracts: networks copied, opened, scaled; networks that are held. No condition.
-/
import Derived.Test.YtobhmajhachnaaaGreatDoorMgJobsA
import Derived.Test.YtobhmajhachnaaaGreatDoorNetM
import Derived.Test.YtobhmajhachnaaaGreatDoorNetC
import Derived.Test.YtobhmajhachnaaaGreatDoorLiftI
set_option linter.unusedSimpArgs false
set_option linter.unusedVariables false
namespace Go.Proofs.YtobhmajhachnaaaGreatDoor
open Go.RowKit Go.Lift Plain
set_option maxRecDepth 100000
theorem yz{N:Net}(h:NSz 1048576 N):Does Tryz.prog 118 [netA N] [] (ownN 0 N) (stoN N):=by
 have hnl:=h.l;refine zS Tryz.func118 rt ?_;unfold kj;refine zT ?_;(refine zD (cj (xs:=N.os) h.o.up.len) ?_);refine zU ?_;(refine bC (Wk.nilS 3 3 3 _ _ _ rfl rfl) ?_;simp only[go_sem,seval,reduceCtorEq])
 refine aA (N.ts.length) (mkB 28 134152224) (fun k=>[(15,.d (.int k))]) (fun k=>[(3,[.d (.int N.k),.d (.int N.p),.d (.int N.n),.own 4 0 k,.own 2 0 N.os.length]),(4,tcA (N.ts.take k))]) (h1:=by first|(simp only[go_sem,seval,reduceCtorEq,nz,na,n1,List.take_zero,mO];first|done|rfl)|rfl) (h2:=by first|(simp only[go_sem,seval,reduceCtorEq,nz,na,n1,List.take_zero,mO];first|done|rfl)|rfl) (hr:=fun k hk=> ?_);unfold ik;by_cases hlt:k<N.ts.length
 ·have d1:(k:Int)<N.ts.length:=by omega
  have g3:=fj (zg hlt);have hst:=h.t N.ts[k] (List.getElem_mem hlt);simp(disch:=omega) only[go_sem,seval,reduceCtorEq,d1,g3]
  (repeat (refine And.intro (by omega) ?_))
  (refine zD (n9 (t:=N.ts[k]) hst) ?_);have htl:(N.ts.take k).length=k:=by rw[List.length_take];omega
  simp(disch:=omega) only[go_sem,seval,reduceCtorEq,htl]
  (repeat (refine And.intro (by omega) ?_))
  (refine Next.mk (by omega) (Wk.trans (Wk.drG [6,7,8] 5 (nb rfl) (nb rfl) (zd rfl) (zd rfl)) ?_));(simp only[go_sem,seval,reduceCtorEq,nz,na,n1,ba hlt,kw,kv]);(refine Wk.eq (Wk.ad3s (mkB 28 134152224) 4 3 (k*3) true (τ:=[_,_,_,_,_]) (nb rfl) rfl (F5 hk) rfl (eI _) (eI _) (eI _) (by simp only[go_sem,seval,reduceCtorEq]) (by simp only[go_sem,seval,reduceCtorEq]) (by simp only[go_sem,seval,reduceCtorEq]) (fun _=>lF _) (fun _=>lF _)) ?_ ?_<;>first|(simp only[go_sem,seval,reduceCtorEq,nz,na,n1,ba hlt,kw,kv];first|done|rfl)|rfl|skip)
 ·have d1:¬(k:Int)<N.ts.length:=by omega
  obtain rfl:k=N.ts.length:=by omega
  simp(disch:=omega) only[go_sem,seval,reduceCtorEq,d1,List.take_length];exact zX
def La:Net:=⟨0,0,0,[],[]⟩
attribute [go_sem] La
def scal(x:List Int):Ten:=⟨[],[],x⟩
section
variable {p : Nat → Bool} {xs : List Int} {k : Nat}
end
section
variable {f : Ten → Ten} {ts : List Ten} {k : Nat}
end
set_option maxRecDepth 100000
section
variable {A B : List AV} {q : Nat} {x y z : AV}
end
end Go.Proofs.YtobhmajhachnaaaGreatDoor
