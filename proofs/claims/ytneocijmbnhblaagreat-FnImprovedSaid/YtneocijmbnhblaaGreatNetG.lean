/-
 Contracts: networks copied, opened, scaled; networks that are held. No condition.
-/
import Derived.Test.YtneocijmbnhblaaGreatMgImprovedA
import Derived.Test.YtneocijmbnhblaaGreatNetM
import Derived.Test.YtneocijmbnhblaaGreatNetC
import Derived.Test.YtneocijmbnhblaaGreatLiftI
set_option linter.unusedSimpArgs false
set_option linter.unusedVariables false
namespace Go.Proofs.YtneocijmbnhblaaGreat
open Go.RowKit Go.Lift Plain
set_option maxRecDepth 100000
theorem sk {N:Net} (h:NSz 1048576 N):Does Tryz.prog 30 [netA N] [] (ownN 0 N) (stoN N):=by
 have hnl:=h.l
 (refine spec_of (by kernel_rfl) Tryz.func30 lE (fnOk (nb rfl) ?_);unfold C_impl_copyNetwork)
 (simp only[Nat.reduceSub,Zl,zn,Nat.reduceAdd,zF];try simp only[ae]);(simp only[go_sem,seval,reduceCtorEq,List.replicate])
 (refine zD (cX (xs:=N.os) h.o.up.len) ?_)
 simp only[go_sem,seval,reduceCtorEq]
 (refine cN (Wk.nilS 3 3 3 _ _ _ rfl rfl) ?_;simp only[go_sem,seval,reduceCtorEq])
 refine aH (N.ts.length) (mkB 28 134152224) (fun k=>[(15,.d (.int k))]) (fun k=>[(3,[.d (.int N.k),.d (.int N.p),.d (.int N.n),.own 4 0 k,.own 2 0 N.os.length]),(4,tcA (N.ts.take k))]) (h1:=by first | (simp only[go_sem,seval,reduceCtorEq,nz,na,n1,List.take_zero,lW];first | done | rfl) | rfl) (h2:=by first | (simp only[go_sem,seval,reduceCtorEq,nz,na,n1,List.take_zero,lW];first | done | rfl) | rfl) (hr:=fun k hk=> ?_)
 unfold L0_impl_copyNetwork
 by_cases hlt:k<N.ts.length
 ·have d1:(k:Int)<N.ts.length:=by omega
  have g3:=fx (zg hlt)
  have hst:=h.t N.ts[k] (List.getElem_mem hlt)
  simp(disch:=omega) only[go_sem,seval,reduceCtorEq,d1,g3]
  (repeat (refine And.intro (by omega) ?_))
  (refine zD (uS (t:=N.ts[k]) hst) ?_)
  have htl:(N.ts.take k).length=k:=by rw[List.length_take];omega
  simp(disch:=omega) only[go_sem,seval,reduceCtorEq,htl]
  (repeat (refine And.intro (by omega) ?_))
  (refine Next.mk (by omega) (Wk.trans (Wk.drG [6,7,8] 5 (nb rfl) (nb rfl) (zd rfl) (zd rfl)) ?_));(simp only[go_sem,seval,reduceCtorEq,nz,na,n1,bi hlt,pv,pt]);(refine Wk.eq (Wk.ad3s (mkB 28 134152224) 4 3 (k*3) true (τ:=[_,_,_,_,_]) (nb rfl) rfl (z8 hk) rfl (kG _) (kG _) (kG _) (by simp only[go_sem,seval,reduceCtorEq]) (by simp only[go_sem,seval,reduceCtorEq]) (by simp only[go_sem,seval,reduceCtorEq]) (fun _=>n9 _) (fun _=>n9 _)) ?_ ?_<;>first | (simp only[go_sem,seval,reduceCtorEq,nz,na,n1,bi hlt,pv,pt];first | done | rfl) | rfl | skip)
 ·have d1:¬ (k:Int)<N.ts.length:=by omega
  obtain rfl:k=N.ts.length:=by omega
  simp(disch:=omega) only[go_sem,seval,reduceCtorEq,d1,List.take_length]
  (refine zE ?_ ?_<;>try simp only[go_sem,seval,reduceCtorEq])
def Gl:Net:=⟨0,0,0,[],[]⟩
attribute [go_sem] Gl
def scal (x:List Int):Ten:=⟨[],[],x⟩
section
variable {p : Nat → Bool} {xs : List Int} {k : Nat}
end
section
variable {f : Ten → Ten} {ts : List Ten} {k : Nat}
end
end Go.Proofs.YtneocijmbnhblaaGreat
