/-
 Contracts: networks copied, opened, scaled; networks that are held. No condition.
-/
import Derived.Test.YtneocijmbnhblaaGreatMgEnvironmentsA
import Derived.Test.YtneocijmbnhblaaGreatNetM
import Derived.Test.YtneocijmbnhblaaGreatNetC
import Derived.Test.YtneocijmbnhblaaGreatLiftI
set_option linter.unusedSimpArgs false
set_option linter.unusedVariables false
namespace Go.Proofs.YtneocijmbnhblaaGreat
open Go.RowKit Go.Lift Plain
set_option maxRecDepth 100000
theorem rC {N:Net} (h:NSz 1048576 N):Does Tryz.prog 30 [netA N] [] (ownN 0 N) (stoN N):=by
 have hnl:=h.l
 (refine spec_of (by kernel_rfl) Tryz.func30 gA (fnOk (nb rfl) ?_);unfold C_impl_copyNetwork)
 (simp only[Nat.reduceSub,List.length_cons,List.length_nil,Nat.reduceAdd,am,al,aj,ai,ah,af,ae,ac];try simp only[au]);(simp only[go_sem,seval,reduceCtorEq,List.replicate])
 (refine aC (cz (xs:=N.os) h.o.up.len) ?_ ?_ ?_;(focus (simp only[go_sem,seval,reduceCtorEq];done));(first | rfl | (focus (simp only[go_sem];done))))
 simp only[go_sem,seval,reduceCtorEq]
 (refine cN (Wk.nilS 3 3 3 _ _ _ rfl rfl) ?_;simp only[go_sem,seval,reduceCtorEq])
 refine aZ (N.ts.length) (mkB 28 134152224) (fun k=>[(15,.d (.int k))]) (fun k=>[(3,[.d (.int N.k),.d (.int N.p),.d (.int N.n),.own 4 0 k,.own 2 0 N.os.length]),(4,tcA (N.ts.take k))]) (h1:=by first | (simp only[go_sem,seval,reduceCtorEq,nz,na,n1,List.take_zero,lI];first | done | rfl) | rfl) (h2:=by first | (simp only[go_sem,seval,reduceCtorEq,nz,na,n1,List.take_zero,lI];first | done | rfl) | rfl) (hr:=fun k hk=> ?_)
 unfold L0_impl_copyNetwork
 by_cases hlt:k<N.ts.length
 ·have d1:(k:Int)<N.ts.length:=by omega
  have g3:=dd (List.getElem?_eq_getElem hlt)
  have hst:=h.t N.ts[k] (List.getElem_mem hlt)
  simp(disch:=omega) only[go_sem,seval,reduceCtorEq,d1,g3]
  (repeat (refine And.intro (by omega) ?_))
  (refine aC (mR (t:=N.ts[k]) hst) ?_ ?_ ?_;(focus (simp only[go_sem,seval,reduceCtorEq];done));(first | rfl | (focus (simp only[go_sem];done))))
  have htl:(N.ts.take k).length=k:=by rw[List.length_take];omega
  simp(disch:=omega) only[go_sem,seval,reduceCtorEq,htl]
  (repeat (refine And.intro (by omega) ?_))
  (refine Next.mk (by omega) (Wk.trans (Wk.drG [6,7,8] 5 (nb rfl) (nb rfl) (of_decide_eq_true rfl) (of_decide_eq_true rfl)) ?_));(simp only[go_sem,seval,reduceCtorEq,nz,na,n1,bm hlt,pe,pc]);(refine Wk.eq (Wk.ad3s (mkB 28 134152224) 4 3 (k*3) true (τ:=[_,_,_,_,_]) (nb rfl) rfl (xS hk) rfl (kr _) (kr _) (kr _) (by simp only[go_sem,seval,reduceCtorEq]) (by simp only[go_sem,seval,reduceCtorEq]) (by simp only[go_sem,seval,reduceCtorEq]) (fun _=>nc _) (fun _=>nc _)) ?_ ?_<;>first | (simp only[go_sem,seval,reduceCtorEq,nz,na,n1,bm hlt,pe,pc];first | done | rfl) | rfl | skip)
 ·have d1:¬ (k:Int)<N.ts.length:=by omega
  obtain rfl:k=N.ts.length:=by omega
  simp(disch:=omega) only[go_sem,seval,reduceCtorEq,d1,List.take_length]
  (refine FnEnd.mk (nb rfl) rfl (of_decide_eq_true rfl) ?_ ?_<;>try simp only[go_sem,seval,reduceCtorEq])
def EH:Net:=⟨0,0,0,[],[]⟩
attribute [go_sem] EH
def scal (x:List Int):Ten:=⟨[],[],x⟩
section
variable {p : Nat → Bool} {xs : List Int} {k : Nat}
end
section
variable {f : Ten → Ten} {ts : List Ten} {k : Nat}
end
end Go.Proofs.YtneocijmbnhblaaGreat
