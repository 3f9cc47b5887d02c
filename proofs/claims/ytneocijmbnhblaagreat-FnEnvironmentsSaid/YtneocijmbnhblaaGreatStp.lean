/-
 Contracts: steps of orders, as flat lists of ints; plain orders. No condition.
-/
import Derived.Test.YtneocijmbnhblaaGreatMgEnvironmentsA
import Derived.Test.YtneocijmbnhblaaGreatNetC
import Derived.Test.YtneocijmbnhblaaGreatNetM
set_option linter.unusedSimpArgs false
set_option linter.unusedVariables false
namespace Go.Proofs.YtneocijmbnhblaaGreat
open Go.RowKit Go.Lift Plain
set_option maxRecDepth 100000
structure StpSz (m n:Nat) (F:List Int):Prop where
 l:F.length=n*2
 n:n≤m
 wf:∀ x∈F,I64 x
def stp (n:Nat) (F:List Int):D:=.sl n (dv F)
attribute [go_sem] stp
section
variable {F : List Int} {n k : Nat}
theorem xR (h:k*2+2≤F.length):(F.drop (k*2)).take 2=[F[k*2]'(by omega),F[k*2+1]'(by omega)]:=by
 rw[List.drop_eq_getElem_cons (i:=k*2) (by omega),List.drop_eq_getElem_cons (i:=k*2+1) (by omega)]
 rfl
theorem AB {A:List Int} (a b:Int):iv A++[.d (.int a),.d (.int b)]=iv (A++[a,b]):=by simp [iv]
theorem AZ (a b:Int):dv [a,b]=[.int a,.int b]:=rfl
end
def bw (m:Int):Nat→List Int
 | 0=>[]
 | k+1=>bw m k++(if k=0 then [0,1] else [(k:Int)+1,m+k-1])
theorem fD (m:Int):∀ k,(bw m k).length=k*2
 | 0=>rfl
 | k+1=>by
  rw[bw,List.length_append,fD m k]
  split<;>simp<;>omega
theorem sV (m:Int):bw m 0=[]:=rfl
theorem E6 (a b:Int):iv [a,b]=[.d (.int a),.d (.int b)]:=rfl
theorem uJ (m:Int):bw m 1=[0,1]:=rfl
theorem sW (m:Int) {k:Nat} (h:k≠0):bw m (k+1)=bw m k++[(k:Int)+1,m+k-1]:=by rw[bw,if_neg h]
noncomputable def dr (N:Net):Nat:=if br N=true then N.ts.length-1 else 0
theorem zN {N:Net}:StpSz 1048576 (dr N) (bw N.ts.length (dr N)):=by
 refine⟨fD _ _, ?_, ?_⟩
 ·unfold dr
  split
  ·rename_i h
   have:=(ay.1 h).2.1
   omega
  ·omega
 ·unfold dr
  split
  ·rename_i h
   have h12:=(ay.1 h).2.1
   have key:∀ k,k≤12→∀ x∈bw N.ts.length k,I64 x:=by
    intro k
    induction k with
    | zero=>intro _ x hx;cases hx
    | succ k ih=>
     intro hk x hx
     rw[bw]at hx
     rcases List.mem_append.1 hx with hx | hx
     ·exact ih (by omega) x hx
     ·split at hx
      ·simp only[List.mem_cons,List.not_mem_nil,or_false]at hx
       rcases hx with rfl | rfl<;>exact⟨by omega,by omega⟩
      ·simp only[List.mem_cons,List.not_mem_nil,or_false]at hx
       rcases hx with rfl | rfl<;>exact⟨by omega,by omega⟩
   exact key _ (by omega)
  ·intro x hx;cases hx
theorem rz {N:Net} (h:NSz 1048576 N):Does Tryz.prog 34 [netA N] [] (.own 0 0 (dr N)) [some ⟨2,true,iv (bw N.ts.length (dr N))⟩]:=by
 have hnl:=h.l
 (refine spec_of (by kernel_rfl) Tryz.func34 mA (fnOk (nb rfl) ?_);unfold C_impl_PlainOrder)
 (simp only[Nat.reduceSub,List.length_cons,List.length_nil,Nat.reduceAdd,am,al,aj,ai,ah,af,ae,ac];try simp only[au]);(simp only[go_sem,seval,reduceCtorEq,List.replicate])
 (refine aa (df h) ?_ ?_ ?_;(focus (simp only[go_sem,seval,reduceCtorEq];done));(first | rfl | (focus (simp only[go_sem];done))))
 cases h1:br N
 ·have e:dr N=0:=by simp [dr,h1]
  simp only[go_sem,seval,reduceCtorEq,h1,e,bw,bL]
  refine FnEnd.wk (Wk.nilE 2 2 _ _ rfl) ?_
  (refine FnEnd.mk (nb rfl) rfl (of_decide_eq_true rfl) ?_ ?_<;>try simp only[go_sem,seval,reduceCtorEq])
 have e:dr N=N.ts.length-1:=by simp [dr,h1]
 simp only[go_sem,seval,reduceCtorEq,h1,e]
 (refine cN (Wk.nilE 3 2 _ _ rfl) ?_;simp only[go_sem,seval,reduceCtorEq])
 refine aZ (N.ts.length-1) (mkB 35 17179865088) (fun k=>[(3,.own 1 0 k),(5,.d (.int k))]) (fun k=>[(1,iv (bw N.ts.length k))]) (h1:=by first | (simp only[go_sem,seval,reduceCtorEq,nz,na,n1,bw,bL];first | done | rfl) | rfl) (h2:=by first | (simp only[go_sem,seval,reduceCtorEq,nz,na,n1,bw,bL];first | done | rfl) | rfl) (hr:=fun k hk=> ?_)
 unfold L0_impl_PlainOrder
 have hpl:=fD N.ts.length k
 by_cases hlt:k<N.ts.length-1
 ·have d1:(k:Int)<N.ts.length-1:=by omega
  by_cases hk0:k=0
  ·subst hk0
   have d1':(0:Int)<N.ts.length-1:=by omega
   simp(disch:=omega) only[go_sem,seval,reduceCtorEq,d1',sV,bL]
   (repeat (refine And.intro (by omega) ?_))
   (refine Next.drop (mkB 35 17179865088) (by omega) (h1:= ?_) (h2:= ?_)<;>first | (simp only[go_sem,seval,reduceCtorEq,nz,na,n1,uJ,E6,bL];first | done | rfl) | rfl | skip)
  ·have c:((k:Int)==0)=false:=by simp [hk0]
   simp(disch:=omega) only[go_sem,seval,reduceCtorEq,d1,c,hpl]
   (repeat (refine And.intro (by omega) ?_))
   (refine Next.drop (mkB 35 17179865088) (by omega) (h1:= ?_) (h2:= ?_)<;>first | (simp only[go_sem,seval,reduceCtorEq,nz,na,n1,sW _ hk0,AB];first | done | rfl) | rfl | skip)
 ·have d1:¬ (k:Int)<N.ts.length-1:=by omega
  obtain rfl:k=N.ts.length-1:=by omega
  simp(disch:=omega) only[go_sem,seval,reduceCtorEq,d1]
  (refine FnEnd.mk (nb rfl) rfl (of_decide_eq_true rfl) ?_ ?_<;>try simp only[go_sem,seval,reduceCtorEq])
end Go.Proofs.YtneocijmbnhblaaGreat
