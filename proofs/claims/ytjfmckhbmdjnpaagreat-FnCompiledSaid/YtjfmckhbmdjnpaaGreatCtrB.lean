/-
 Contracts: a network contracted step by step, by the program. No condition.
-/
import Derived.Test.YtjfmckhbmdjnpaaGreatSemK
import Derived.Test.YtjfmckhbmdjnpaaGreatGenH
import Derived.Test.YtjfmckhbmdjnpaaGreatOrdB
set_option linter.unusedSimpArgs false
set_option linter.unusedVariables false
namespace Go.Proofs.YtjfmckhbmdjnpaaGreat
open Go.RowKit Go.Lift Plain
set_option maxRecDepth 100000
theorem sz6 {L:List Int} (hn:L.Nodup) (h:Sem.L6 L):Sz 1048576 L:=by
 have hl:=len6 hn h
 exact⟨by omega,fun x hx=>by have:=h x hx;unfold I64;omega⟩
theorem os6 {N:Net} (h:Gen6 N):Sem.L6 N.os:=fun x hx=>Sem.Gm h x (Sem.xL h.ok x hx)
theorem HX {r:Rg} {wd:Nat} (hr:ah r=true) (hw:ai r=wd):TSz 1048576 (Sem.eX r wd):=
 Sem.xx hr hw (Sem.uS hr hw (dim:=Sem.d6)) fun x hx=>by cases hx
theorem Jn {a b:List Int} (ha:a.length≤1048576) (hb:b.length≤1048576) (hs:∀ x∈a,x∈b):Does Tryz.prog 59 [.d (ints a),.d (ints b)] [] (.d (.bool true)) []:=by
 (refine spec_of (by kernel_rfl) Tryz.func59 s5 (fnOk (nb rfl) ?_);unfold n8)
 (simp only[Nat.reduceSub,Zl,zn,Nat.reduceAdd,zF];try simp only[af]);(simp only[go_sem,seval,reduceCtorEq,List.replicate])
 refine aP (a.length) (mkB 18 261200) (fun k=>[(9,.d (.int k))]) (fun k=>[]) (h1:=by first | (simp only[go_sem,seval,reduceCtorEq,nz,na,n1];first | done | rfl) | rfl) (h2:=by first | (simp only[go_sem,seval,reduceCtorEq,nz,na,n1];first | done | rfl) | rfl) (hr:=fun k hk=> ?_)
 unfold lr
 by_cases hlt:k<a.length
 ·have d1:(k:Int)<a.length:=by omega
  have g:a[k]? =some a[k]:=zg hlt
  have hh:has b a[k]=true:=aI.2 (hs _ (List.getElem_mem hlt))
  simp(disch:=omega) only[go_sem,seval,reduceCtorEq,d1,g]
  (refine zC (fo (xs:=b) (x:=a[k]) (by omega)) ?_)
  simp(disch:=omega) only[go_sem,seval,reduceCtorEq,hh]
  (refine Next.drop (mkB 18 261200) (by omega) (h1:= ?_) (h2:= ?_)<;>first | (simp only[go_sem,seval,reduceCtorEq,nz,na,n1];first | done | rfl) | rfl | skip)
 ·have d1:¬ (k:Int)<a.length:=by omega
  simp(disch:=omega) only[go_sem,seval,reduceCtorEq,d1]
  (refine zE ?_ ?_<;>try simp only[go_sem,seval,reduceCtorEq])
theorem FinishTensor_d {N:Net} (hN:Gen6 N) {wd:Nat} (hw:ai N.rg=wd) {t:Ten} (ht:Sem.TV N.rg wd Sem.d6 t) (t6:Sem.L6 t.labels) (ho:∀ x∈N.os,x∈t.labels):
  Does Tryz.prog 33 [netA N,tenA t] [] (.tup [tenA (Sem.finT N.rg wd t N.os),.d (.bool true)]) []:=by
 have hr:=(an.1 hN.ok).1
 have hz:=hN.sz
 have hosn:=Sem.CL hN.ok
 have o6:=os6 hN
 have hsz:=Sem.xx hr hw ht t6
 have hoz:=sz6 hosn o6
 have hss:=HX (r:=N.rg) hr hw
 have hsT:=Sem.uS hr hw (dim:=Sem.d6)
 obtain⟨c1,c2,c3⟩:=Sem.JC hr hw ht hsT t6 (fun x hx=>by cases hx) N.os
 obtain⟨tc,_⟩:=Sem.Cf hr hw ht hsT N.os
 have hcz:=Sem.xx hr hw tc c3
 have hok:=Sem.Cn hr hw ht t6
 have hcok:=Sem.Cn hr hw tc c3
 have hK:∀ x,x∈N.os↔x∈(conR N.rg wd t (Sem.eX N.rg wd) N.os).labels:=fun x=>by
  show x∈N.os↔x∈(conL t (Sem.eX N.rg wd)).filter (has N.os)
  rw[show conL t (Sem.eX N.rg wd)=t.labels from by show t.labels++([]:List Int).filter _=t.labels;simp,List.mem_filter,aI]
  exact⟨fun hx=>⟨ho x hx,hx⟩,fun hx=>hx.2⟩
 have hpB:lJ N.rg (conR N.rg wd t (Sem.eX N.rg wd) N.os) N.os=true:=by
  unfold lJ
  rw[hcok,Sem.Fr tc.nd hosn fun x=>(hK x).symm]
  rfl
 have hpT:=xK hpB hw
 have hp:=wI (tK (kk:=N.k) (pp:=N.p) (nn:=N.n) hz.k hz.p hz.n hcz hoz)
 rw[show (⟨N.k,N.p,N.n⟩:Rg)=N.rg from rfl,hpT,hpB]at hp
 have hS:=SumLabels_d (kk:=N.k) (pp:=N.p) (nn:=N.n) hr hw hsz hss hoz c1
 have hnl:=hz.o.len
 have htl:=hsz.l.len
 unfold Sem.finT
 generalize gF wd (conR N.rg wd t (Sem.eX N.rg wd) N.os) N.os=R at hp ⊢
 rw[show (⟨N.k,N.p,N.n⟩:Rg)=N.rg from rfl]at hS
 generalize conR N.rg wd t (Sem.eX N.rg wd) N.os=C at hp hS
 have hok':aE ⟨N.k,N.p,N.n⟩ t.labels t.dims t.data=true:=hok
 (refine spec_of (by kernel_rfl) Tryz.func33 qb (fnOk (nb rfl) ?_);unfold ip)
 (simp only[Nat.reduceSub,Zl,zn,Nat.reduceAdd,zF];try simp only[af]);(simp only[go_sem,seval,reduceCtorEq,List.replicate])
 (refine zC (mP hz) ?_)
 simp only[go_sem,seval,reduceCtorEq,hN.ok]
 (refine zC (eJ (t:=t) hz.k hz.p hz.n hsz.up) ?_)
 simp only[go_sem,seval,reduceCtorEq,hok']
 (refine zC (Jn (a:=N.os) (b:=t.labels) hnl htl ho) ?_)
 simp only[go_sem,seval,reduceCtorEq]
 (refine zD (hS) ?_)
 simp only[go_sem,seval,reduceCtorEq]
 (refine zD (hp) ?_)
 simp only[go_sem,seval,reduceCtorEq]
 (refine zE ?_ ?_<;>try simp only[go_sem,seval,reduceCtorEq])
end Go.Proofs.YtjfmckhbmdjnpaaGreat
namespace Go.Proofs.YtjfmckhbmdjnpaaGreat.Sem
open Plain
end Go.Proofs.YtjfmckhbmdjnpaaGreat.Sem
namespace Go.Proofs.YtjfmckhbmdjnpaaGreat
open Go.RowKit Go.Lift Plain
set_option maxRecDepth 100000
end Go.Proofs.YtjfmckhbmdjnpaaGreat
