/-
 Contracts: a network contracted step by step, by the program. No condition.
-/
import Derived.Test.YtjfmckhbmdjnpaaGreatCtrA
import Derived.Test.YtjfmckhbmdjnpaaGreatGenH
import Derived.Test.YtjfmckhbmdjnpaaGreatOrdB
set_option linter.unusedSimpArgs false
set_option linter.unusedVariables false
namespace Go.Proofs.YtjfmckhbmdjnpaaGreat
open Go.RowKit Go.Lift Plain
set_option maxRecDepth 100000
theorem sz6 {L:List Int} (hn:L.Nodup) (h:Sem.L6 L):Sz 1048576 L:=by
 have hl:=len6 hn h
 exact⟨by omega,fun x hx=>by have:=h x hx;unfold I64;omega⟩
theorem os6 {N:Net} (h:Gen6 N):Sem.L6 N.os:=fun x hx=>Sem.wl h x (Sem.sf h.ok x hx)
theorem B3 {r:Rg} {wd:Nat} (hr:ae r=true) (hw:ah r=wd):TSz 1048576 (Sem.bB r wd):=
 Sem.tF hr hw (Sem.iC hr hw (dim:=Sem.d6)) fun x hx=>by cases hx
theorem HD {a b:List Int} (ha:a.length≤1048576) (hb:b.length≤1048576) (hs:∀ x∈a,x∈b):Does Tryz.prog 59 [.d (ints a),.d (ints b)] [] (.d (.bool true)) []:=by
 (refine spec_of (by kernel_rfl) Tryz.func59 qv (fnOk (nb rfl) ?_);unfold lU)
 (simp only[Nat.reduceSub,Zl,zn,Nat.reduceAdd,zF];try simp only[af]);(simp only[go_sem,seval,reduceCtorEq,List.replicate])
 refine aN (a.length) (mkB 18 261200) (fun k=>[(9,.d (.int k))]) (fun k=>[]) (h1:=by first | (simp only[go_sem,seval,reduceCtorEq,nz,na,n1];first | done | rfl) | rfl) (h2:=by first | (simp only[go_sem,seval,reduceCtorEq,nz,na,n1];first | done | rfl) | rfl) (hr:=fun k hk=> ?_)
 unfold kp
 by_cases hlt:k<a.length
 ·have d1:(k:Int)<a.length:=by omega
  have g:a[k]? =some a[k]:=zg hlt
  have hh:has b a[k]=true:=az.2 (hs _ (List.getElem_mem hlt))
  simp(disch:=omega) only[go_sem,seval,reduceCtorEq,d1,g]
  (refine zC (cm (xs:=b) (x:=a[k]) (by omega)) ?_)
  simp(disch:=omega) only[go_sem,seval,reduceCtorEq,hh]
  (refine Next.drop (mkB 18 261200) (by omega) (h1:= ?_) (h2:= ?_)<;>first | (simp only[go_sem,seval,reduceCtorEq,nz,na,n1];first | done | rfl) | rfl | skip)
 ·have d1:¬ (k:Int)<a.length:=by omega
  simp(disch:=omega) only[go_sem,seval,reduceCtorEq,d1]
  (refine zE ?_ ?_<;>try simp only[go_sem,seval,reduceCtorEq])
theorem FinishTensor_o {N:Net} (hN:Gen6 N) {wd:Nat} (hw:ah N.rg=wd) {t:Ten} (ht:Sem.TV N.rg wd Sem.d6 t) (t6:Sem.L6 t.labels) (ho:∀ x∈N.os,x∈t.labels):
  Does Tryz.prog 33 [netA N,tenA t] [] (.tup [ownT 0 (Sem.finT N.rg wd t N.os),.d (.bool true)]) (stoF (Sem.finT N.rg wd t N.os)):=by
 have hr:=(ay.1 hN.ok).1
 have hz:=hN.sz
 have hosn:=Sem.yD hN.ok
 have o6:=os6 hN
 have hsz:=Sem.tF hr hw ht t6
 have hoz:=sz6 hosn o6
 have hss:=B3 (r:=N.rg) hr hw
 have hsT:=Sem.iC hr hw (dim:=Sem.d6)
 obtain⟨c1,c2,c3⟩:=Sem.Fs hr hw ht hsT t6 (fun x hx=>by cases hx) N.os
 obtain⟨tc,_⟩:=Sem.xO hr hw ht hsT N.os
 have hcz:=Sem.tF hr hw tc c3
 have hok:=Sem.AU hr hw ht t6
 have hcok:=Sem.AU hr hw tc c3
 have hK:∀ x,x∈N.os↔x∈(conR N.rg wd t (Sem.bB N.rg wd) N.os).labels:=fun x=>by
  show x∈N.os↔x∈(conL t (Sem.bB N.rg wd)).filter (has N.os)
  rw[show conL t (Sem.bB N.rg wd)=t.labels from by show t.labels++([]:List Int).filter _=t.labels;simp,List.mem_filter,az]
  exact⟨fun hx=>⟨ho x hx,hx⟩,fun hx=>hx.2⟩
 have hpB:kB N.rg (conR N.rg wd t (Sem.bB N.rg wd) N.os) N.os=true:=by
  unfold kB
  rw[hcok,Sem.DV tc.nd hosn fun x=>(hK x).symm]
  rfl
 have hpT:=w8 hpB hw
 have hp:=rF (kk:=N.k) (pp:=N.p) (nn:=N.n) hz.k hz.p hz.n hcz hoz
 rw[show (⟨N.k,N.p,N.n⟩:Rg)=N.rg from rfl,hpT,hpB]at hp
 have hS:=SumLabels_d (kk:=N.k) (pp:=N.p) (nn:=N.n) hr hw hsz hss hoz c1
 have hnl:=hz.o.len
 have htl:=hsz.l.len
 unfold Sem.finT
 generalize fB wd (conR N.rg wd t (Sem.bB N.rg wd) N.os) N.os=R at hp ⊢
 rw[show (⟨N.k,N.p,N.n⟩:Rg)=N.rg from rfl]at hS
 generalize conR N.rg wd t (Sem.bB N.rg wd) N.os=C at hp hS
 have hok':aD ⟨N.k,N.p,N.n⟩ t.labels t.dims t.data=true:=hok
 (refine spec_of (by kernel_rfl) Tryz.func33 oF (fnOk (nb rfl) ?_);unfold g9)
 (simp only[Nat.reduceSub,Zl,zn,Nat.reduceAdd,zF];try simp only[af]);(simp only[go_sem,seval,reduceCtorEq,List.replicate])
 (refine zC (gg hz) ?_)
 simp only[go_sem,seval,reduceCtorEq,hN.ok]
 (refine zC (eg (t:=t) hz.k hz.p hz.n hsz.up) ?_)
 simp only[go_sem,seval,reduceCtorEq,hok']
 (refine zC (HD (a:=N.os) (b:=t.labels) hnl htl ho) ?_)
 simp only[go_sem,seval,reduceCtorEq]
 (refine zD (hS) ?_)
 simp only[go_sem,seval,reduceCtorEq]
 (refine zD (hp) ?_)
 simp only[go_sem,seval,reduceCtorEq]
 (refine zE ?_ ?_<;>try simp only[go_sem,seval,reduceCtorEq])
theorem sB (ts:List Ten):cY (rowD ts)=some (tcs ts):=zL _
theorem vY (ts:List Ten) (t:Ten):rowD ts++[.d (.sl t.labels.length (dv t.labels)),.d (.sl t.dims.length (dv t.dims)),.d (.sl t.data.length (dv t.data))]=rowD (ts++[t]):=by rw[mG,E5];rfl
theorem Cx (k e:Nat) (ls:List D) (ts:List Ten):mapL (fzG k e ls) (rowD ts)=rowD ts:=by
 rw[dz,rowD,List.map_map]
 exact List.map_congr_left fun x _=>rfl
attribute [go_sem] Cx sB
end Go.Proofs.YtjfmckhbmdjnpaaGreat
namespace Go.Proofs.YtjfmckhbmdjnpaaGreat.Sem
open Plain
end Go.Proofs.YtjfmckhbmdjnpaaGreat.Sem
namespace Go.Proofs.YtjfmckhbmdjnpaaGreat
open Go.RowKit Go.Lift Plain
set_option maxRecDepth 100000
end Go.Proofs.YtjfmckhbmdjnpaaGreat
