/-
 Contracts: the machine that checks compiled code, by the program: what it asks. No condition.
-/
import Derived.Test.YtjfmckhbmdjnpaaGreatMgCompiledA
import Derived.Test.YtjfmckhbmdjnpaaGreatPlD
import Derived.Test.YtjfmckhbmdjnpaaGreatConM
import Derived.Test.YtjfmckhbmdjnpaaGreatOrdL
import Derived.Test.YtjfmckhbmdjnpaaGreatOrdT
import Derived.Test.YtjfmckhbmdjnpaaGreatGenG
set_option linter.unusedSimpArgs false
set_option linter.unusedVariables false
namespace Go.Proofs.YtjfmckhbmdjnpaaGreat
open Go.RowKit Go.Lift Plain
set_option maxRecDepth 100000
def rgD (l:List (Bool × List Int)):List D:=l.flatMap fun r=>[.bool r.1,ints r.2]
def bD (l:List Bool):List D:=l.map .bool
def mcP (N:Net) (M:Mch):AV:=.rptr [.int N.k,.int N.p,.int N.n,tens N.ts,ints N.os,.sl M.rg.length (rgD M.rg),.sl M.ld.length (bD M.ld)] 0
def opA (o:Opn):AV:=.agg [.d (.int o.kind),.d (.int o.A),.d (.int o.B),.d (.int o.C),.d (ints o.L)]
section
variable {l : List (Bool × List Int)} {k : Nat}
theorem Id:(rgD l).length=l.length*2:=by
 induction l with
 | nil=>rfl
 | cons x l ih=>rw[rgD,List.flatMap_cons,List.length_append, ← rgD,ih];simp;omega
theorem ry:∀ {l:List (Bool × List Int)} {k:Nat} (h:k<l.length),(rgD l).drop (k*2)=.bool (l.getD k (false,[])).1 :: ints (l.getD k (false,[])).2 :: rgD (l.drop (k+1))
 | x :: l,0,_=>by simp [rgD]
 | x :: l,k+1,h=>by
  have:=ry (l:=l) (k:=k) (by simpa using h)
  rw[rgD,List.flatMap_cons, ← rgD,show (k+1)*2=2+k*2 by omega, ← List.drop_drop]
  simpa using this
theorem yM (h:k<l.length):((rgD l).drop (k*2)).take 2=[.bool (l.getD k (false,[])).1,ints (l.getD k (false,[])).2]:=by rw[ry h];rfl
theorem rx (h:k<l.length):(rgD l)[k*2]? =some (.bool (l.getD k (false,[])).1):=by
 have:=congrArg (fun x=>x[0]?) (ry h)
 simpa using this
theorem vt (h:k<l.length):(rgD l)[k*2+1]? =some (ints (l.getD k (false,[])).2):=by
 have:=congrArg (fun x=>x[1]?) (ry h)
 simpa using this
theorem Ci {l:List Bool} {d:Bool} (h:k<l.length):(bD l)[k]? =some (.bool (l.getD k d)):=by simp [bD,h]
end
attribute [go_sem] Id
def inR (R:Nat) (xs:List Int):Bool:=decide (∀ x∈xs,0≤x∧x<R)
theorem tJ {N:Net} {M:Mch} {xs:List Int} (h:xs.length≤1000) (hR:M.rg.length≤1000):Does Tryz.prog 88 [mcP N M,.d (ints xs)] [] (.d (.bool (inR M.rg.length xs))) []:=by
 (refine spec_of (by kernel_rfl) Tryz.func88 mK (fnOk (nb rfl) ?_);unfold fy)
 simp only[mcP]
 (simp only[Nat.reduceSub,Zl,zn,Nat.reduceAdd,zF];try simp only[af]);(simp only[go_sem,seval,reduceCtorEq,List.replicate])
 have hI0:∀ x∈xs.take 0,0≤x∧x<M.rg.length:=fun x hx=>by simp at hx
 have hno:∀ {k:Nat} (hk:k<xs.length),¬ (0≤xs[k]∧xs[k]<M.rg.length)→inR M.rg.length xs=false:=fun hk hc=>decide_eq_false fun hh=>hc (hh _ (List.getElem_mem hk))
 refine bG (xs.length) (mkB 25 33553488) (fun k=>∀ x∈xs.take k,0≤x∧x<M.rg.length) (fun k=>[(9,.d (.int k))]) (fun k=>[]) (hi:=hI0) (h1:=by first | (simp only[go_sem,seval,reduceCtorEq,nz,na,n1];first | done | rfl) | rfl) (h2:=by first | (simp only[go_sem,seval,reduceCtorEq,nz,na,n1];first | done | rfl) | rfl) (hr:=fun k hk hi=> ?_)
 unfold eS
 by_cases hlt:k<xs.length
 ·have d1:(k:Int)<xs.length:=by omega
  have g:xs[k]? =some xs[k]:=zg hlt
  by_cases h1:xs[k]<0
  ·have e:=hno hlt (by omega)
   simp(disch:=omega) only[go_sem,seval,reduceCtorEq,d1,g,h1,e]
   (refine zE ?_ ?_<;>try simp only[go_sem,seval,reduceCtorEq])
  ·by_cases h2:xs[k]≥M.rg.length
   ·have e:=hno hlt (by omega)
    simp(disch:=omega) only[go_sem,seval,reduceCtorEq,d1,g,h1,h2,e]
    (refine zE ?_ ?_<;>try simp only[go_sem,seval,reduceCtorEq])
   ·have hI:∀ x∈xs.take (k+1),0≤x∧x<M.rg.length:=fun x hx=>by
     rw[bb hlt]at hx
     rcases List.mem_append.1 hx with hx | hx
     ·exact hi x hx
     ·simp only[List.mem_singleton]at hx
      subst hx
      omega
    simp(disch:=omega) only[go_sem,seval,reduceCtorEq,d1,g,h1,h2]
    (refine NextI.drop (mkB 25 33553488) (by omega) (hI) (h1:= ?_) (h2:= ?_)<;>first | (simp only[go_sem,seval,reduceCtorEq,nz,na,n1];first | done | rfl) | rfl | skip)
 ·have d1:¬ (k:Int)<xs.length:=by omega
  rw[zt (by omega)]at hi
  have e:inR M.rg.length xs=true:=decide_eq_true hi
  simp(disch:=omega) only[go_sem,seval,reduceCtorEq,d1,e]
  (refine zE ?_ ?_<;>try simp only[go_sem,seval,reduceCtorEq])
theorem Jy {M:Mch} {a:Nat}:inR M.rg.length [(a:Int)]=opIn M a:=by
 unfold inR opIn
 rw[Bool.eq_iff_iff,decide_eq_true_eq,decide_eq_true_eq]
 simp
theorem LV {M:Mch} {a b c:Nat}:inR M.rg.length [(a:Int),(b:Int),(c:Int)]=(opIn M a&&opIn M b&&opIn M c):=by
 unfold inR opIn
 rw[Bool.eq_iff_iff,decide_eq_true_eq]
 simp [and_assoc]
theorem Jx (a:Int):D.sl 1 [.int a]=ints [a]:=nr rfl
theorem LU (a b c:Int):D.sl 3 [.int a,.int b,.int c]=ints [a,b,c]:=nr rfl
set_option maxHeartbeats 3200000 in
theorem Gi {N:Net} {M:Mch} {o:Opn} (hR:M.rg.length≤1000) (hm:M.ld.length≤1000) (hL:o.L.length≤1000) (hA:o.A≤1000) (hB:o.B≤1000) (hC:o.C≤1000):
  Does Tryz.prog 42 [mcP N M,opA o] [] (.d (.bool (oq M o))) []:=by
 have hin:=tJ (N:=N) (M:=M) (xs:=[(o.A:Int)]) (by simp) hR
 rw[Jy]at hin
 unfold oq
 (refine spec_of (by kernel_rfl) Tryz.func42 nO (fnOk (nb rfl) ?_);unfold fI)
 simp only[mcP,opA]
 (simp only[Nat.reduceSub,Zl,zn,Nat.reduceAdd,zF];try simp only[af]);(simp only[go_sem,seval,reduceCtorEq,List.replicate])
 simp only[mcP, ← Jx]at hin
 cases ha:opIn M o.A
 ·rw[ha]at hin
  (refine zD (hin) ?_)
  simp only[go_sem,seval,reduceCtorEq]
  (repeat (refine And.intro (by omega) ?_))
  (refine zE ?_ ?_<;>try simp only[go_sem,seval,reduceCtorEq])
 ·have la:o.A<M.rg.length:=zd ha
  rw[ha]at hin
  (refine zD (hin) ?_)
  have n1':¬ (o.B:Int)<0:=by omega
  simp(disch:=omega) only[go_sem,seval,reduceCtorEq,n1']
  by_cases hb:¬ o.B<M.ld.length
  ·have n2:(o.B:Int)≥M.ld.length:=by omega
   have eb:decide (o.B<M.ld.length)=false:=decide_eq_false hb
   simp(disch:=omega) only[go_sem,seval,reduceCtorEq,n2,eb]
   (repeat (refine And.intro (by omega) ?_))
   (refine zE ?_ ?_<;>try simp only[go_sem,seval,reduceCtorEq])
  have hb':o.B<M.ld.length:=by omega
  have n2:¬ (o.B:Int)≥M.ld.length:=by omega
  have eb:decide (o.B<M.ld.length)=true:=decide_eq_true hb'
  by_cases hc:¬ o.C=0
  ·have ec:((o.C:Int) !=0)=true:=by simpa using hc
   have ed:decide (o.C=0)=false:=decide_eq_false hc
   simp(disch:=omega) only[go_sem,seval,reduceCtorEq,n2,eb,ec,ed]
   (repeat (refine And.intro (by omega) ?_))
   (refine zE ?_ ?_<;>try simp only[go_sem,seval,reduceCtorEq])
  have ec:((o.C:Int) !=0)=false:=by simpa using hc
  have ed:decide (o.C=0)=true:=decide_eq_true (by omega)
  by_cases hl:¬ o.L.length=0
  ·have el:((o.L.length:Int) !=0)=true:=by simpa using hl
   have em:decide (o.L.length=0)=false:=decide_eq_false hl
   simp(disch:=omega) only[go_sem,seval,reduceCtorEq,n2,eb,ec,ed,el,em]
   (repeat (refine And.intro (by omega) ?_))
   (refine zE ?_ ?_<;>try simp only[go_sem,seval,reduceCtorEq])
  have el:((o.L.length:Int) !=0)=false:=by simpa using hl
  have em:decide (o.L.length=0)=true:=decide_eq_true (by omega)
  have g0:=rx la
  have g1:=Ci (d:=true) hb'
  rw[show (M.rg.getD o.A (false,[])).1=M.full o.A from rfl]at g0
  simp(disch:=omega) only[go_sem,seval,reduceCtorEq,n2,eb,ec,ed,el,em,g0]
  (repeat (refine And.intro (by omega) ?_))
  cases M.full o.A
  ·simp(disch:=omega) only[go_sem,seval,reduceCtorEq,g1]
   (repeat (refine And.intro (by omega) ?_))
   (refine zE ?_ ?_<;>try simp only[go_sem,seval,reduceCtorEq])
  ·simp(disch:=omega) only[go_sem,seval,reduceCtorEq]
   (repeat (refine And.intro (by omega) ?_))
   (refine zE ?_ ?_<;>try simp only[go_sem,seval,reduceCtorEq])
set_option maxHeartbeats 3200000 in
theorem In {N:Net} {M:Mch} {o:Opn} (hR:M.rg.length≤1000) (hm:M.ld.length≤1000) (hL:o.L.length≤1000) (hA:o.A≤1000) (hB:o.B≤1000) (hC:o.C≤1000):
  Does Tryz.prog 44 [mcP N M,opA o] [] (.d (.bool (outB M o))) []:=by
 have hin:=tJ (N:=N) (M:=M) (xs:=[(o.A:Int)]) (by simp) hR
 rw[Jy]at hin
 unfold outB
 (refine spec_of (by kernel_rfl) Tryz.func44 oC (fnOk (nb rfl) ?_);unfold gZ)
 simp only[mcP,opA]
 (simp only[Nat.reduceSub,Zl,zn,Nat.reduceAdd,zF];try simp only[af]);(simp only[go_sem,seval,reduceCtorEq,List.replicate])
 simp only[mcP, ← Jx]at hin
 cases ha:opIn M o.A
 ·rw[ha]at hin
  (refine zC (hin) ?_)
  simp only[go_sem,seval,reduceCtorEq]
  (repeat (refine And.intro (by omega) ?_))
  (refine zE ?_ ?_<;>try simp only[go_sem,seval,reduceCtorEq])
 rw[ha]at hin
 (refine zC (hin) ?_)
 by_cases hb:¬ o.B=0
 ·have ec:((o.B:Int) !=0)=true:=by simpa using hb
  have ed:decide (o.B=0)=false:=decide_eq_false hb
  simp(disch:=omega) only[go_sem,seval,reduceCtorEq,ec,ed]
  (repeat (refine And.intro (by omega) ?_))
  (refine zE ?_ ?_<;>try simp only[go_sem,seval,reduceCtorEq])
 have eb:((o.B:Int) !=0)=false:=by simpa using hb
 have fb:decide (o.B=0)=true:=decide_eq_true (by omega)
 by_cases hc:¬ o.C=0
 ·have ec:((o.C:Int) !=0)=true:=by simpa using hc
  have ed:decide (o.C=0)=false:=decide_eq_false hc
  simp(disch:=omega) only[go_sem,seval,reduceCtorEq,eb,fb,ec,ed]
  (repeat (refine And.intro (by omega) ?_))
  (refine zE ?_ ?_<;>try simp only[go_sem,seval,reduceCtorEq])
 have ec:((o.C:Int) !=0)=false:=by simpa using hc
 have ed:decide (o.C=0)=true:=decide_eq_true (by omega)
 by_cases hl:¬ o.L.length=0
 ·have el:((o.L.length:Int) !=0)=true:=by simpa using hl
  have em:decide (o.L.length=0)=false:=decide_eq_false hl
  simp(disch:=omega) only[go_sem,seval,reduceCtorEq,eb,fb,ec,ed,el,em]
  (repeat (refine And.intro (by omega) ?_))
  (refine zE ?_ ?_<;>try simp only[go_sem,seval,reduceCtorEq])
 have el:((o.L.length:Int) !=0)=false:=by simpa using hl
 have em:decide (o.L.length=0)=true:=decide_eq_true (by omega)
 simp(disch:=omega) only[go_sem,seval,reduceCtorEq,eb,fb,ec,ed,el,em]
 have hI0:∀ i,i<0→M.full i=decide (i=o.A):=fun i hi=>by omega
 refine bG (M.rg.length) (mkB 61 562812514467952) (fun k=>∀ i,i<k→M.full i=decide (i=o.A)) (fun k=>[(36,.d (.int k))]) (fun k=>[]) (hi:=hI0) (h1:=by first | (simp only[go_sem,seval,reduceCtorEq,nz,na,n1];first | done | rfl) | rfl) (h2:=by first | (simp only[go_sem,seval,reduceCtorEq,nz,na,n1];first | done | rfl) | rfl) (hr:=fun k hk hi=> ?_)
 ·unfold fE
  by_cases hlt:k<M.rg.length
  ·have d1:(k:Int)<M.rg.length:=by omega
   have g:=yM hlt
   rw[show (M.rg.getD k (false,[])).1=M.full k from rfl]at g
   have ek:((k:Int)==(o.A:Int))=decide (k=o.A):=by rw[Bool.eq_iff_iff,beq_iff_eq,decide_eq_true_eq];omega
   by_cases hq:¬ M.full k=decide (k=o.A)
   ·have e1:(M.full k==decide (k=o.A))=false:=by rw[beq_eq_false_iff_ne];exact hq
    have e2:decide (∀ i,i<M.rg.length→M.full i=decide (i=o.A))=false:=decide_eq_false fun hh=>hq (hh k hlt)
    simp(disch:=omega) only[go_sem,seval,reduceCtorEq,d1,g,ek,e1,e2]
    (repeat (refine And.intro (by omega) ?_))
    (refine zE ?_ ?_<;>try simp only[go_sem,seval,reduceCtorEq])
   ·have e1:(M.full k==decide (k=o.A))=true:=by rw[beq_iff_eq];exact Decidable.not_not.1 hq
    have hI:∀ i,i<k+1→M.full i=decide (i=o.A):=fun i h1=>by
     by_cases e:i=k
     ·subst e;exact Decidable.not_not.1 hq
     ·exact hi i (by omega)
    simp(disch:=omega) only[go_sem,seval,reduceCtorEq,d1,g,ek,e1]
    (repeat (refine And.intro (by omega) ?_))
    (refine NextI.drop (mkB 61 562812514467952) (by omega) (hI) (h1:= ?_) (h2:= ?_)<;>first | (simp only[go_sem,seval,reduceCtorEq,nz,na,n1];first | done | rfl) | rfl | skip)
  ·have d1:¬ (k:Int)<M.rg.length:=by omega
   have e2:decide (∀ i,i<M.rg.length→M.full i=decide (i=o.A))=true:=decide_eq_true fun i h1=>hi i (by omega)
   simp(disch:=omega) only[go_sem,seval,reduceCtorEq,d1,e2]
   have hJ0:∀ x∈M.ld.take 0,x=true:=fun x hx=>by simp at hx
   refine bG (M.ld.length) (mkB 61 2269814212194730256) (fun q=>∀ x∈M.ld.take q,x=true) (fun q=>[(54,.d (.int q))]) (fun q=>[]) (hi:=hJ0) (h1:=by first | (simp only[go_sem,seval,reduceCtorEq,nz,na,n1];first | done | rfl) | rfl) (h2:=by first | (simp only[go_sem,seval,reduceCtorEq,nz,na,n1];first | done | rfl) | rfl) (hr:=fun q hq hiq=> ?_)
   unfold fF
   by_cases hlq:q<M.ld.length
   ·have d2:(q:Int)<M.ld.length:=by omega
    have g:=Ci (d:=true) hlq
    have gq:M.ld.getD q true=M.ld[q]:=by simp [hlq]
    rw[gq]at g
    cases hv:M.ld[q]
    ·have e3:M.ld.all id=false:=by
      rw[Bool.eq_false_iff]
      intro hh
      have:=List.all_eq_true.1 hh _ (List.getElem_mem hlq)
      rw[hv]at this
      simp at this
     rw[hv]at g
     simp(disch:=omega) only[go_sem,seval,reduceCtorEq,d2,g,e3]
     (repeat (refine And.intro (by omega) ?_))
     (refine zE ?_ ?_<;>try simp only[go_sem,seval,reduceCtorEq])
    ·rw[hv]at g
     have hJ:∀ x∈M.ld.take (q+1),x=true:=fun x hx=>by
      rw[bb hlq]at hx
      rcases List.mem_append.1 hx with hx | hx
      ·exact hiq x hx
      ·simp only[List.mem_singleton]at hx
       rw[hx,hv]
     simp(disch:=omega) only[go_sem,seval,reduceCtorEq,d2,g]
     (repeat (refine And.intro (by omega) ?_))
     (refine NextI.drop (mkB 61 2269814212194730256) (by omega) (hJ) (h1:= ?_) (h2:= ?_)<;>first | (simp only[go_sem,seval,reduceCtorEq,nz,na,n1];first | done | rfl) | rfl | skip)
   ·have d2:¬ (q:Int)<M.ld.length:=by omega
    rw[zt (by omega)]at hiq
    have e3:M.ld.all id=true:=List.all_eq_true.2 fun x hx=>hiq x hx
    simp(disch:=omega) only[go_sem,seval,reduceCtorEq,d2,e3]
    (repeat (refine And.intro (by omega) ?_))
    (refine zE ?_ ?_<;>try simp only[go_sem,seval,reduceCtorEq])
structure MSz (N:Net) (M:Mch):Prop where
 rg:M.rg.length≤1000
 ld:M.ld.length=N.ts.length
 lb:∀ i,(M.lb i).length≤6
theorem s8 (a b:List Int):(ao a b).length≤a.length+b.length:=by
 unfold ao
 rw[List.length_append]
 have:=List.length_filter_le (fun x=> !has a x) b
 omega
theorem t5 {N:Net} {M:Mch} (h:MSz N M) {B C:Nat} {L:List Int}:∀ k,(dE M B C L k).length≤L.length+6*k
 | 0=>by simp [dE]
 | k+1=>by
  have ih:=t5 h (B:=B) (C:=C) (L:=L) k
  have h1:=h.lb k
  rw[dE]
  split
  ·have:=s8 (dE M B C L k) (M.lb k)
   omega
  ·omega
theorem xS {N:Net} (hN:Gen6 N) {M:Mch} {L:List Int}:∀ k,(dr N.ts M L k).length≤L.length+6*k
 | 0=>by simp [dr]
 | k+1=>by
  have ih:=xS hN (M:=M) (L:=L) k
  have h1:(N.ts.getD k ⟨[],[],[]⟩).labels.length≤6:=by
   rcases Nat.lt_or_ge k N.ts.length with h | h
   ·have e:N.ts.getD k ⟨[],[],[]⟩=N.ts[k]:=by simp [h]
    have:=(hN.six _ (List.getElem_mem h)).len
    rw[e];omega
   ·have e:N.ts.getD k ⟨[],[],[]⟩=⟨[],[],[]⟩:=by simp [zq,List.getElem?_eq_none h]
    rw[e];simp
  rw[dr]
  split
  ·have:=s8 (dr N.ts M L k) (N.ts.getD k ⟨[],[],[]⟩).labels
   omega
  ·omega
theorem Gen6.os6 {N:Net} (h:Gen6 N):N.os.Nodup∧N.os.length≤6:=by
 obtain⟨h1,h2,h3,_,h5⟩:=an.1 h.ok
 have hb:∀ x∈N.os,0≤x∧x<6:=fun x hx=>by
  obtain⟨t,h1,h2⟩:=h.ots x hx
  exact(h.six t h1).bd x h2
 have hax:axOk N.os (N.os.map (dimN N.ts)):=by
  false_or_by_contra
  rename_i hc
  exact h5 (if_neg fun hc'=>hc hc'.1)
 exact⟨bI hax,len6 (bI hax) hb⟩
set_option maxHeartbeats 3200000 in
theorem FM {N:Net} (hN:Gen6 N) {M:Mch} {o:Opn} (hM:MSz N M) (hL:o.L.length≤1000) (hA:o.A≤1000) (hB:o.B≤1000) (hC:o.C≤1000):
  Does Tryz.prog 43 [mcP N M,opA o] [] (.d (.bool (nY N M o))) []:=by
 have hR:=hM.rg
 have hm:=hM.ld
 have h12:=(an.1 hN.ok).2.1
 have ho6:=hN.os6.2
 have hin:=tJ (N:=N) (M:=M) (xs:=[(o.A:Int),(o.B:Int),(o.C:Int)]) (by simp) hR
 rw[LV]at hin
 unfold nY
 (refine spec_of (by kernel_rfl) Tryz.func43 nN (fnOk (nb rfl) ?_);unfold fH)
 simp only[mcP,opA]
 (simp only[Nat.reduceSub,Zl,zn,Nat.reduceAdd,zF];try simp only[af]);(simp only[go_sem,seval,reduceCtorEq,List.replicate])
 simp only[mcP, ← LU]at hin
 cases ha:(opIn M o.A&&opIn M o.B&&opIn M o.C)
 ·rw[ha]at hin
  (refine zC (hin) ?_)
  simp only[go_sem,seval,reduceCtorEq]
  (repeat (refine And.intro (by omega) ?_))
  (refine zE ?_ ?_<;>try simp only[go_sem,seval,reduceCtorEq])
 rw[ha]at hin
 simp only[Bool.and_eq_true]at ha
 obtain⟨⟨ha1,ha2⟩,ha3⟩:=ha
 have la:o.A<M.rg.length:=zd ha1
 have lb':o.B<M.rg.length:=zd ha2
 have lc:o.C<M.rg.length:=zd ha3
 (refine zC (hin) ?_)
 by_cases hbc:¬ o.B≠o.C
 ·have e1:((o.B:Int)==(o.C:Int))=true:=by rw[beq_iff_eq];omega
  have e2:decide (o.B≠o.C)=false:=decide_eq_false hbc
  simp(disch:=omega) only[go_sem,seval,reduceCtorEq,e1,e2]
  (repeat (refine And.intro (by omega) ?_))
  (refine zE ?_ ?_<;>try simp only[go_sem,seval,reduceCtorEq])
 have e1:((o.B:Int)==(o.C:Int))=false:=by rw[beq_eq_false_iff_ne];omega
 have e2:decide (o.B≠o.C)=true:=decide_eq_true (by omega)
 have ga:=rx la
 have gb:=rx lb'
 have gc:=rx lc
 have hb:=vt lb'
 have hc:=vt lc
 rw[show (M.rg.getD o.A (false,[])).1=M.full o.A from rfl]at ga
 rw[show (M.rg.getD o.B (false,[])).1=M.full o.B from rfl]at gb
 rw[show (M.rg.getD o.C (false,[])).1=M.full o.C from rfl]at gc
 rw[show (M.rg.getD o.B (false,[])).2=M.lb o.B from rfl]at hb
 rw[show (M.rg.getD o.C (false,[])).2=M.lb o.C from rfl]at hc
 simp(disch:=omega) only[go_sem,seval,reduceCtorEq,e1,e2,ga]
 (repeat (refine And.intro (by omega) ?_))
 cases fa:M.full o.A
 case true=>
  simp(disch:=omega) only[go_sem,seval,reduceCtorEq]
  (repeat (refine And.intro (by omega) ?_))
  (refine zE ?_ ?_<;>try simp only[go_sem,seval,reduceCtorEq])
 simp(disch:=omega) only[go_sem,seval,reduceCtorEq,gb]
 (repeat (refine And.intro (by omega) ?_))
 cases fb:M.full o.B
 case false=>
  simp(disch:=omega) only[go_sem,seval,reduceCtorEq]
  (repeat (refine And.intro (by omega) ?_))
  (refine zE ?_ ?_<;>try simp only[go_sem,seval,reduceCtorEq])
 simp(disch:=omega) only[go_sem,seval,reduceCtorEq,gc]
 (repeat (refine And.intro (by omega) ?_))
 cases fc:M.full o.C
 case false=>
  simp(disch:=omega) only[go_sem,seval,reduceCtorEq]
  (repeat (refine And.intro (by omega) ?_))
  (refine zE ?_ ?_<;>try simp only[go_sem,seval,reduceCtorEq])
 have hlb:=hM.lb o.B
 have hlc:=hM.lb o.C
 have hJl:=s8 (M.lb o.B) (M.lb o.C)
 simp(disch:=omega) only[go_sem,seval,reduceCtorEq,hb,hc]
 (repeat (refine And.intro (by omega) ?_))
 unfold jnO
 (refine zC (iy (a:=M.lb o.B) (b:=M.lb o.C) (by omega) (by omega)) ?_)
 generalize ao (M.lb o.B) (M.lb o.C)=J at*
 simp(disch:=omega) only[go_sem,seval,reduceCtorEq]
 rw[show subB o.L J=allL o.L J from rfl]
 (refine zC (Do (a:=o.L) (b:=J) (by omega) (by omega)) ?_)
 cases hs:allL o.L J
 ·simp(disch:=omega) only[go_sem,seval,reduceCtorEq]
  (repeat (refine And.intro (by omega) ?_))
  (refine zE ?_ ?_<;>try simp only[go_sem,seval,reduceCtorEq])
 simp(disch:=omega) only[go_sem,seval,reduceCtorEq]
 (refine zC (r5 (xs:=N.os) (by omega)) ?_)
 simp(disch:=omega) only[go_sem,seval,reduceCtorEq]
 have hz0:dE M o.B o.C N.os 0=N.os:=rfl
 refine aP (M.rg.length) (mkB 146 83076591280232213527812754179621248) (fun k=>[(96,.d (.int k)),(6,.d (ints (dE M o.B o.C N.os k)))]) (fun k=>[]) (h1:=by first | (simp only[go_sem,seval,reduceCtorEq,nz,na,n1,hz0];first | done | rfl) | rfl) (h2:=by first | (simp only[go_sem,seval,reduceCtorEq,nz,na,n1,hz0];first | done | rfl) | rfl) (hr:=fun k hk=> ?_)
 ·unfold fr
  by_cases hlt:k<M.rg.length
  ·have d1:(k:Int)<M.rg.length:=by omega
   have g:=yM hlt
   rw[show (M.rg.getD k (false,[])).2=M.lb k from rfl]at g
   have hnl:=t5 hM (B:=o.B) (C:=o.C) (L:=N.os) k
   have hlk:=hM.lb k
   by_cases q1:k=o.B
   ·have c1:((k:Int) !=(o.B:Int))=false:=by simp [q1]
    have hn:dE M o.B o.C N.os (k+1)=dE M o.B o.C N.os k:=by rw[dE,if_neg (fun h=>h.1 q1)]
    simp(disch:=omega) only[go_sem,seval,reduceCtorEq,d1,g,c1]
    (repeat (refine And.intro (by omega) ?_))
    (refine Next.drop (mkB 146 83076591280232213527812754179621248) (by omega) (h1:= ?_) (h2:= ?_)<;>first | (simp only[go_sem,seval,reduceCtorEq,nz,na,n1,hn];first | done | rfl) | rfl | skip)
   ·have c1:((k:Int) !=(o.B:Int))=true:=by rw[bne_iff_ne];omega
    by_cases q2:k=o.C
    ·have c2:((k:Int) !=(o.C:Int))=false:=by simp [q2]
     have hn:dE M o.B o.C N.os (k+1)=dE M o.B o.C N.os k:=by rw[dE,if_neg (fun h=>h.2 q2)]
     simp(disch:=omega) only[go_sem,seval,reduceCtorEq,d1,g,c1,c2]
     (repeat (refine And.intro (by omega) ?_))
     (refine Next.drop (mkB 146 83076591280232213527812754179621248) (by omega) (h1:= ?_) (h2:= ?_)<;>first | (simp only[go_sem,seval,reduceCtorEq,nz,na,n1,hn];first | done | rfl) | rfl | skip)
    ·have c2:((k:Int) !=(o.C:Int))=true:=by rw[bne_iff_ne];omega
     have hn:dE M o.B o.C N.os (k+1)=ao (dE M o.B o.C N.os k) (M.lb k):=by rw[dE,if_pos ⟨q1,q2⟩]
     simp(disch:=omega) only[go_sem,seval,reduceCtorEq,d1,g,c1,c2]
     (repeat (refine And.intro (by omega) ?_))
     (refine zC (iy (a:=dE M o.B o.C N.os k) (b:=M.lb k) (by omega) (by omega)) ?_)
     simp(disch:=omega) only[go_sem,seval,reduceCtorEq]
     (repeat (refine And.intro (by omega) ?_))
     (refine Next.drop (mkB 146 83076591280232213527812754179621248) (by omega) (h1:= ?_) (h2:= ?_)<;>first | (simp only[go_sem,seval,reduceCtorEq,nz,na,n1,hn];first | done | rfl) | rfl | skip)
  ·have d1:¬ (k:Int)<M.rg.length:=by omega
   obtain rfl:k=M.rg.length:=by omega
   simp(disch:=omega) only[go_sem,seval,reduceCtorEq,d1]
   have hnl:=t5 hM (B:=o.B) (C:=o.C) (L:=N.os) M.rg.length
   unfold need
   generalize dE M o.B o.C N.os M.rg.length=E at*
   have hy0:dr N.ts M E 0=E:=rfl
   refine aP (N.ts.length) (mkB 146 1393785941084197667018999161584040351368704) (fun q=>[(122,.d (.int q)),(6,.d (ints (dr N.ts M E q)))]) (fun q=>[]) (h1:=by first | (simp only[go_sem,seval,reduceCtorEq,nz,na,n1,hy0];first | done | rfl) | rfl) (h2:=by first | (simp only[go_sem,seval,reduceCtorEq,nz,na,n1,hy0];first | done | rfl) | rfl) (hr:=fun q hq=> ?_)
   unfold fu
   have hnq:=xS hN (M:=M) (L:=E) q
   by_cases hlq:q<N.ts.length
   ·have d2:(q:Int)<N.ts.length:=by omega
    have gt:N.ts[q]? =some (N.ts.getD q ⟨[],[],[]⟩):=by simp [hlq]
    have g:=iu gt
    have gl:=Ci (l:=M.ld) (d:=true) (k:=q) (by omega)
    have d3:(q:Int)<M.ld.length:=by omega
    have hl6:(N.ts.getD q ⟨[],[],[]⟩).labels.length≤1000:=by
     have:=(hN.six _ (List.mem_of_getElem? gt)).len
     omega
    simp(disch:=omega) only[go_sem,seval,reduceCtorEq,d2,d3,g,gl,tens]
    (repeat (refine And.intro (by omega) ?_))
    cases hv:M.ld.getD q true
    ·have hn:dr N.ts M E (q+1)=ao (dr N.ts M E q) (N.ts.getD q ⟨[],[],[]⟩).labels:=by rw[dr,if_pos hv]
     simp(disch:=omega) only[go_sem,seval,reduceCtorEq]
     (refine zC (iy (a:=dr N.ts M E q) (b:=(N.ts.getD q ⟨[],[],[]⟩).labels) (by omega) (by omega)) ?_)
     simp(disch:=omega) only[go_sem,seval,reduceCtorEq]
     (repeat (refine And.intro (by omega) ?_))
     (refine Next.drop (mkB 146 1393785941084197667018999161584040351368704) (by omega) (h1:= ?_) (h2:= ?_)<;>first | (simp only[go_sem,seval,reduceCtorEq,nz,na,n1,hn];first | done | rfl) | rfl | skip)
    ·have hn:dr N.ts M E (q+1)=dr N.ts M E q:=by rw[dr,if_neg (by rw[hv];decide)]
     simp(disch:=omega) only[go_sem,seval,reduceCtorEq]
     (repeat (refine And.intro (by omega) ?_))
     (refine Next.drop (mkB 146 1393785941084197667018999161584040351368704) (by omega) (h1:= ?_) (h2:= ?_)<;>first | (simp only[go_sem,seval,reduceCtorEq,nz,na,n1,hn];first | done | rfl) | rfl | skip)
   ·have d2:¬ (q:Int)<N.ts.length:=by omega
    obtain rfl:q=N.ts.length:=by omega
    simp(disch:=omega) only[go_sem,seval,reduceCtorEq,d2]
    have hfl:=List.length_filter_le (has (dr N.ts M E N.ts.length)) J
    (refine zD (qR (ls:=J) (keep:=dr N.ts M E N.ts.length) (by omega) (by omega)) ?_)
    simp(disch:=omega) only[go_sem,seval,reduceCtorEq]
    (refine zC (Do (a:=J.filter (has (dr N.ts M E N.ts.length))) (b:=o.L) (by omega) (by omega)) ?_)
    rw[show subB (J.filter (has (dr N.ts M E N.ts.length))) o.L=allL (J.filter (has (dr N.ts M E N.ts.length))) o.L from rfl]
    simp(disch:=omega) only[go_sem,seval,reduceCtorEq]
    (repeat (refine And.intro (by omega) ?_))
    (refine zE ?_ ?_<;>try simp only[go_sem,seval,reduceCtorEq])
end Go.Proofs.YtjfmckhbmdjnpaaGreat
