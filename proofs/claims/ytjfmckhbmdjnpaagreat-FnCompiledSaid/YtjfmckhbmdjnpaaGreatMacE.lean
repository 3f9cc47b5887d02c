/-
 Contracts: the function values of CompileOrder. No condition.
-/
import Derived.Test.YtjfmckhbmdjnpaaGreatMacB
set_option linter.unusedSimpArgs false
set_option linter.unusedVariables false
namespace Go.Proofs.YtjfmckhbmdjnpaaGreat
open Go.RowKit Go.Lift Plain
set_option maxRecDepth 100000
theorem IB {ct:List Int} {k:Nat} (h:k<ct.length) (hx:ct[k]<0) (hi:∀ x∈ct.take k,¬ x<0):lowE ct=k:=by
 unfold lowE
 rw[List.findIdx_eq h]
 refine⟨decide_eq_true hx,fun j hj=>decide_eq_false (hi _ ?_)⟩
 exact List.mem_iff_getElem.2 ⟨j,by rw[List.length_take];omega,by simp⟩
theorem Ii {ct:List Int} {v k:Nat} (h:k<ct.length) (hx:ct[k]=v) (hi:∀ x∈ct.take k,x≠(v:Int)):posE ct v=k:=by
 unfold posE
 rw[List.findIdx_eq h]
 refine⟨by simp [hx],fun j hj=> ?_⟩
 have:=hi _ (List.mem_iff_getElem.2 ⟨j,by rw[List.length_take];omega,rfl⟩)
 simp only[List.getElem_take]at this
 simpa using this
theorem x7 {ct:List Int} (h:lowE ct<ct.length) (hn:ct.length≤1000):Does Tryz.prog 28 [.d (ints ct)] [] (.d (.int (lowE ct))) []:=by
 (refine spec_of (by kernel_rfl) Tryz.func28 qU (fnOk (nb rfl) ?_);unfold ka)
 (simp only[Nat.reduceSub,Zl,zn,Nat.reduceAdd,zF];try simp only[af]);(simp only[go_sem,seval,reduceCtorEq,List.replicate])
 have hI0:∀ x∈ct.take 0,¬ x<0:=fun x hx=>by simp at hx
 refine bG (ct.length) (mkB 16 65308) (fun k=>∀ x∈ct.take k,¬ x<0) (fun k=>[(7,.d (.int k))]) (fun k=>[]) (hi:=hI0) (h1:=by first | (simp only[go_sem,seval,reduceCtorEq,nz,na,n1];first | done | rfl) | rfl) (h2:=by first | (simp only[go_sem,seval,reduceCtorEq,nz,na,n1];first | done | rfl) | rfl) (hr:=fun k hk hi=> ?_)
 unfold ij
 by_cases hlt:k<ct.length
 ·have d1:(k:Int)<ct.length:=by omega
  have g:ct[k]? =some ct[k]:=zg hlt
  by_cases h1:ct[k]<0
  ·have e:=IB hlt h1 hi
   simp(disch:=omega) only[go_sem,seval,reduceCtorEq,d1,g,h1,e]
   (repeat (refine And.intro (by omega) ?_))
   (refine zE ?_ ?_<;>try simp only[go_sem,seval,reduceCtorEq])
  ·have hI:∀ x∈ct.take (k+1),¬ x<0:=fun x hx=>by
    rw[bb hlt]at hx
    rcases List.mem_append.1 hx with hx | hx
    ·exact hi x hx
    ·simp only[List.mem_singleton]at hx
     subst hx
     exact h1
   simp(disch:=omega) only[go_sem,seval,reduceCtorEq,d1,g,h1]
   (repeat (refine And.intro (by omega) ?_))
   (refine NextI.drop (mkB 16 65308) (by omega) (hI) (h1:= ?_) (h2:= ?_)<;>first | (simp only[go_sem,seval,reduceCtorEq,nz,na,n1];first | done | rfl) | rfl | skip)
 ·exfalso
  rw[zt (by omega)]at hi
  have h3:(decide (ct[lowE ct]<0))=true:=List.findIdx_getElem (w:=h)
  exact hi _ (List.getElem_mem h) (zd h3)
def opR (l:List Opn):List AV:=(opD l).map .d
section
variable {l : List Opn}
theorem CN:(opR l).length=l.length*5:=by rw[opR,List.length_map,uX]
theorem I9 (ρ:Nat→Option Nat):rnL ρ (opR l)=opR l:=by
 rw[aJ,opR,List.map_map];exact List.map_congr_left fun x _=>rfl
theorem r8:cY (opR l)=some (opD l):=oV _
theorem yS:(opR l).map nilC=opR l:=by rw[opR,List.map_map];exact List.map_congr_left fun x _=>rfl
theorem vG (o:Opn):opR l++[.d (.int o.kind),.d (.int o.A),.d (.int o.B),.d (.int o.C),.d (ints o.L)]=opR (l++[o]):=by simp [opR,opD]
end
attribute [go_sem] CN I9 r8
theorem Jt {ct:List Int} {R v:Int} {n:Nat} {ops:List Opn} (h:lowE ct<ct.length) (hn:ct.length≤1000) (hR:0≤R∧R≤1000):
  Does Tryz.prog 27 [.d (.int v),.ptr 0 0,.ptr 2 0] [some ⟨0,false,[.own 1 0 ct.length]⟩,some ⟨1,false,iv ct⟩,some ⟨0,false,[.d (.int R),.own 3 0 n]⟩,some ⟨5,true,opR ops⟩]
   (.d (.int (lowE ct))) [some ⟨0,false,[.own 1 0 ct.length]⟩,some ⟨1,false,iv (ct.set (lowE ct) v)⟩,some ⟨0,false,[.d (.int (max R (lowE ct+1))),.own 3 0 n]⟩,some ⟨5,true,opR ops⟩]:=by
 have hlo:=x7 h hn
 have hp:=putG (v:=v) h
 generalize lowE ct=q at*
 (refine spec_ofW _ (by kernel_rfl) Tryz.func27 mN (fnOk (nb rfl) ?_);unfold fC)
 (simp only[Nat.reduceSub,Zl,zn,Nat.reduceAdd,zF];try simp only[af]);(simp only[go_sem,seval,reduceCtorEq,List.replicate])
 (refine zC (hlo) ?_)
 simp(disch:=omega) only[go_sem,seval,reduceCtorEq,hp]
 (repeat (refine And.intro (by omega) ?_))
 (refine zE ?_ ?_<;>try simp only[go_sem,seval,reduceCtorEq])
def cmpT (N:Net) (s:Cmp):Sto:=[some ⟨0,false,[.d (.int N.k),.d (.int N.p),.d (.int N.n),.d (tens N.ts),.d (ints N.os)]⟩,some ⟨0,false,[.own 2 0 s.ct.length]⟩,some ⟨1,false,iv s.ct⟩,
 some ⟨0,false,[.clo 27 [.ptr 1 0,.ptr 4 0]]⟩,some ⟨0,false,[.d (.int s.R),.own 5 0 s.ops.length]⟩,some ⟨5,true,opR s.ops⟩]
set_option maxHeartbeats 3200000 in
theorem BO {N:Net} {s:Cmp} {v:Nat} (hN:N.ts.length≤1000) (hv:v≤1000) (hW:s.ct.length≤1000) (hR:s.R≤1000) (hops:s.ops.length≤1000) (hp:if N.ts.length≤v then posE s.ct v<s.ct.length else lowE s.ct<s.ct.length):
  Does Tryz.prog 29 [.d (.int v),.ptr 0 0,.ptr 1 0,.ptr 3 0,.ptr 4 0] (cmpT N s) (.d (.int (cN N.ts.length s v))) (cmpT N (aq N.ts.length s v)):=by
 unfold aq cN
 (refine spec_ofW _ (by kernel_rfl) Tryz.func29 mM (fnOk (nb rfl) ?_);unfold fB)
 simp only[cmpT]
 (simp only[Nat.reduceSub,Zl,zn,Nat.reduceAdd,zF];try simp only[af]);(simp only[go_sem,seval,reduceCtorEq,List.replicate])
 by_cases e:N.ts.length≤v
 ·rw[if_pos e]at hp
  rw[if_pos e,if_pos e]
  have e1:(v:Int)≥N.ts.length:=by omega
  simp(disch:=omega) only[go_sem,seval,reduceCtorEq,e1,tens]
  have hI0:∀ x∈s.ct.take 0,x≠(v:Int):=fun x hx=>by simp at hx
  refine bG (s.ct.length) (mkB 39 133956032) (fun k=>∀ x∈s.ct.take k,x≠(v:Int)) (fun k=>[(17,.d (.int k))]) (fun k=>[]) (hi:=hI0) (h1:=by first | (simp only[go_sem,seval,reduceCtorEq,nz,na,n1];first | done | rfl) | rfl) (h2:=by first | (simp only[go_sem,seval,reduceCtorEq,nz,na,n1];first | done | rfl) | rfl) (hr:=fun k hk hi=> ?_)
  unfold eT
  by_cases hlt:k<s.ct.length
  ·have d1:(k:Int)<s.ct.length:=by omega
   have g:s.ct[k]? =some s.ct[k]:=zg hlt
   by_cases h1:s.ct[k]=v
   ·have e2:=Ii hlt h1 hi
    have e3:(s.ct[k]==(v:Int))=true:=by rw[beq_iff_eq];exact h1
    simp(disch:=omega) only[go_sem,seval,reduceCtorEq,d1,g,e3,e2]
    (repeat (refine And.intro (by omega) ?_))
    (refine zE ?_ ?_<;>try simp only[go_sem,seval,reduceCtorEq])
   ·have e3:(s.ct[k]==(v:Int))=false:=by rw[beq_eq_false_iff_ne];exact h1
    have hI:∀ x∈s.ct.take (k+1),x≠(v:Int):=fun x hx=>by
     rw[bb hlt]at hx
     rcases List.mem_append.1 hx with hx | hx
     ·exact hi x hx
     ·simp only[List.mem_singleton]at hx
      subst hx
      exact h1
    simp(disch:=omega) only[go_sem,seval,reduceCtorEq,d1,g,e3]
    (repeat (refine And.intro (by omega) ?_))
    (refine NextI.drop (mkB 39 133956032) (by omega) (hI) (h1:= ?_) (h2:= ?_)<;>first | (simp only[go_sem,seval,reduceCtorEq,nz,na,n1];first | done | rfl) | rfl | skip)
  ·exfalso
   rw[zt (by omega)]at hi
   have hx:(s.ct[posE s.ct v]==(v:Int))=true:=List.findIdx_getElem (w:=hp)
   exact hi _ (List.getElem_mem hp) (by simpa using hx)
 ·rw[if_neg e]at hp
  rw[if_neg e,if_neg e]
  have e1:¬ (v:Int)≥N.ts.length:=by omega
  have hpu:=Jt (ct:=s.ct) (R:=s.R) (v:=v) (n:=s.ops.length) (ops:=s.ops) hp hW (by omega)
  have hsn:opR s.ops++[.d (.int 1),.d (.int (lowE s.ct)),.d (.int v),.d (.int 0),.d (.sl 0 [])]=opR (s.ops++[⟨1,lowE s.ct,v,0,[]⟩]):=vG (l:=s.ops) ⟨1,lowE s.ct,v,0,[]⟩
  have f1:(putS s v).ct=s.ct.set (lowE s.ct) v:=rfl
  have f2:((putS s v).R:Int)=max (s.R:Int) (lowE s.ct+1):=by show ((max s.R (lowE s.ct+1):Nat):Int)=_;omega
  have f3:(s.ops++[(⟨1,lowE s.ct,v,0,[]⟩:Opn)]).length=s.ops.length+1:=by simp
  simp(disch:=omega) only[go_sem,seval,reduceCtorEq,e1,tens]
  (refine gp [1,2,4,5] [5] true (by first | rfl | (simp only[go_sem,seval,reduceCtorEq];done)) (by kernel_rfl) (zd rfl) ?_ _ ?_ (hpu) ?_ ?_;(focus (simp only[go_sem,seval,reduceCtorEq];done));(focus (simp only[go_sem,seval,reduceCtorEq];done));(focus (first | rfl | (simp only[go_sem,seval,reduceCtorEq];done))))
  simp(disch:=omega) only[go_sem,seval,reduceCtorEq,true_or,or_self,if_true]
  (repeat (refine And.intro (by omega) ?_))
  refine FnEnd.wk (Wk.nilR 5 rfl) ?_
  simp only[go_sem,seval,reduceCtorEq,nilK,List.modify_succ_cons,List.modify_zero_cons,Option.map_some,List.map_append,yS,List.map_cons,List.map_nil,o9,yT]
  simp only[f1,f2,f3,hsn,List.length_set]
  (refine zE ?_ ?_<;>try simp only[go_sem,seval,reduceCtorEq])
end Go.Proofs.YtjfmckhbmdjnpaaGreat
