/-
 Contracts: the dimensions of a network's labels; valid networks. No condition.
-/
import Derived.Test.YtjfmckhbmdjnpaaGreatMgDecompositionsA
import Derived.Test.YtjfmckhbmdjnpaaGreatArrA
import Derived.Test.YtjfmckhbmdjnpaaGreatNetB
import Derived.Test.YtjfmckhbmdjnpaaGreatCoB
set_option linter.unusedSimpArgs false
set_option linter.unusedVariables false
namespace Go.Proofs.YtjfmckhbmdjnpaaGreat
open Go.RowKit Go.Lift Plain
set_option maxRecDepth 100000
theorem FE {D L:List Int} (hD:D.length=100) (hL:L.length≤1048576) (hx:∀ x∈L,0≤x∧x≤99):
  Does Tryz.prog 38 [.agg (iv D),.d (ints L)] [] (.agg [.own 0 0 L.length,.own 1 0 L.length,.nil]) [some ⟨1,true,iv L⟩,some ⟨1,true,iv (L.map (atT D))⟩]:=by
 (refine spec_of (by kernel_rfl) Tryz.func38 vL (fnOk (nb rfl) ?_);unfold pg)
 (simp only[Nat.reduceSub,Zl,zn,Nat.reduceAdd,zF];try simp only[af]);(simp only[go_sem,seval,reduceCtorEq,List.replicate])
 (refine zD (dU (xs:=L) (by omega)) ?_)
 simp(disch:=omega) only[go_sem,seval,reduceCtorEq]
 refine⟨by omega, ?_⟩
 refine aN (L.length) (mkB 30 536740032) (fun k=>[(16,.d (.int k))]) (fun k=>[(3,iv (mix (L.map (atT D)) (List.replicate L.length 0) k))]) (h1:=by first | (simp only[go_sem,seval,reduceCtorEq,nz,na,n1,cl];first | done | rfl) | rfl) (h2:=by first | (simp only[go_sem,seval,reduceCtorEq,nz,na,n1,cl];first | done | rfl) | rfl) (hr:=fun k hk=> ?_)
 unfold nJ
 have hml:(L.map (atT D)).length=(List.replicate L.length (0:Int)).length:=by simp
 have hmk:(mix (L.map (atT D)) (List.replicate L.length 0) k).length=L.length:=by rw[iY hml];simp
 by_cases hlt:k<L.length
 ·have h1:(k:Int)<L.length:=by omega
  have g:L[k]? =some L[k]:=zg hlt
  have hb:=hx L[k] (List.getElem_mem hlt)
  have c1:0≤L[k]:=hb.1
  have c2:L[k]<100:=by omega
  have gd:=tz hD hb
  have hm:=fG hml (show (L.map (atT D))[k]? =some (atT D L[k])by simp [hlt])
  simp(disch:=omega) only[go_sem,seval,reduceCtorEq,h1,g,gd,c1,c2]
  refine⟨by omega, ?_⟩
  (refine Next.drop (mkB 30 536740032) (by omega) (h1:= ?_) (h2:= ?_)<;>first | (simp only[go_sem,seval,reduceCtorEq,nz,na,n1,hm];first | done | rfl) | rfl | skip)
 ·have h1:¬ (k:Int)<L.length:=by omega
  have hm:mix (L.map (atT D)) (List.replicate L.length 0) k=L.map (atT D):=gQ (by simp;omega) (by simp;omega)
  simp(disch:=omega) only[go_sem,seval,reduceCtorEq,h1,hm]
  (refine zE ?_ ?_<;>try simp only[go_sem,seval,reduceCtorEq])
theorem zH {ts:List Ten} (h:ts.length≤1048576) (ht:∀ t∈ts,TSz 1048576 t) (hax:cM ts):
  Does Tryz.prog 34 [.d (tens ts)] [] (.tup [.agg (iv (dh ts).1),.d (.bool (dh ts).2)]) []:=by
 have hRl:=rO ts
 have htR:List.take 100 (dh ts).1=(dh ts).1:=zt (by omega)
 have hz:(aF ts 0 0).1=repI 100 0:=by rw[ni]
 have hdr:List.drop 100 (repI 100 0)=[]:=List.drop_of_length_le (by rw[kx];exact Nat.le_refl _)
 (refine spec_of (by kernel_rfl) Tryz.func34 vI (fnOk (nb rfl) ?_);unfold pd)
 (simp only[Nat.reduceSub,Zl,zn,Nat.reduceAdd,zF];try simp only[af]);(simp only[go_sem,seval,reduceCtorEq,List.replicate])
 refine bV (ts.length) (mkB 49 281474976707016) (fun k=>(aF ts k 0).2=true) (fun k=>[(11,.d (.int k))]) (fun k=>[(1,iv (aF ts k 0).1)]) (hi:=by rw[ni]) (h1:=by first | (simp only[go_sem,seval,reduceCtorEq,nz,na,n1,hz];first | done | rfl) | rfl) (h2:=by first | (simp only[go_sem,seval,reduceCtorEq,nz,na,n1,hz];first | done | rfl) | rfl) (hr:=fun k hk hi=> ?_)
 unfold nv
 by_cases hlt:k<ts.length
 ·have d1:(k:Int)<ts.length:=by omega
  have g:ts[k]? =some ts[k]:=zg hlt
  have g3:=fj g
  have hst:=ht ts[k] (List.getElem_mem hlt)
  have hat:=hax ts[k] (List.getElem_mem hlt)
  have hl:=hat.len
  have hstl:=hst.l.len
  simp(disch:=omega) only[go_sem,seval,reduceCtorEq,d1,g3]
  refine⟨by omega, ?_⟩
  refine bV (ts[k].labels.length) (mkB 49 140737487831432) (fun q=>(aF ts k q).2=true) (fun q=>[(18,.d (.int q))]) (fun q=>[(1,iv (aF ts k q).1)]) (hi:=hi) (h1:=by first | (simp only[go_sem,seval,reduceCtorEq,nz,na,n1];first | done | rfl) | rfl) (h2:=by first | (simp only[go_sem,seval,reduceCtorEq,nz,na,n1];first | done | rfl) | rfl) (hr:=fun q hq hiq=> ?_)
  unfold nH
  have hDl:=uY ts k q
  by_cases hltq:q<ts[k].labels.length
  ·have e1:(q:Int)<ts[k].labels.length:=by omega
   have e2:(q:Int)<ts[k].dims.length:=by omega
   have gq:ts[k].labels[q]? =some ts[k].labels[q]:=zg hltq
   have gd:ts[k].dims[q]? =some (ar ts[k] ts[k].labels[q]):=by rw[fK hat hltq (by omega)];exact zg (by omega)
   have hb:0≤ts[k].labels[q]∧ts[k].labels[q]≤99:=by
    have:=hat.2.2 q hltq
    unfold axAt at this
    rw[ab hltq]at this
    omega
   have c1:0≤ts[k].labels[q]:=hb.1
   have c2:ts[k].labels[q]<100:=by omega
   have ga:=tz hDl hb
   have hst:=sv hax hlt hltq hiq
   have htD:List.take 100 (aF ts k q).1=(aF ts k q).1:=zt (by omega)
   have fail:atT (aF ts k q).1 ts[k].labels[q]≠0∧atT (aF ts k q).1 ts[k].labels[q]≠ar ts[k] ts[k].labels[q]→dh ts=((aF ts k q).1,false):=fun hh=>by
    rw[if_pos hh]at hst
    rw[zG hlt (by rw[hst]),hst]
   have good:¬ (atT (aF ts k q).1 ts[k].labels[q]≠0∧atT (aF ts k q).1 ts[k].labels[q]≠ar ts[k] ts[k].labels[q])→aF ts k (q+1)=((aF ts k q).1.set ts[k].labels[q].toNat (ar ts[k] ts[k].labels[q]),true):=fun hh=>by
    rw[if_neg hh]at hst
    exact hst
   have hps:=cD (n:=ts[k].labels[q].toNat) (x:=ar ts[k] ts[k].labels[q]) (xs:=(aF ts k q).1) (by omega)
   have hsl:((aF ts k q).1.set ts[k].labels[q].toNat (ar ts[k] ts[k].labels[q])).length=100:=by rw[List.length_set];exact hDl
   by_cases ha:atT (aF ts k q).1 ts[k].labels[q]=0
   ·have b1:(atT (aF ts k q).1 ts[k].labels[q] !=0)=false:=by simp [ha]
    have hg:=good fun hh=>hh.1 ha
    simp(disch:=omega) only[go_sem,seval,reduceCtorEq,e1,e2,gq,gd,c1,c2,ga,b1]
    refine⟨by omega, ?_⟩
    have hI:(aF ts k (q+1)).2=true:=by rw[hg]
    (refine NextI.drop (mkB 49 140737487831432) (by omega) (hI) (h1:= ?_) (h2:= ?_)<;>first | (simp only[go_sem,seval,reduceCtorEq,nz,na,n1,hg,hps];first | done | rfl) | rfl | skip)
   ·have b1:(atT (aF ts k q).1 ts[k].labels[q] !=0)=true:=by simp [ha]
    by_cases hb2:atT (aF ts k q).1 ts[k].labels[q]=ar ts[k] ts[k].labels[q]
    ·have b2:(atT (aF ts k q).1 ts[k].labels[q] !=ar ts[k] ts[k].labels[q])=false:=by simp [hb2]
     have hg:=good fun hh=>hh.2 hb2
     simp(disch:=omega) only[go_sem,seval,reduceCtorEq,e1,e2,gq,gd,c1,c2,ga,b1,b2]
     refine⟨by omega, ?_⟩
     have hI:(aF ts k (q+1)).2=true:=by rw[hg]
     (refine NextI.drop (mkB 49 140737487831432) (by omega) (hI) (h1:= ?_) (h2:= ?_)<;>first | (simp only[go_sem,seval,reduceCtorEq,nz,na,n1,hg,hps];first | done | rfl) | rfl | skip)
    ·have b2:(atT (aF ts k q).1 ts[k].labels[q] !=ar ts[k] ts[k].labels[q])=true:=by simp [hb2]
     have hf:=fail ⟨ha,hb2⟩
     simp(disch:=omega) only[go_sem,seval,reduceCtorEq,e1,e2,gq,gd,c1,c2,ga,b1,b2,htD,hf,hdr]
     refine⟨by omega,by omega, ?_⟩
     (refine FnEnd.mk (r:=.tup [.agg (iv (aF ts k q).1),.d (.bool false)]) (nb rfl) (by simp only[resA,resL,r8,cvL,cv,go_sem,seval,reduceCtorEq,htD,hDl,Nat.le_refl]) (by first | exact zd rfl | simp only[go_sem,seval,reduceCtorEq,List.nodup_nil]) ?_ ?_<;>try simp only[go_sem,seval,reduceCtorEq,htD,hDl,Nat.le_refl])
  ·have e1:¬ (q:Int)<ts[k].labels.length:=by omega
   obtain rfl:q=ts[k].labels.length:=by omega
   have hd:=oP hax hlt
   simp(disch:=omega) only[go_sem,seval,reduceCtorEq,e1,hd]
   rw[hd]at hiq
   (refine NextI.drop (mkB 49 281474976707016) (by omega) (hiq) (h1:= ?_) (h2:= ?_)<;>first | (simp only[go_sem,seval,reduceCtorEq,nz,na,n1];first | done | rfl) | rfl | skip)
 ·have d1:¬ (k:Int)<ts.length:=by omega
  have hd:=uZ (ts:=ts) (k:=k) (by omega)
  rw[hd]at hi
  simp(disch:=omega) only[go_sem,seval,reduceCtorEq,d1,hd,htR,hi,hdr]
  refine⟨by omega,by omega, ?_⟩
  (refine FnEnd.mk (r:=.tup [.agg (iv (dh ts).1),.d (.bool true)]) (nb rfl) (by simp only[resA,resL,r8,cvL,cv,go_sem,seval,reduceCtorEq,htR,hRl,Nat.le_refl]) (by first | exact zd rfl | simp only[go_sem,seval,reduceCtorEq,List.nodup_nil]) ?_ ?_<;>try simp only[go_sem,seval,reduceCtorEq,htR,hRl,Nat.le_refl])
theorem BU (ts:List Ten) (k:Nat):(tcs ts).take (k*3)=tcs (ts.take k):=by
 induction ts generalizing k with
 | nil=>simp [tcs]
 | cons t l ih=>
  cases k with
  | zero=>simp [tcs]
  | succ k=>
   rw[tcs,show (k+1)*3=k*3+3 by omega]
   simp [tcs,ih]
theorem uj {ts:List Ten} {x:Int} (h:ts.length≤1048576) (ht:∀ t∈ts,TSz 1048576 t) (hax:cM ts):
  Does Tryz.prog 112 [.d (tens ts),.d (.int x)] [] (.d (.int (dimN ts x))) []:=by
 (refine spec_of (by kernel_rfl) Tryz.func112 vv (fnOk (nb rfl) ?_);unfold oT)
 (simp only[Nat.reduceSub,Zl,zn,Nat.reduceAdd,zF];try simp only[af]);(simp only[go_sem,seval,reduceCtorEq,List.replicate])
 have hI0:∀ t∈ts.take 0,x∉t.labels:=fun t ht=>by simp at ht
 refine bV (ts.length) (mkB 26 67107024) (fun k=>∀ t∈ts.take k,x∉t.labels) (fun k=>[(10,.d (.int k))]) (fun k=>[]) (hi:=hI0) (h1:=by first | (simp only[go_sem,seval,reduceCtorEq,nz,na,n1];first | done | rfl) | rfl) (h2:=by first | (simp only[go_sem,seval,reduceCtorEq,nz,na,n1];first | done | rfl) | rfl) (hr:=fun k hk hi=> ?_)
 unfold nA
 by_cases hlt:k<ts.length
 ·have d1:(k:Int)<ts.length:=by omega
  have g:ts[k]? =some ts[k]:=zg hlt
  have g3:=fj g
  have hst:=ht ts[k] (List.getElem_mem hlt)
  have hat:=hax ts[k] (List.getElem_mem hlt)
  simp(disch:=omega) only[go_sem,seval,reduceCtorEq,d1,g3]
  refine⟨by omega, ?_⟩
  (refine zC (gr (xs:=ts[k].labels) (x:=x) hst.l.up.len) ?_)
  by_cases hm:x∈ts[k].labels
  ·obtain⟨i,p1,p2,p3,p4⟩:=dB hat.len hm
   have c2:(i:Int)≥0:=by omega
   have c3:(i:Int)<ts[k].dims.length:=by omega
   have e:=AH hax hlt hi hm
   simp(disch:=omega) only[go_sem,seval,reduceCtorEq,p3,c2,c3,p4,e]
   (refine zE ?_ ?_<;>try simp only[go_sem,seval,reduceCtorEq])
  ·have c2:¬ bR ts[k].labels x≥0:=by have:=dZ.2 hm;omega
   have hI:∀ t∈ts.take (k+1),x∉t.labels:=fun t ht=>by
    rw[bb hlt]at ht
    rcases List.mem_append.1 ht with ht | ht
    ·exact hi t ht
    ·simp only[List.mem_singleton]at ht;subst ht;exact hm
   simp(disch:=omega) only[go_sem,seval,reduceCtorEq,c2]
   (refine NextI.drop (mkB 26 67107024) (by omega) (hI) (h1:= ?_) (h2:= ?_)<;>first | (simp only[go_sem,seval,reduceCtorEq,nz,na,n1];first | done | rfl) | rfl | skip)
 ·have d1:¬ (k:Int)<ts.length:=by omega
  have e:=rP (ts:=ts) (x:=x) (by rw[zt (by omega)]at hi;exact hi)
  simp(disch:=omega) only[go_sem,seval,reduceCtorEq,d1,e]
  (refine zE ?_ ?_<;>try simp only[go_sem,seval,reduceCtorEq])
theorem wm {ts:List Ten} {L:List Int} (h:ts.length≤1048576) (ht:∀ t∈ts,TSz 1048576 t) (hax:cM ts) (hL:L.length≤1048576):
  Does Tryz.prog 90 [.d (tens ts),.d (ints L)] [] (.own 0 0 L.length) [some ⟨1,true,iv (L.map (dimN ts))⟩]:=by
 (refine spec_of (by kernel_rfl) Tryz.func90 uk (fnOk (nb rfl) ?_);unfold nK)
 (simp only[Nat.reduceSub,Zl,zn,Nat.reduceAdd,zF];try simp only[af]);(simp only[go_sem,seval,reduceCtorEq,List.replicate])
 refine aN (L.length) (mkB 23 4190592) (fun k=>[(5,.own 0 0 k),(11,.d (.int k))]) (fun k=>[(0,iv ((L.take k).map (dimN ts)))]) (h1:=by first | (simp only[go_sem,seval,reduceCtorEq,nz,na,n1,List.take_zero,List.map_nil,bK];first | done | rfl) | rfl) (h2:=by first | (simp only[go_sem,seval,reduceCtorEq,nz,na,n1,List.take_zero,List.map_nil,bK];first | done | rfl) | rfl) (hr:=fun k hk=> ?_)
 unfold m7
 have hkl:((L.take k).map (dimN ts)).length=k:=by simp;omega
 by_cases hlt:k<L.length
 ·have h1:(k:Int)<L.length:=by omega
  have hx:L[k]? =some L[k]:=zg hlt
  have hm:(L.take (k+1)).map (dimN ts)=(L.take k).map (dimN ts)++[dimN ts L[k]]:=by rw[bb hlt,List.map_append,List.map_cons,List.map_nil]
  simp(disch:=omega) only[go_sem,seval,reduceCtorEq,h1,hx]
  (refine zC (uj (ts:=ts) (x:=L[k]) h ht hax) ?_)
  simp(disch:=omega) only[go_sem,seval,reduceCtorEq,hkl]
  refine⟨by omega, ?_⟩
  (refine Next.drop (mkB 23 4190592) (by omega) (h1:= ?_) (h2:= ?_)<;>first | (simp only[go_sem,seval,reduceCtorEq,nz,na,n1,hm];first | done | rfl) | rfl | skip)
 ·have h1:¬ (k:Int)<L.length:=by omega
  obtain rfl:k=L.length:=by omega
  simp(disch:=omega) only[go_sem,seval,reduceCtorEq,h1]
  (refine zE ?_ ?_<;>try simp only[go_sem,seval,reduceCtorEq])
theorem gg {N:Net} (h:NSz 1048576 N):Does Tryz.prog 41 [netA N] [] (.d (.bool (bn N))) []:=by
 (refine spec_of (by kernel_rfl) Tryz.func41 rB (fnOk (nb rfl) ?_);unfold l8)
 (simp only[Nat.reduceSub,Zl,zn,Nat.reduceAdd,zF];try simp only[af]);(simp only[go_sem,seval,reduceCtorEq,List.replicate])
 (refine zC (wy N.k N.p N.n) ?_)
 cases h1:ae ⟨N.k,N.p,N.n⟩
 ·have e:=d7 (N:=N) fun e=>by have:=e.1;rw[Net.rg,h1]at this;cases this
  simp only[go_sem,seval,reduceCtorEq,h1,e]
  (refine zE ?_ ?_<;>try simp only[go_sem,seval,reduceCtorEq])
 by_cases h2:N.ts.length≤12
 rotate_left
 ·have e:=d7 (N:=N) fun e=>h2 e.2.1
  have c2:(N.ts.length:Int)>12:=by omega
  simp only[go_sem,seval,reduceCtorEq,h1,c2,e]
  (refine zE ?_ ?_<;>try simp only[go_sem,seval,reduceCtorEq])
 have c2:¬ (N.ts.length:Int)>12:=by omega
 by_cases h3:N.os.length≤12
 rotate_left
 ·have e:=d7 (N:=N) fun e=>e.2.2.2.2 (tG (by omega))
  have c3:(N.os.length:Int)>12:=by omega
  simp only[go_sem,seval,reduceCtorEq,h1,c2,c3,e]
  (refine zE ?_ ?_<;>try simp only[go_sem,seval,reduceCtorEq])
 have c3:¬ (N.os.length:Int)>12:=by omega
 simp only[go_sem,seval,reduceCtorEq,h1,c2,c3]
 have hI0:eT N.rg (N.ts.take 0):=fun t ht=>by simp at ht
 refine bV (N.ts.length) (mkB 72 274341036052) (fun k=>eT N.rg (N.ts.take k)) (fun k=>[(28,.d (.int k))]) (fun k=>[]) (hi:=hI0) (h1:=by first | (simp only[go_sem,seval,reduceCtorEq,nz,na,n1];first | done | rfl) | rfl) (h2:=by first | (simp only[go_sem,seval,reduceCtorEq,nz,na,n1];first | done | rfl) | rfl) (hr:=fun k hk hi=> ?_)
 unfold jk
 by_cases hlt:k<N.ts.length
 ·have d1:(k:Int)<N.ts.length:=by omega
  have g:N.ts[k]? =some N.ts[k]:=zg hlt
  have g3:=fj g
  have hst:=h.t N.ts[k] (List.getElem_mem hlt)
  simp(disch:=omega) only[go_sem,seval,reduceCtorEq,d1,g3]
  refine⟨by omega, ?_⟩
  (refine zC (eg (t:=N.ts[k]) h.k h.p h.n hst.up) ?_)
  cases hto:aD ⟨N.k,N.p,N.n⟩ N.ts[k].labels N.ts[k].dims N.ts[k].data
  ·have e:=d7 (N:=N) fun e=>by have:=e.2.2.1 N.ts[k] (List.getElem_mem hlt);rw[Net.rg,hto]at this;cases this
   simp only[go_sem,seval,reduceCtorEq,hto,e]
   (refine zE ?_ ?_<;>try simp only[go_sem,seval,reduceCtorEq])
  ·have hI:eT N.rg (N.ts.take (k+1)):=fun t ht=>by
    rw[bb hlt]at ht
    rcases List.mem_append.1 ht with ht | ht
    ·exact hi t ht
    ·simp only[List.mem_singleton]at ht;subst ht;exact hto
   simp(disch:=omega) only[go_sem,seval,reduceCtorEq,hto]
   (refine NextI.drop (mkB 72 274341036052) (by omega) (hI) (h1:= ?_) (h2:= ?_)<;>first | (simp only[go_sem,seval,reduceCtorEq,nz,na,n1];first | done | rfl) | rfl | skip)
 have d1:¬ (k:Int)<N.ts.length:=by omega
 have hto:eT N.rg N.ts:=by rw[zt (by omega)]at hi;exact hi
 have hax:=hto.ax
 obtain⟨hc1,hc2⟩:=v6 hax
 have hRl:=rO N.ts
 have hdr:List.drop 100 (repI 100 0)=[]:=List.drop_of_length_le (by rw[kx];exact Nat.le_refl _)
 simp(disch:=omega) only[go_sem,seval,reduceCtorEq,d1]
 (refine zC (zH (ts:=N.ts) h.l h.t hax) ?_)
 simp(disch:=omega) only[go_sem,seval,reduceCtorEq,hdr]
 refine⟨by omega, ?_⟩
 cases hok:(dh N.ts).2
 ·have e:=d7 (N:=N) fun e=>by have:=hc1.2 e.2.2.2.1;rw[hok]at this;cases this
  simp only[go_sem,seval,reduceCtorEq,hok,e]
  (refine zE ?_ ?_<;>try simp only[go_sem,seval,reduceCtorEq])
 have hat:=hc2 hok
 have hcons:=hc1.1 hok
 simp only[go_sem,seval,reduceCtorEq,hok]
 have hJ0:∀ j (hj:j<N.os.length),j<0→0≤N.os[j]∧N.os[j]≤99∧dimN N.ts N.os[j]≠0:=fun j _ hj=>absurd hj (Nat.not_lt_zero j)
 have htR:List.take 100 (dh N.ts).1=(dh N.ts).1:=zt (by omega)
 refine bV (N.os.length) (mkB 72 73785850394931364100) (fun q=>∀ j (hj:j<N.os.length),j<q→0≤N.os[j]∧N.os[j]≤99∧dimN N.ts N.os[j]≠0) (fun q=>[(49,.d (.int q))]) (fun q=>[]) (hi:=hJ0) (h1:=by first | (simp only[go_sem,seval,reduceCtorEq,nz,na,n1];first | done | rfl) | rfl) (h2:=by first | (simp only[go_sem,seval,reduceCtorEq,nz,na,n1];first | done | rfl) | rfl) (hr:=fun q hq hiq=> ?_)
 unfold jw
 by_cases hltq:q<N.os.length
 ·have e1:(q:Int)<N.os.length:=by omega
  have g:N.os[q]? =some N.os[q]:=zg hltq
  have bad:¬ (0≤N.os[q]∧N.os[q]≤99∧dimN N.ts N.os[q]≠0)→bn N=false:=fun hb=>d7 fun e=>e.2.2.2.2 (zT q hltq hb hax)
  by_cases b1:N.os[q]<0
  ·have e:=bad fun e=>by omega
   simp(disch:=omega) only[go_sem,seval,reduceCtorEq,e1,g,b1,e]
   (refine zE ?_ ?_<;>try simp only[go_sem,seval,reduceCtorEq])
  by_cases b2:N.os[q]>99
  ·have e:=bad fun e=>by omega
   simp(disch:=omega) only[go_sem,seval,reduceCtorEq,e1,g,b1,b2,e]
   (refine zE ?_ ?_<;>try simp only[go_sem,seval,reduceCtorEq])
  have hb:0≤N.os[q]∧N.os[q]≤99:=by omega
  have ga:=tz hRl hb
  rw[hat _ hb]at ga
  have c1:0≤N.os[q]:=hb.1
  have c2:N.os[q]<100:=by omega
  by_cases b3:dimN N.ts N.os[q]=0
  ·have e:=bad fun e=>e.2.2 b3
   have b3':(dimN N.ts N.os[q]==0)=true:=by simp [b3]
   simp(disch:=omega) only[go_sem,seval,reduceCtorEq,e1,g,b1,b2,c1,c2,ga,b3',e]
   (refine zE ?_ ?_<;>try simp only[go_sem,seval,reduceCtorEq])
  ·have b3':(dimN N.ts N.os[q]==0)=false:=by simp [b3]
   have hI:∀ j (hj:j<N.os.length),j<q+1→0≤N.os[j]∧N.os[j]≤99∧dimN N.ts N.os[j]≠0:=fun j hj hjq=>by
    by_cases e:j=q
    ·subst e;exact⟨hb.1,hb.2,b3⟩
    ·exact hiq j hj (by omega)
   simp(disch:=omega) only[go_sem,seval,reduceCtorEq,e1,g,b1,b2,c1,c2,ga,b3']
   (refine NextI.drop (mkB 72 73785850394931364100) (by omega) (hI) (h1:= ?_) (h2:= ?_)<;>first | (simp only[go_sem,seval,reduceCtorEq,nz,na,n1];first | done | rfl) | rfl | skip)
 have e1:¬ (q:Int)<N.os.length:=by omega
 have hosb:∀ x∈N.os,0≤x∧x≤99:=fun x hx=>by
  obtain⟨j,hj,rfl⟩:=List.getElem_of_mem hx
  have:=hiq j hj (by omega)
  omega
 have hmap:N.os.map (atT (dh N.ts).1)=N.os.map (dimN N.ts):=List.map_congr_left fun x hx=>hat x (hosb x hx)
 have hml:(N.os.map (dimN N.ts)).length=N.os.length:=by simp
 have htt:List.take N.os.length (N.os.map (dimN N.ts))=N.os.map (dimN N.ts):=zt (by omega)
 have hdsz:Sz 1048576 (N.os.map (dimN N.ts)):=⟨by omega,fun d hd=>by
  obtain⟨x,_,rfl⟩:=List.mem_map.1 hd
  have:=jc hax x
  exact⟨by omega,by omega⟩⟩
 have hfin:bn N=(aU N.os (N.os.map (dimN N.ts)) != -1):=by
  by_cases e:aU N.os (N.os.map (dimN N.ts))= -1
  ·rw[d7 fun hh=>hh.2.2.2.2 e,e];rfl
  ·rw[ay.2 ⟨h1,h2,hto,hcons,e⟩];simp [e]
 simp(disch:=omega) only[go_sem,seval,reduceCtorEq,e1,htR,hRl]
 (refine zC (FE (D:=(dh N.ts).1) (L:=N.os) hRl h.o.len hosb) ?_)
 rw[hmap]
 simp(disch:=omega) only[go_sem,seval,reduceCtorEq]
 (refine aV (ko (t:=⟨N.os,N.os.map (dimN N.ts),[]⟩) ⟨h.o.up,hdsz.up,⟨by simp,by simp⟩⟩) ?_ ?_ ?_;(focus (simp only[go_sem,seval,reduceCtorEq,hml,htt];done));(first | rfl | (focus (simp only[go_sem];done))))
 simp(disch:=omega) only[go_sem,seval,reduceCtorEq,hfin]
 (refine zE ?_ ?_<;>try simp only[go_sem,seval,reduceCtorEq])
theorem xf {N:Net} (h:NSz 1048576 N):Does Tryz.prog 89 [netA N] [] (.d (.bool (bn N))) []:=by
 have hhl:=h.l
 (refine spec_of (by kernel_rfl) Tryz.func89 rr (fnOk (nb rfl) ?_);unfold kY)
 (simp only[Nat.reduceSub,Zl,zn,Nat.reduceAdd,zF];try simp only[af]);(simp only[go_sem,seval,reduceCtorEq,List.replicate])
 (refine zC (vW N.k N.p N.n) ?_)
 cases h1:ae ⟨N.k,N.p,N.n⟩
 ·have e:=d7 (N:=N) fun e=>by have:=e.1;rw[Net.rg,h1]at this;cases this
  simp only[go_sem,seval,reduceCtorEq,h1,e]
  (refine zE ?_ ?_<;>try simp only[go_sem,seval,reduceCtorEq])
 by_cases h2:N.ts.length≤12
 rotate_left
 ·have e:=d7 (N:=N) fun e=>h2 e.2.1
  have c2:(N.ts.length:Int)>12:=by omega
  simp only[go_sem,seval,reduceCtorEq,h1,c2,e]
  (refine zE ?_ ?_<;>try simp only[go_sem,seval,reduceCtorEq])
 have c2:¬ (N.ts.length:Int)>12:=by omega
 simp only[go_sem,seval,reduceCtorEq,h1,c2]
 have hI0:eT N.rg (N.ts.take 0)∧∀ j,j<0→wR N.ts j:=⟨fun t ht=>by simp at ht,fun j hj=>absurd hj (Nat.not_lt_zero j)⟩
 refine bV (N.ts.length) (mkB 68 288230376147517692) (fun k=>eT N.rg (N.ts.take k)∧∀ j,j<k→wR N.ts j) (fun k=>[(21,.d (.int k))]) (fun k=>[]) (hi:=hI0) (h1:=by first | (simp only[go_sem,seval,reduceCtorEq,nz,na,n1];first | done | rfl) | rfl) (h2:=by first | (simp only[go_sem,seval,reduceCtorEq,nz,na,n1];first | done | rfl) | rfl) (hr:=fun k hk hi=> ?_)
 unfold ji
 obtain⟨hi,hcs⟩:=hi
 by_cases hlt:k<N.ts.length
 ·have d1:(k:Int)<N.ts.length:=by omega
  have d3:(k:Int)≤N.ts.length:=by omega
  have g:N.ts[k]? =some N.ts[k]:=zg hlt
  have g3:=fj g
  have hst:=h.t N.ts[k] (List.getElem_mem hlt)
  have hpre:=hi.ax
  have htk:(N.ts.take k).length=k:=by simp;omega
  have htt:∀ t∈N.ts.take k,TSz 1048576 t:=fun t ht=>h.t t (List.mem_of_mem_take ht)
  simp(disch:=omega) only[go_sem,seval,reduceCtorEq,d1,g3]
  refine⟨by omega, ?_⟩
  (refine zC (yf (t:=N.ts[k]) h.k h.p h.n hst.up) ?_)
  cases hto:aD ⟨N.k,N.p,N.n⟩ N.ts[k].labels N.ts[k].dims N.ts[k].data
  ·have e:=d7 (N:=N) fun e=>by have:=e.2.2.1 N.ts[k] (List.getElem_mem hlt);rw[Net.rg,hto]at this;cases this
   simp only[go_sem,seval,reduceCtorEq,hto,e]
   (refine zE ?_ ?_<;>try simp only[go_sem,seval,reduceCtorEq])
  have hat:=(cF hto).2.1
  have hl:=hat.len
  have hstl:=hst.l.len
  simp(disch:=omega) only[go_sem,seval,reduceCtorEq,hto]
  have hJ0:∀ x∈N.ts[k].labels.take 0,dimN (N.ts.take k) x=0∨dimN (N.ts.take k) x=ar N.ts[k] x:=fun x hx=>by simp at hx
  refine bV (N.ts[k].labels.length) (mkB 68 144115153716117732) (fun q=>∀ x∈N.ts[k].labels.take q,dimN (N.ts.take k) x=0∨dimN (N.ts.take k) x=ar N.ts[k] x) (fun q=>[(34,.d (.int q))]) (fun q=>[]) (hi:=hJ0) (h1:=by first | (simp only[go_sem,seval,reduceCtorEq,nz,na,n1];first | done | rfl) | rfl) (h2:=by first | (simp only[go_sem,seval,reduceCtorEq,nz,na,n1];first | done | rfl) | rfl) (hr:=fun q hq hiq=> ?_)
  unfold jq
  by_cases hltq:q<N.ts[k].labels.length
  ·have e1:(q:Int)<N.ts[k].labels.length:=by omega
   have e2:(q:Int)<N.ts[k].dims.length:=by omega
   have gq:N.ts[k].labels[q]? =some N.ts[k].labels[q]:=zg hltq
   have gd:N.ts[k].dims[q]? =some (ar N.ts[k] N.ts[k].labels[q]):=by rw[fK hat hltq (by omega)];exact zg (by omega)
   have bad:¬ (dimN (N.ts.take k) N.ts[k].labels[q]=0∨dimN (N.ts.take k) N.ts[k].labels[q]=ar N.ts[k] N.ts[k].labels[q])→bn N=false:=fun hb=>d7 fun e=>hb (e.2.2.2.1 k hlt _ hlt (List.getElem_mem hltq))
   have good:(dimN (N.ts.take k) N.ts[k].labels[q]=0∨dimN (N.ts.take k) N.ts[k].labels[q]=ar N.ts[k] N.ts[k].labels[q])→∀ x∈N.ts[k].labels.take (q+1),dimN (N.ts.take k) x=0∨dimN (N.ts.take k) x=ar N.ts[k] x:=fun hb x hx=>by
    rw[bb hltq]at hx
    rcases List.mem_append.1 hx with hx | hx
    ·exact hiq x hx
    ·simp only[List.mem_singleton]at hx;subst hx;exact hb
   simp(disch:=omega) only[go_sem,seval,reduceCtorEq,e1,gq,d3]
   simp only[true_or,Int.sub_zero,Int.toNat_natCast,go_sem,seval,reduceCtorEq]
   (refine aV (uj (ts:=N.ts.take k) (x:=N.ts[k].labels[q]) (by omega) htt hpre) ?_ ?_ ?_;(focus (simp only[go_sem,seval,reduceCtorEq,htk,BU];done));(first | rfl | (focus (simp only[go_sem];done))))
   have hbd:=jc hpre N.ts[k].labels[q]
   by_cases ha:dimN (N.ts.take k) N.ts[k].labels[q]=0
   ·have b1:¬ dimN (N.ts.take k) N.ts[k].labels[q]>0:=by omega
    have hI:=good (.inl ha)
    simp(disch:=omega) only[go_sem,seval,reduceCtorEq,b1]
    (refine NextI.drop (mkB 68 144115153716117732) (by omega) (hI) (h1:= ?_) (h2:= ?_)<;>first | (simp only[go_sem,seval,reduceCtorEq,nz,na,n1];first | done | rfl) | rfl | skip)
   ·have b1:dimN (N.ts.take k) N.ts[k].labels[q]>0:=by omega
    by_cases hb2:dimN (N.ts.take k) N.ts[k].labels[q]=ar N.ts[k] N.ts[k].labels[q]
    ·have b2:(dimN (N.ts.take k) N.ts[k].labels[q] !=ar N.ts[k] N.ts[k].labels[q])=false:=by simp [hb2]
     have hI:=good (.inr hb2)
     simp(disch:=omega) only[go_sem,seval,reduceCtorEq,b1,b2,e2,gd]
     (refine NextI.drop (mkB 68 144115153716117732) (by omega) (hI) (h1:= ?_) (h2:= ?_)<;>first | (simp only[go_sem,seval,reduceCtorEq,nz,na,n1];first | done | rfl) | rfl | skip)
    ·have b2:(dimN (N.ts.take k) N.ts[k].labels[q] !=ar N.ts[k] N.ts[k].labels[q])=true:=by simp [hb2]
     have e:=bad fun hh=>hh.elim ha hb2
     simp(disch:=omega) only[go_sem,seval,reduceCtorEq,b1,b2,e2,gd,e]
     (refine zE ?_ ?_<;>try simp only[go_sem,seval,reduceCtorEq])
  ·have e1:¬ (q:Int)<N.ts[k].labels.length:=by omega
   obtain rfl:q=N.ts[k].labels.length:=by omega
   rw[List.take_length]at hiq
   have hI:eT N.rg (N.ts.take (k+1))∧∀ j,j<k+1→wR N.ts j:=⟨fun t ht=>by
    rw[bb hlt]at ht
    rcases List.mem_append.1 ht with ht | ht
    ·exact hi t ht
    ·simp only[List.mem_singleton]at ht;subst ht;exact hto,fun j hj=>by
    by_cases e:j=k
    ·subst e;exact fun x _ hx=>hiq x hx
    ·exact hcs j (by omega)⟩
   simp(disch:=omega) only[go_sem,seval,reduceCtorEq,e1]
   (refine NextI.drop (mkB 68 288230376147517692) (by omega) (hI) (h1:= ?_) (h2:= ?_)<;>first | (simp only[go_sem,seval,reduceCtorEq,nz,na,n1];first | done | rfl) | rfl | skip)
 have d1:¬ (k:Int)<N.ts.length:=by omega
 have hto:eT N.rg N.ts:=by rw[zt (by omega)]at hi;exact hi
 have hax:=hto.ax
 have hcons:wS N.ts:=fun j hj=>hcs j (by omega)
 have hml:(N.os.map (dimN N.ts)).length=N.os.length:=by simp
 have htt:List.take N.os.length (N.os.map (dimN N.ts))=N.os.map (dimN N.ts):=zt (by omega)
 have hdsz:Sz 1048576 (N.os.map (dimN N.ts)):=⟨by have:=h.o.len;omega,fun d hd=>by
  obtain⟨x,_,rfl⟩:=List.mem_map.1 hd
  have:=jc hax x
  exact⟨by omega,by omega⟩⟩
 have hfin:bn N=decide (aU N.os (N.os.map (dimN N.ts))≥0):=by
  by_cases e:aU N.os (N.os.map (dimN N.ts))= -1
  ·rw[d7 fun hh=>hh.2.2.2.2 e,e];rfl
  ·rw[ay.2 ⟨h1,h2,hto,hcons,e⟩]
   rcases cQ N.os (N.os.map (dimN N.ts))with e' | ⟨_,_,e',_⟩
   ·exact absurd e' e
   ·exact(decide_eq_true (by omega)).symm
 simp(disch:=omega) only[go_sem,seval,reduceCtorEq,d1]
 (refine zD (wm (ts:=N.ts) (L:=N.os) h.l h.t hax h.o.len) ?_)
 simp(disch:=omega) only[go_sem,seval,reduceCtorEq]
 (refine aV (oL (t:=⟨N.os,N.os.map (dimN N.ts),[]⟩) ⟨h.o.up,hdsz.up,⟨by simp,by simp⟩⟩) ?_ ?_ ?_;(focus (simp only[go_sem,seval,reduceCtorEq,hml,htt];done));(first | rfl | (focus (simp only[go_sem];done))))
 simp(disch:=omega) only[go_sem,seval,reduceCtorEq,hfin]
 (refine zE ?_ ?_<;>try simp only[go_sem,seval,reduceCtorEq])
set_option maxRecDepth 100000
def am (p:Nat→Bool) (n:Nat):List Int:=((List.range n).filter p).map fun (i:Nat)=>(i:Int)
theorem iQ (p:Nat→Bool):am p 0=[]:=rfl
theorem u5 {p:Nat→Bool} {k:Nat} (h:p k=true):am p (k+1)=am p k++[(k:Int)]:=by simp [am,List.range_succ,h]
theorem w7 {p:Nat→Bool} {k:Nat} (h:p k=false):am p (k+1)=am p k:=by simp [am,List.range_succ,h]
theorem cW (p:Nat→Bool) (k:Nat):(am p k).length≤k:=by
 rw[am,List.length_map]
 exact Nat.le_trans (List.length_filter_le _ _) (by simp)
theorem u6 {p:Nat→Bool} {n:Nat} {x:Int} (h:x∈am p n):∃ i:Nat,i<n∧p i=true∧x=i:=by
 simp only[am,List.mem_map,List.mem_filter,List.mem_range]at h
 obtain⟨i,⟨h1,h2⟩,rfl⟩:=h
 exact⟨i,h1,h2,rfl⟩
theorem Cf (p:Nat→Bool) {n:Nat} (h:n≤1048576):Sz 1048576 (am p n):=⟨Nat.le_trans (cW p n) h,fun x hx=>by
 obtain⟨i,h1,_,rfl⟩:=u6 hx
 exact⟨by omega,by omega⟩⟩
def labP (ts:List Ten) (i:Nat):Bool:=dimN ts i !=0
noncomputable def aj (N:Net):List Int:=if bn N=true then am (labP N.ts) 100 else []
theorem pw (N:Net):Sz 1048576 (aj N):=by
 unfold aj
 split
 ·exact Cf _ (by omega)
 ·exact⟨by simp,by simp⟩
theorem yH {D:List Int} {ts:List Ten} (hD:D.length=100) (hat:∀ x,0≤x∧x≤99→atT D x=dimN ts x):
  Does Tryz.prog 65 [.agg (iv D)] [] (.own 0 0 (am (labP ts) 100).length) [some ⟨1,true,iv (am (labP ts) 100)⟩]:=by
 have htD:List.take 100 D=D:=zt (by omega)
 (refine spec_of (by kernel_rfl) Tryz.func65 ry (fnOk (nb rfl) ?_);unfold l5)
 (simp only[Nat.reduceSub,Zl,zn,Nat.reduceAdd,zF];try simp only[af]);(simp only[go_sem,seval,reduceCtorEq,List.replicate,hD,htD])
 (refine dr (Wk.nilE 3 1 _ _ rfl) ?_;simp only[go_sem,seval,reduceCtorEq])
 refine aN (100) (mkB 19 261936) (fun k=>[(3,.own 1 0 (am (labP ts) k).length),(7,.d (.int k))]) (fun k=>[(1,iv (am (labP ts) k))]) (h1:=by first | (simp only[go_sem,seval,reduceCtorEq,nz,na,n1,iQ,bK];first | done | rfl) | rfl) (h2:=by first | (simp only[go_sem,seval,reduceCtorEq,nz,na,n1,iQ,bK];first | done | rfl) | rfl) (hr:=fun k hk=> ?_)
 unfold ju
 have hpl:=cW (labP ts) k
 by_cases hlt:k<100
 ·have d1:(k:Int)<100:=by omega
  have g:D[k]? =some (dimN ts k):=by
   have:=tz hD (x:=k) (by omega)
   rw[hat _ (by omega)]at this
   simpa using this
  cases hp:labP ts k
  ·have c:(dimN ts k !=0)=false:=hp
   simp(disch:=omega) only[go_sem,seval,reduceCtorEq,d1,g,c]
   (refine Next.drop (mkB 19 261936) (by omega) (h1:= ?_) (h2:= ?_)<;>first | (simp only[go_sem,seval,reduceCtorEq,nz,na,n1,w7 hp];first | done | rfl) | rfl | skip)
  ·have c:(dimN ts k !=0)=true:=hp
   simp(disch:=omega) only[go_sem,seval,reduceCtorEq,d1,g,c]
   refine⟨by omega, ?_⟩
   (refine Next.drop (mkB 19 261936) (by omega) (h1:= ?_) (h2:= ?_)<;>first | (simp only[go_sem,seval,reduceCtorEq,nz,na,n1,u5 hp,List.length_append];first | done | rfl) | rfl | skip)
 ·have d1:¬ (k:Int)<100:=by omega
  obtain rfl:k=100:=by omega
  simp(disch:=omega) only[go_sem,seval,reduceCtorEq,d1]
  (refine zE ?_ ?_<;>try simp only[go_sem,seval,reduceCtorEq])
theorem sq {N:Net} (h:NSz 1048576 N):Does Tryz.prog 22 [netA N] [] (.own 0 0 (aj N).length) [some ⟨1,true,iv (aj N)⟩]:=by
 (refine spec_of (by kernel_rfl) Tryz.func22 sR (fnOk (nb rfl) ?_);unfold mA)
 (simp only[Nat.reduceSub,Zl,zn,Nat.reduceAdd,zF];try simp only[af]);(simp only[go_sem,seval,reduceCtorEq,List.replicate])
 (refine zC (gg h) ?_)
 cases h1:bn N
 ·have e:aj N=[]:=by simp [aj,h1]
  simp only[go_sem,seval,reduceCtorEq,h1,e]
  refine FnEnd.wk (Wk.nilE 2 1 _ _ rfl) ?_
  (refine zE ?_ ?_<;>try simp only[go_sem,seval,reduceCtorEq])
 have e:aj N=am (labP N.ts) 100:=by simp [aj,h1]
 have hax:=bS h1
 have hok:=(v6 hax).1.2 (ay.1 h1).2.2.2.1
 have hat:=(v6 hax).2 hok
 have hRl:=rO N.ts
 have htR:List.take 100 (dh N.ts).1=(dh N.ts).1:=zt (by omega)
 have hdr:List.drop 100 (repI 100 0)=[]:=List.drop_of_length_le (by rw[kx];exact Nat.le_refl _)
 simp only[go_sem,seval,reduceCtorEq,h1]
 (refine zC (zH (ts:=N.ts) h.l h.t hax) ?_)
 simp(disch:=omega) only[go_sem,seval,reduceCtorEq,hdr,hRl,htR]
 (refine zC (yH hRl hat) ?_)
 simp only[go_sem,seval,reduceCtorEq,e]
 (refine zE ?_ ?_<;>try simp only[go_sem,seval,reduceCtorEq])
theorem mQ {ts:List Ten} (h:ts.length≤1048576) (ht:∀ t∈ts,TSz 1048576 t) (hax:cM ts):Does Tryz.prog 70 [.d (tens ts)] [] (.own 0 0 (am (labP ts) 100).length) [some ⟨1,true,iv (am (labP ts) 100)⟩]:=by
 (refine spec_of (by kernel_rfl) Tryz.func70 rp (fnOk (nb rfl) ?_);unfold kW)
 (simp only[Nat.reduceSub,Zl,zn,Nat.reduceAdd,zF];try simp only[af]);(simp only[go_sem,seval,reduceCtorEq,List.replicate])
 refine aN (100) (mkB 19 262112) (fun k=>[(3,.own 0 0 (am (labP ts) k).length),(4,.d (.int k))]) (fun k=>[(0,iv (am (labP ts) k))]) (h1:=by first | (simp only[go_sem,seval,reduceCtorEq,nz,na,n1,iQ,bK];first | done | rfl) | rfl) (h2:=by first | (simp only[go_sem,seval,reduceCtorEq,nz,na,n1,iQ,bK];first | done | rfl) | rfl) (hr:=fun k hk=> ?_)
 unfold jo
 have hpl:=cW (labP ts) k
 have hbd:=jc hax k
 by_cases hlt:k<100
 ·have d1:(k:Int)≤99:=by omega
  simp(disch:=omega) only[go_sem,seval,reduceCtorEq,d1]
  (refine zC (uj (ts:=ts) (x:=k) h ht hax) ?_)
  cases hp:labP ts k
  ·have c':dimN ts k=0:=by simpa [labP]using hp
   have c:¬ dimN ts k>0:=by omega
   simp(disch:=omega) only[go_sem,seval,reduceCtorEq,c]
   (refine Next.drop (mkB 19 262112) (by omega) (h1:= ?_) (h2:= ?_)<;>first | (simp only[go_sem,seval,reduceCtorEq,nz,na,n1,w7 hp];first | done | rfl) | rfl | skip)
  ·have c':dimN ts k≠0:=by simpa [labP]using hp
   have c:dimN ts k>0:=by omega
   simp(disch:=omega) only[go_sem,seval,reduceCtorEq,c]
   refine⟨by omega, ?_⟩
   (refine Next.drop (mkB 19 262112) (by omega) (h1:= ?_) (h2:= ?_)<;>first | (simp only[go_sem,seval,reduceCtorEq,nz,na,n1,u5 hp,List.length_append];first | done | rfl) | rfl | skip)
 ·have d1:¬ (k:Int)≤99:=by omega
  obtain rfl:k=100:=by omega
  simp(disch:=omega) only[go_sem,seval,reduceCtorEq,d1]
  (refine zE ?_ ?_<;>try simp only[go_sem,seval,reduceCtorEq])
set_option maxRecDepth 100000
noncomputable def aX (N:Net):List Int:=wol (aj N) N.os
theorem vf (N:Net):Sz 1048576 (aX N):=by
 have h:=pw N
 exact⟨Nat.le_trans (sW _ _) h.len,fun x hx=>h.wf x (AS.1 hx).1⟩
theorem sU {N:Net} (h:NSz 1048576 N):Does Tryz.prog 105 [netA N] [] (.own 0 0 (aX N).length) [some ⟨1,true,iv (aX N)⟩]:=by
 have hl:=(pw N).len
 have hol:=h.o.len
 have htl:List.take (aj N).length (aj N)=aj N:=List.take_length
 (refine spec_of (by kernel_rfl) Tryz.func105 oH (fnOk (nb rfl) ?_);unfold ge)
 (simp only[Nat.reduceSub,Zl,zn,Nat.reduceAdd,zF];try simp only[af]);(simp only[go_sem,seval,reduceCtorEq,List.replicate])
 (refine zC (sq h) ?_)
 simp only[go_sem,seval,reduceCtorEq]
 (refine dr (Wk.nilE 3 1 _ _ rfl) ?_;simp only[go_sem,seval,reduceCtorEq])
 refine aN ((aj N).length) (mkB 24 8387616) (fun k=>[(3,.own 2 0 (wol ((aj N).take k) N.os).length),(9,.d (.int k))]) (fun k=>[(2,iv (wol ((aj N).take k) N.os))]) (h1:=by first | (simp only[go_sem,seval,reduceCtorEq,nz,na,n1,List.take_zero,wol,List.filter_nil,bK];first | done | rfl) | rfl) (h2:=by first | (simp only[go_sem,seval,reduceCtorEq,nz,na,n1,List.take_zero,wol,List.filter_nil,bK];first | done | rfl) | rfl) (hr:=fun k hk=> ?_)
 unfold fR
 have hwl:=sW ((aj N).take k) N.os
 have htk:((aj N).take k).length≤(aj N).length:=by rw[List.length_take];omega
 by_cases hlt:k<(aj N).length
 ·have d1:(k:Int)<(aj N).length:=by omega
  have g:(aj N)[k]? =some (aj N)[k]:=zg hlt
  simp(disch:=omega) only[go_sem,seval,reduceCtorEq,d1,g]
  (refine zC (cm (xs:=N.os) (x:=(aj N)[k]) (by omega)) ?_)
  cases he:has N.os (aj N)[k]
  ·have e:wol ((aj N).take (k+1)) N.os=wol ((aj N).take k) N.os++[(aj N)[k]]:=gY (p:=fun x=> !has N.os x) hlt (by rw[he];rfl)
   simp(disch:=omega) only[go_sem,seval,reduceCtorEq,he]
   refine⟨by omega, ?_⟩
   (refine Next.drop (mkB 24 8387616) (by omega) (h1:= ?_) (h2:= ?_)<;>first | (simp only[go_sem,seval,reduceCtorEq,nz,na,n1,e,List.length_append];first | done | rfl) | rfl | skip)
  ·have e:wol ((aj N).take (k+1)) N.os=wol ((aj N).take k) N.os:=kJ (p:=fun x=> !has N.os x) hlt (by rw[he];rfl)
   simp(disch:=omega) only[go_sem,seval,reduceCtorEq,he]
   (refine Next.drop (mkB 24 8387616) (by omega) (h1:= ?_) (h2:= ?_)<;>first | (simp only[go_sem,seval,reduceCtorEq,nz,na,n1,e];first | done | rfl) | rfl | skip)
 ·have d1:¬ (k:Int)<(aj N).length:=by omega
  have htq:List.take k (aj N)=aj N:=zt (by omega)
  simp(disch:=omega) only[go_sem,seval,reduceCtorEq,d1,htq]
  (refine zE ?_ ?_<;>try simp only[go_sem,seval,reduceCtorEq])
  all_goals rfl
theorem yP {N:Net} (h:NSz 1048576 N) (h1:bn N=true):Does Tryz.prog 51 [netA N] [] (.own 0 0 (aX N).length) [some ⟨1,true,iv (aX N)⟩]:=by
 have hl:=(pw N).len
 have hol:=h.o.len
 have hlab:aj N=am (labP N.ts) 100:=by simp [aj,h1]
 (refine spec_of (by kernel_rfl) Tryz.func51 rm (fnOk (nb rfl) ?_);unfold kU)
 (simp only[Nat.reduceSub,Zl,zn,Nat.reduceAdd,zF];try simp only[af]);(simp only[go_sem,seval,reduceCtorEq,List.replicate])
 (refine zC (mQ (ts:=N.ts) h.l h.t (bS h1)) ?_)
 rw[← hlab]
 simp only[go_sem,seval,reduceCtorEq]
 refine aN ((aj N).length) (mkB 26 33550432) (fun k=>[(3,.own 1 0 (wol ((aj N).take k) N.os).length),(11,.d (.int k))]) (fun k=>[(1,iv (wol ((aj N).take k) N.os))]) (h1:=by first | (simp only[go_sem,seval,reduceCtorEq,nz,na,n1,List.take_zero,wol,List.filter_nil,bK];first | done | rfl) | rfl) (h2:=by first | (simp only[go_sem,seval,reduceCtorEq,nz,na,n1,List.take_zero,wol,List.filter_nil,bK];first | done | rfl) | rfl) (hr:=fun k hk=> ?_)
 unfold jm
 have hwl:=sW ((aj N).take k) N.os
 have htk:((aj N).take k).length≤(aj N).length:=by rw[List.length_take];omega
 by_cases hlt:k<(aj N).length
 ·have d1:(k:Int)<(aj N).length:=by omega
  have g:(aj N)[k]? =some (aj N)[k]:=zg hlt
  simp(disch:=omega) only[go_sem,seval,reduceCtorEq,d1,g]
  (refine zC (gr (xs:=N.os) (x:=(aj N)[k]) (by omega)) ?_)
  by_cases he:(aj N)[k]∈N.os
  ·have c:¬ bR N.os (aj N)[k]<0:=fun e=>dZ.1 e he
   have e:wol ((aj N).take (k+1)) N.os=wol ((aj N).take k) N.os:=kJ (p:=fun x=> !has N.os x) hlt (by rw[az.2 he];rfl)
   simp(disch:=omega) only[go_sem,seval,reduceCtorEq,c]
   (refine Next.drop (mkB 26 33550432) (by omega) (h1:= ?_) (h2:= ?_)<;>first | (simp only[go_sem,seval,reduceCtorEq,nz,na,n1,e];first | done | rfl) | rfl | skip)
  ·have c:bR N.os (aj N)[k]<0:=dZ.2 he
   have e:wol ((aj N).take (k+1)) N.os=wol ((aj N).take k) N.os++[(aj N)[k]]:=gY (p:=fun x=> !has N.os x) hlt (by rw[aT.2 he];rfl)
   simp(disch:=omega) only[go_sem,seval,reduceCtorEq,c]
   refine⟨by omega, ?_⟩
   (refine Next.drop (mkB 26 33550432) (by omega) (h1:= ?_) (h2:= ?_)<;>first | (simp only[go_sem,seval,reduceCtorEq,nz,na,n1,e,List.length_append];first | done | rfl) | rfl | skip)
 ·have d1:¬ (k:Int)<(aj N).length:=by omega
  have htq:List.take k (aj N)=aj N:=zt (by omega)
  simp(disch:=omega) only[go_sem,seval,reduceCtorEq,d1,htq]
  (refine zE ?_ ?_<;>try simp only[go_sem,seval,reduceCtorEq])
  all_goals rfl
noncomputable def eM (N:Net) (L:List Int):Bool:=bn N&&lV (aX N) L
theorem kF {N:Net} {L:List Int} (h:NSz 1048576 N) (hL:Sz 1048576 L):Does Tryz.prog 52 [netA N,.d (ints L)] [] (.d (.bool (eM N L))) []:=by
 have hl:=(vf N).len
 (refine spec_of (by kernel_rfl) Tryz.func52 mX (fnOk (nb rfl) ?_);unfold fU)
 (simp only[Nat.reduceSub,Zl,zn,Nat.reduceAdd,zF];try simp only[af]);(simp only[go_sem,seval,reduceCtorEq,List.replicate])
 (refine zC (gg h) ?_)
 cases h1:bn N
 ·have e:eM N L=false:=by simp [eM,h1]
  simp only[go_sem,seval,reduceCtorEq,h1,e]
  (refine zE ?_ ?_<;>try simp only[go_sem,seval,reduceCtorEq])
 have e:eM N L=lV (aX N) L:=by simp [eM,h1]
 simp only[go_sem,seval,reduceCtorEq,h1]
 (refine zC (sU h) ?_)
 simp only[go_sem,seval,reduceCtorEq]
 (refine zC (q6 (ls:=aX N) (L:=L) (by omega) hL.up.len) ?_)
 simp only[go_sem,seval,reduceCtorEq,e]
 (refine zE ?_ ?_<;>try simp only[go_sem,seval,reduceCtorEq])
end Go.Proofs.YtjfmckhbmdjnpaaGreat
