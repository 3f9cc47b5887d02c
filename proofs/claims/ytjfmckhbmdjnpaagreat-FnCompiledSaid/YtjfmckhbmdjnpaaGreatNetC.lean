/-
 Contracts: the dimensions of a network's labels; valid networks. No condition.
-/
import Derived.Test.YtjfmckhbmdjnpaaGreatMgCompiledA
import Derived.Test.YtjfmckhbmdjnpaaGreatArrA
import Derived.Test.YtjfmckhbmdjnpaaGreatNetB
import Derived.Test.YtjfmckhbmdjnpaaGreatCoB
set_option linter.unusedSimpArgs false
set_option linter.unusedVariables false
namespace Go.Proofs.YtjfmckhbmdjnpaaGreat
open Go.RowKit Go.Lift Plain
set_option maxRecDepth 100000
theorem sG {D L:List Int} (hD:D.length=100) (hL:L.length≤1048576) (hx:∀ x∈L,0≤x∧x≤99):
  Does Tryz.prog 38 [.agg (iv D),.d (ints L)] [] (.agg [.own 0 0 L.length,.own 1 0 L.length,.nil]) [some ⟨1,true,iv L⟩,some ⟨1,true,iv (L.map (atT D))⟩]:=by
 (refine spec_of (by kernel_rfl) Tryz.func38 xq (fnOk (nb rfl) ?_);unfold qF)
 (simp only[Nat.reduceSub,Zl,zn,Nat.reduceAdd,zF];try simp only[af]);(simp only[go_sem,seval,reduceCtorEq,List.replicate])
 (refine zD (fW (xs:=L) (by omega)) ?_)
 simp(disch:=omega) only[go_sem,seval,reduceCtorEq]
 refine⟨by omega, ?_⟩
 refine aP (L.length) (mkB 30 536740032) (fun k=>[(16,.d (.int k))]) (fun k=>[(3,iv (mix (L.map (atT D)) (List.replicate L.length 0) k))]) (h1:=by first | (simp only[go_sem,seval,reduceCtorEq,nz,na,n1,cx];first | done | rfl) | rfl) (h2:=by first | (simp only[go_sem,seval,reduceCtorEq,nz,na,n1,cx];first | done | rfl) | rfl) (hr:=fun k hk=> ?_)
 unfold pq
 have hml:(L.map (atT D)).length=(List.replicate L.length (0:Int)).length:=by simp
 have hmk:(mix (L.map (atT D)) (List.replicate L.length 0) k).length=L.length:=by rw[kw hml];simp
 by_cases hlt:k<L.length
 ·have h1:(k:Int)<L.length:=by omega
  have g:L[k]? =some L[k]:=zg hlt
  have hb:=hx L[k] (List.getElem_mem hlt)
  have c1:0≤L[k]:=hb.1
  have c2:L[k]<100:=by omega
  have gd:=zT hD hb
  have hm:=gO hml (show (L.map (atT D))[k]? =some (atT D L[k])by simp [hlt])
  simp(disch:=omega) only[go_sem,seval,reduceCtorEq,h1,g,gd,c1,c2]
  refine⟨by omega, ?_⟩
  (refine Next.drop (mkB 30 536740032) (by omega) (h1:= ?_) (h2:= ?_)<;>first | (simp only[go_sem,seval,reduceCtorEq,nz,na,n1,hm];first | done | rfl) | rfl | skip)
 ·have h1:¬ (k:Int)<L.length:=by omega
  have hm:mix (L.map (atT D)) (List.replicate L.length 0) k=L.map (atT D):=jf (by simp;omega) (by simp;omega)
  simp(disch:=omega) only[go_sem,seval,reduceCtorEq,h1,hm]
  (refine zE ?_ ?_<;>try simp only[go_sem,seval,reduceCtorEq])
theorem wL {ts:List Ten} (h:ts.length≤1048576) (ht:∀ t∈ts,TSz 1048576 t) (hax:d7 ts):
  Does Tryz.prog 34 [.d (tens ts)] [] (.tup [.agg (iv (aK ts).1),.d (.bool (aK ts).2)]) []:=by
 have hRl:=eM ts
 have htR:List.take 100 (aK ts).1=(aK ts).1:=zt (by omega)
 have hz:(aF ts 0 0).1=repI 100 0:=by rw[oQ]
 have hdr:List.drop 100 (repI 100 0)=[]:=List.drop_of_length_le (by rw[lG];exact Nat.le_refl _)
 (refine spec_of (by kernel_rfl) Tryz.func34 xo (fnOk (nb rfl) ?_);unfold qD)
 (simp only[Nat.reduceSub,Zl,zn,Nat.reduceAdd,zF];try simp only[af]);(simp only[go_sem,seval,reduceCtorEq,List.replicate])
 refine bG (ts.length) (mkB 49 281474976707016) (fun k=>(aF ts k 0).2=true) (fun k=>[(11,.d (.int k))]) (fun k=>[(1,iv (aF ts k 0).1)]) (hi:=by rw[oQ]) (h1:=by first | (simp only[go_sem,seval,reduceCtorEq,nz,na,n1,hz];first | done | rfl) | rfl) (h2:=by first | (simp only[go_sem,seval,reduceCtorEq,nz,na,n1,hz];first | done | rfl) | rfl) (hr:=fun k hk hi=> ?_)
 unfold p6
 by_cases hlt:k<ts.length
 ·have d1:(k:Int)<ts.length:=by omega
  have g:ts[k]? =some ts[k]:=zg hlt
  have g3:=iu g
  have hst:=ht ts[k] (List.getElem_mem hlt)
  have hat:=hax ts[k] (List.getElem_mem hlt)
  have hl:=hat.len
  have hstl:=hst.l.len
  simp(disch:=omega) only[go_sem,seval,reduceCtorEq,d1,g3]
  refine⟨by omega, ?_⟩
  refine bG (ts[k].labels.length) (mkB 49 140737487831432) (fun q=>(aF ts k q).2=true) (fun q=>[(18,.d (.int q))]) (fun q=>[(1,iv (aF ts k q).1)]) (hi:=hi) (h1:=by first | (simp only[go_sem,seval,reduceCtorEq,nz,na,n1];first | done | rfl) | rfl) (h2:=by first | (simp only[go_sem,seval,reduceCtorEq,nz,na,n1];first | done | rfl) | rfl) (hr:=fun q hq hiq=> ?_)
  unfold pm
  have hDl:=wJ ts k q
  by_cases hltq:q<ts[k].labels.length
  ·have e1:(q:Int)<ts[k].labels.length:=by omega
   have e2:(q:Int)<ts[k].dims.length:=by omega
   have gq:ts[k].labels[q]? =some ts[k].labels[q]:=zg hltq
   have gd:ts[k].dims[q]? =some (ar ts[k] ts[k].labels[q]):=by rw[gQ hat hltq (by omega)];exact zg (by omega)
   have hb:0≤ts[k].labels[q]∧ts[k].labels[q]≤99:=by
    have:=hat.2.2 q hltq
    unfold axAt at this
    rw[ae hltq]at this
    omega
   have c1:0≤ts[k].labels[q]:=hb.1
   have c2:ts[k].labels[q]<100:=by omega
   have ga:=zT hDl hb
   have hst:=um hax hlt hltq hiq
   have htD:List.take 100 (aF ts k q).1=(aF ts k q).1:=zt (by omega)
   have fail:atT (aF ts k q).1 ts[k].labels[q]≠0∧atT (aF ts k q).1 ts[k].labels[q]≠ar ts[k] ts[k].labels[q]→aK ts=((aF ts k q).1,false):=fun hh=>by
    rw[if_pos hh]at hst
    rw[Bh hlt (by rw[hst]),hst]
   have good:¬ (atT (aF ts k q).1 ts[k].labels[q]≠0∧atT (aF ts k q).1 ts[k].labels[q]≠ar ts[k] ts[k].labels[q])→aF ts k (q+1)=((aF ts k q).1.set ts[k].labels[q].toNat (ar ts[k] ts[k].labels[q]),true):=fun hh=>by
    rw[if_neg hh]at hst
    exact hst
   have hps:=dj (n:=ts[k].labels[q].toNat) (x:=ar ts[k] ts[k].labels[q]) (xs:=(aF ts k q).1) (by omega)
   have hsl:((aF ts k q).1.set ts[k].labels[q].toNat (ar ts[k] ts[k].labels[q])).length=100:=by rw[List.length_set];exact hDl
   by_cases ha:atT (aF ts k q).1 ts[k].labels[q]=0
   ·have b1:(atT (aF ts k q).1 ts[k].labels[q] !=0)=false:=by simp [ha]
    have hg:=good fun hh=>hh.1 ha
    simp(disch:=omega) only[go_sem,seval,reduceCtorEq,e1,e2,gq,gd,c1,c2,ga,b1]
    refine⟨by omega, ?_⟩
    have hI:(aF ts k (q+1)).2=true:=by rw[hg]
    (refine NextI.drop (mkB 49 140737487831432) (by omega) (hI) (h1:= ?_) (h2:= ?_)<;>first | (simp only[go_sem,seval,reduceCtorEq,nz,na,n1,hg,hps];first | done | rfl) | rfl | skip)
   ·have b1:(atT (aF ts k q).1 ts[k].labels[q] !=0)=true:=by simp [ha]
    by_cases hb2:atT (aF ts k q).1 ts[k].labels[q]=ar ts[k] ts[k].labels[q]
    ·have b2:(atT (aF ts k q).1 ts[k].labels[q] !=ar ts[k] ts[k].labels[q])=false:=by simp [hb2]
     have hg:=good fun hh=>hh.2 hb2
     simp(disch:=omega) only[go_sem,seval,reduceCtorEq,e1,e2,gq,gd,c1,c2,ga,b1,b2]
     refine⟨by omega, ?_⟩
     have hI:(aF ts k (q+1)).2=true:=by rw[hg]
     (refine NextI.drop (mkB 49 140737487831432) (by omega) (hI) (h1:= ?_) (h2:= ?_)<;>first | (simp only[go_sem,seval,reduceCtorEq,nz,na,n1,hg,hps];first | done | rfl) | rfl | skip)
    ·have b2:(atT (aF ts k q).1 ts[k].labels[q] !=ar ts[k] ts[k].labels[q])=true:=by simp [hb2]
     have hf:=fail ⟨ha,hb2⟩
     simp(disch:=omega) only[go_sem,seval,reduceCtorEq,e1,e2,gq,gd,c1,c2,ga,b1,b2,htD,hf,hdr]
     refine⟨by omega,by omega, ?_⟩
     (refine FnEnd.mk (r:=.tup [.agg (iv (aF ts k q).1),.d (.bool false)]) (nb rfl) (by simp only[resA,resL,sW,cvL,cv,go_sem,seval,reduceCtorEq,htD,hDl,Nat.le_refl]) (by first | exact zd rfl | simp only[go_sem,seval,reduceCtorEq,List.nodup_nil]) ?_ ?_<;>try simp only[go_sem,seval,reduceCtorEq,htD,hDl,Nat.le_refl])
  ·have e1:¬ (q:Int)<ts[k].labels.length:=by omega
   obtain rfl:q=ts[k].labels.length:=by omega
   have hd:=qi hax hlt
   simp(disch:=omega) only[go_sem,seval,reduceCtorEq,e1,hd]
   rw[hd]at hiq
   (refine NextI.drop (mkB 49 281474976707016) (by omega) (hiq) (h1:= ?_) (h2:= ?_)<;>first | (simp only[go_sem,seval,reduceCtorEq,nz,na,n1];first | done | rfl) | rfl | skip)
 ·have d1:¬ (k:Int)<ts.length:=by omega
  have hd:=wK (ts:=ts) (k:=k) (by omega)
  rw[hd]at hi
  simp(disch:=omega) only[go_sem,seval,reduceCtorEq,d1,hd,htR,hi,hdr]
  refine⟨by omega,by omega, ?_⟩
  (refine FnEnd.mk (r:=.tup [.agg (iv (aK ts).1),.d (.bool true)]) (nb rfl) (by simp only[resA,resL,sW,cvL,cv,go_sem,seval,reduceCtorEq,htR,hRl,Nat.le_refl]) (by first | exact zd rfl | simp only[go_sem,seval,reduceCtorEq,List.nodup_nil]) ?_ ?_<;>try simp only[go_sem,seval,reduceCtorEq,htR,hRl,Nat.le_refl])
theorem Dy (ts:List Ten) (k:Nat):(tcs ts).take (k*3)=tcs (ts.take k):=by
 induction ts generalizing k with
 | nil=>simp [tcs]
 | cons t l ih=>
  cases k with
  | zero=>simp [tcs]
  | succ k=>
   rw[tcs,show (k+1)*3=k*3+3 by omega]
   simp [tcs,ih]
theorem vR {ts:List Ten} {x:Int} (h:ts.length≤1048576) (ht:∀ t∈ts,TSz 1048576 t) (hax:d7 ts):
  Does Tryz.prog 112 [.d (tens ts),.d (.int x)] [] (.d (.int (dimN ts x))) []:=by
 (refine spec_of (by kernel_rfl) Tryz.func112 xa (fnOk (nb rfl) ?_);unfold qm)
 (simp only[Nat.reduceSub,Zl,zn,Nat.reduceAdd,zF];try simp only[af]);(simp only[go_sem,seval,reduceCtorEq,List.replicate])
 have hI0:∀ t∈ts.take 0,x∉t.labels:=fun t ht=>by simp at ht
 refine bG (ts.length) (mkB 26 67107024) (fun k=>∀ t∈ts.take k,x∉t.labels) (fun k=>[(10,.d (.int k))]) (fun k=>[]) (hi:=hI0) (h1:=by first | (simp only[go_sem,seval,reduceCtorEq,nz,na,n1];first | done | rfl) | rfl) (h2:=by first | (simp only[go_sem,seval,reduceCtorEq,nz,na,n1];first | done | rfl) | rfl) (hr:=fun k hk hi=> ?_)
 unfold p8
 by_cases hlt:k<ts.length
 ·have d1:(k:Int)<ts.length:=by omega
  have g:ts[k]? =some ts[k]:=zg hlt
  have g3:=iu g
  have hst:=ht ts[k] (List.getElem_mem hlt)
  have hat:=hax ts[k] (List.getElem_mem hlt)
  simp(disch:=omega) only[go_sem,seval,reduceCtorEq,d1,g3]
  refine⟨by omega, ?_⟩
  (refine zC (lP (xs:=ts[k].labels) (x:=x) hst.l.up.len) ?_)
  by_cases hm:x∈ts[k].labels
  ·obtain⟨i,p1,p2,p3,p4⟩:=dR hat.len hm
   have c2:(i:Int)≥0:=by omega
   have c3:(i:Int)<ts[k].dims.length:=by omega
   have e:=Cc hax hlt hi hm
   simp(disch:=omega) only[go_sem,seval,reduceCtorEq,p3,c2,c3,p4,e]
   (refine zE ?_ ?_<;>try simp only[go_sem,seval,reduceCtorEq])
  ·have c2:¬ bB ts[k].labels x≥0:=by have:=dh.2 hm;omega
   have hI:∀ t∈ts.take (k+1),x∉t.labels:=fun t ht=>by
    rw[bb hlt]at ht
    rcases List.mem_append.1 ht with ht | ht
    ·exact hi t ht
    ·simp only[List.mem_singleton]at ht;subst ht;exact hm
   simp(disch:=omega) only[go_sem,seval,reduceCtorEq,c2]
   (refine NextI.drop (mkB 26 67107024) (by omega) (hI) (h1:= ?_) (h2:= ?_)<;>first | (simp only[go_sem,seval,reduceCtorEq,nz,na,n1];first | done | rfl) | rfl | skip)
 ·have d1:¬ (k:Int)<ts.length:=by omega
  have e:=tT (ts:=ts) (x:=x) (by rw[zt (by omega)]at hi;exact hi)
  simp(disch:=omega) only[go_sem,seval,reduceCtorEq,d1,e]
  (refine zE ?_ ?_<;>try simp only[go_sem,seval,reduceCtorEq])
theorem xW {ts:List Ten} {L:List Int} (h:ts.length≤1048576) (ht:∀ t∈ts,TSz 1048576 t) (hax:d7 ts) (hL:L.length≤1048576):
  Does Tryz.prog 90 [.d (tens ts),.d (ints L)] [] (.own 0 0 L.length) [some ⟨1,true,iv (L.map (dimN ts))⟩]:=by
 (refine spec_of (by kernel_rfl) Tryz.func90 vU (fnOk (nb rfl) ?_);unfold pt)
 (simp only[Nat.reduceSub,Zl,zn,Nat.reduceAdd,zF];try simp only[af]);(simp only[go_sem,seval,reduceCtorEq,List.replicate])
 refine aP (L.length) (mkB 23 4190592) (fun k=>[(5,.own 0 0 k),(11,.d (.int k))]) (fun k=>[(0,iv ((L.take k).map (dimN ts)))]) (h1:=by first | (simp only[go_sem,seval,reduceCtorEq,nz,na,n1,List.take_zero,List.map_nil,cj];first | done | rfl) | rfl) (h2:=by first | (simp only[go_sem,seval,reduceCtorEq,nz,na,n1,List.take_zero,List.map_nil,cj];first | done | rfl) | rfl) (hr:=fun k hk=> ?_)
 unfold nl
 have hkl:((L.take k).map (dimN ts)).length=k:=by simp;omega
 by_cases hlt:k<L.length
 ·have h1:(k:Int)<L.length:=by omega
  have hx:L[k]? =some L[k]:=zg hlt
  have hm:(L.take (k+1)).map (dimN ts)=(L.take k).map (dimN ts)++[dimN ts L[k]]:=by rw[bb hlt,List.map_append,List.map_cons,List.map_nil]
  simp(disch:=omega) only[go_sem,seval,reduceCtorEq,h1,hx]
  (refine zC (vR (ts:=ts) (x:=L[k]) h ht hax) ?_)
  simp(disch:=omega) only[go_sem,seval,reduceCtorEq,hkl]
  refine⟨by omega, ?_⟩
  (refine Next.drop (mkB 23 4190592) (by omega) (h1:= ?_) (h2:= ?_)<;>first | (simp only[go_sem,seval,reduceCtorEq,nz,na,n1,hm];first | done | rfl) | rfl | skip)
 ·have h1:¬ (k:Int)<L.length:=by omega
  obtain rfl:k=L.length:=by omega
  simp(disch:=omega) only[go_sem,seval,reduceCtorEq,h1]
  (refine zE ?_ ?_<;>try simp only[go_sem,seval,reduceCtorEq])
theorem mP {N:Net} (h:NSz 1048576 N):Does Tryz.prog 41 [netA N] [] (.d (.bool (bp N))) []:=by
 (refine spec_of (by kernel_rfl) Tryz.func41 tC (fnOk (nb rfl) ?_);unfold mo)
 (simp only[Nat.reduceSub,Zl,zn,Nat.reduceAdd,zF];try simp only[af]);(simp only[go_sem,seval,reduceCtorEq,List.replicate])
 (refine zC (y7 N.k N.p N.n) ?_)
 cases h1:ah ⟨N.k,N.p,N.n⟩
 ·have e:=df (N:=N) fun e=>by have:=e.1;rw[Net.rg,h1]at this;cases this
  simp only[go_sem,seval,reduceCtorEq,h1,e]
  (refine zE ?_ ?_<;>try simp only[go_sem,seval,reduceCtorEq])
 by_cases h2:N.ts.length≤12
 rotate_left
 ·have e:=df (N:=N) fun e=>h2 e.2.1
  have c2:(N.ts.length:Int)>12:=by omega
  simp only[go_sem,seval,reduceCtorEq,h1,c2,e]
  (refine zE ?_ ?_<;>try simp only[go_sem,seval,reduceCtorEq])
 have c2:¬ (N.ts.length:Int)>12:=by omega
 by_cases h3:N.os.length≤12
 rotate_left
 ·have e:=df (N:=N) fun e=>e.2.2.2.2 (vi (by omega))
  have c3:(N.os.length:Int)>12:=by omega
  simp only[go_sem,seval,reduceCtorEq,h1,c2,c3,e]
  (refine zE ?_ ?_<;>try simp only[go_sem,seval,reduceCtorEq])
 have c3:¬ (N.os.length:Int)>12:=by omega
 simp only[go_sem,seval,reduceCtorEq,h1,c2,c3]
 have hI0:fJ N.rg (N.ts.take 0):=fun t ht=>by simp at ht
 refine bG (N.ts.length) (mkB 72 274341036052) (fun k=>fJ N.rg (N.ts.take k)) (fun k=>[(28,.d (.int k))]) (fun k=>[]) (hi:=hI0) (h1:=by first | (simp only[go_sem,seval,reduceCtorEq,nz,na,n1];first | done | rfl) | rfl) (h2:=by first | (simp only[go_sem,seval,reduceCtorEq,nz,na,n1];first | done | rfl) | rfl) (hr:=fun k hk hi=> ?_)
 unfold kN
 by_cases hlt:k<N.ts.length
 ·have d1:(k:Int)<N.ts.length:=by omega
  have g:N.ts[k]? =some N.ts[k]:=zg hlt
  have g3:=iu g
  have hst:=h.t N.ts[k] (List.getElem_mem hlt)
  simp(disch:=omega) only[go_sem,seval,reduceCtorEq,d1,g3]
  refine⟨by omega, ?_⟩
  (refine zC (eJ (t:=N.ts[k]) h.k h.p h.n hst.up) ?_)
  cases hto:aE ⟨N.k,N.p,N.n⟩ N.ts[k].labels N.ts[k].dims N.ts[k].data
  ·have e:=df (N:=N) fun e=>by have:=e.2.2.1 N.ts[k] (List.getElem_mem hlt);rw[Net.rg,hto]at this;cases this
   simp only[go_sem,seval,reduceCtorEq,hto,e]
   (refine zE ?_ ?_<;>try simp only[go_sem,seval,reduceCtorEq])
  ·have hI:fJ N.rg (N.ts.take (k+1)):=fun t ht=>by
    rw[bb hlt]at ht
    rcases List.mem_append.1 ht with ht | ht
    ·exact hi t ht
    ·simp only[List.mem_singleton]at ht;subst ht;exact hto
   simp(disch:=omega) only[go_sem,seval,reduceCtorEq,hto]
   (refine NextI.drop (mkB 72 274341036052) (by omega) (hI) (h1:= ?_) (h2:= ?_)<;>first | (simp only[go_sem,seval,reduceCtorEq,nz,na,n1];first | done | rfl) | rfl | skip)
 have d1:¬ (k:Int)<N.ts.length:=by omega
 have hto:fJ N.rg N.ts:=by rw[zt (by omega)]at hi;exact hi
 have hax:=hto.ax
 obtain⟨hc1,hc2⟩:=sw hax
 have hRl:=eM N.ts
 have hdr:List.drop 100 (repI 100 0)=[]:=List.drop_of_length_le (by rw[lG];exact Nat.le_refl _)
 simp(disch:=omega) only[go_sem,seval,reduceCtorEq,d1]
 (refine zC (wL (ts:=N.ts) h.l h.t hax) ?_)
 simp(disch:=omega) only[go_sem,seval,reduceCtorEq,hdr]
 refine⟨by omega, ?_⟩
 cases hok:(aK N.ts).2
 ·have e:=df (N:=N) fun e=>by have:=hc1.2 e.2.2.2.1;rw[hok]at this;cases this
  simp only[go_sem,seval,reduceCtorEq,hok,e]
  (refine zE ?_ ?_<;>try simp only[go_sem,seval,reduceCtorEq])
 have hat:=hc2 hok
 have hcons:=hc1.1 hok
 simp only[go_sem,seval,reduceCtorEq,hok]
 have hJ0:∀ j (hj:j<N.os.length),j<0→0≤N.os[j]∧N.os[j]≤99∧dimN N.ts N.os[j]≠0:=fun j _ hj=>absurd hj (Nat.not_lt_zero j)
 have htR:List.take 100 (aK N.ts).1=(aK N.ts).1:=zt (by omega)
 refine bG (N.os.length) (mkB 72 73785850394931364100) (fun q=>∀ j (hj:j<N.os.length),j<q→0≤N.os[j]∧N.os[j]≤99∧dimN N.ts N.os[j]≠0) (fun q=>[(49,.d (.int q))]) (fun q=>[]) (hi:=hJ0) (h1:=by first | (simp only[go_sem,seval,reduceCtorEq,nz,na,n1];first | done | rfl) | rfl) (h2:=by first | (simp only[go_sem,seval,reduceCtorEq,nz,na,n1];first | done | rfl) | rfl) (hr:=fun q hq hiq=> ?_)
 unfold kW
 by_cases hltq:q<N.os.length
 ·have e1:(q:Int)<N.os.length:=by omega
  have g:N.os[q]? =some N.os[q]:=zg hltq
  have bad:¬ (0≤N.os[q]∧N.os[q]≤99∧dimN N.ts N.os[q]≠0)→bp N=false:=fun hb=>df fun e=>e.2.2.2.2 (Bq q hltq hb hax)
  by_cases b1:N.os[q]<0
  ·have e:=bad fun e=>by omega
   simp(disch:=omega) only[go_sem,seval,reduceCtorEq,e1,g,b1,e]
   (refine zE ?_ ?_<;>try simp only[go_sem,seval,reduceCtorEq])
  by_cases b2:N.os[q]>99
  ·have e:=bad fun e=>by omega
   simp(disch:=omega) only[go_sem,seval,reduceCtorEq,e1,g,b1,b2,e]
   (refine zE ?_ ?_<;>try simp only[go_sem,seval,reduceCtorEq])
  have hb:0≤N.os[q]∧N.os[q]≤99:=by omega
  have ga:=zT hRl hb
  rw[hat _ hb]at ga
  have c1:0≤N.os[q]:=hb.1
  have c2:N.os[q]<100:=by omega
  by_cases b3:dimN N.ts N.os[q]=0
  ·have e:=bad fun e=>e.2.2 b3
   have b3':(dimN N.ts N.os[q]==0)=true:=by simp [b3]
   simp(disch:=omega) only[go_sem,seval,reduceCtorEq,e1,g,b1,b2,c1,c2,ga,b3',e]
   (refine zE ?_ ?_<;>try simp only[go_sem,seval,reduceCtorEq])
  ·have b3':(dimN N.ts N.os[q]==0)=false:=by simp [b3]
   have hI:∀ j (hj:j<N.os.length),j<q+1→0≤N.os[j]∧N.os[j]≤99∧dimN N.ts N.os[j]≠0:=fun j hj hjq=>by
    by_cases e:j=q
    ·subst e;exact⟨hb.1,hb.2,b3⟩
    ·exact hiq j hj (by omega)
   simp(disch:=omega) only[go_sem,seval,reduceCtorEq,e1,g,b1,b2,c1,c2,ga,b3']
   (refine NextI.drop (mkB 72 73785850394931364100) (by omega) (hI) (h1:= ?_) (h2:= ?_)<;>first | (simp only[go_sem,seval,reduceCtorEq,nz,na,n1];first | done | rfl) | rfl | skip)
 have e1:¬ (q:Int)<N.os.length:=by omega
 have hosb:∀ x∈N.os,0≤x∧x≤99:=fun x hx=>by
  obtain⟨j,hj,rfl⟩:=List.getElem_of_mem hx
  have:=hiq j hj (by omega)
  omega
 have hmap:N.os.map (atT (aK N.ts).1)=N.os.map (dimN N.ts):=List.map_congr_left fun x hx=>hat x (hosb x hx)
 have hml:(N.os.map (dimN N.ts)).length=N.os.length:=by simp
 have htt:List.take N.os.length (N.os.map (dimN N.ts))=N.os.map (dimN N.ts):=zt (by omega)
 have hdsz:Sz 1048576 (N.os.map (dimN N.ts)):=⟨by omega,fun d hd=>by
  obtain⟨x,_,rfl⟩:=List.mem_map.1 hd
  have:=kE hax x
  exact⟨by omega,by omega⟩⟩
 have hfin:bp N=(aY N.os (N.os.map (dimN N.ts)) != -1):=by
  by_cases e:aY N.os (N.os.map (dimN N.ts))= -1
  ·rw[df fun hh=>hh.2.2.2.2 e,e];rfl
  ·rw[an.2 ⟨h1,h2,hto,hcons,e⟩];simp [e]
 simp(disch:=omega) only[go_sem,seval,reduceCtorEq,e1,htR,hRl]
 (refine zC (sG (D:=(aK N.ts).1) (L:=N.os) hRl h.o.len hosb) ?_)
 rw[hmap]
 simp(disch:=omega) only[go_sem,seval,reduceCtorEq]
 (refine aA (g9 (t:=⟨N.os,N.os.map (dimN N.ts),[]⟩) ⟨h.o.up,hdsz.up,⟨by simp,by simp⟩⟩) ?_ ?_ ?_;(focus (simp only[go_sem,seval,reduceCtorEq,hml,htt];done));(first | rfl | (focus (simp only[go_sem];done))))
 simp(disch:=omega) only[go_sem,seval,reduceCtorEq,hfin]
 (refine zE ?_ ?_<;>try simp only[go_sem,seval,reduceCtorEq])
theorem yH {N:Net} (h:NSz 1048576 N):Does Tryz.prog 89 [netA N] [] (.d (.bool (bp N))) []:=by
 have hhl:=h.l
 (refine spec_of (by kernel_rfl) Tryz.func89 tl (fnOk (nb rfl) ?_);unfold me)
 (simp only[Nat.reduceSub,Zl,zn,Nat.reduceAdd,zF];try simp only[af]);(simp only[go_sem,seval,reduceCtorEq,List.replicate])
 (refine zC (xD N.k N.p N.n) ?_)
 cases h1:ah ⟨N.k,N.p,N.n⟩
 ·have e:=df (N:=N) fun e=>by have:=e.1;rw[Net.rg,h1]at this;cases this
  simp only[go_sem,seval,reduceCtorEq,h1,e]
  (refine zE ?_ ?_<;>try simp only[go_sem,seval,reduceCtorEq])
 by_cases h2:N.ts.length≤12
 rotate_left
 ·have e:=df (N:=N) fun e=>h2 e.2.1
  have c2:(N.ts.length:Int)>12:=by omega
  simp only[go_sem,seval,reduceCtorEq,h1,c2,e]
  (refine zE ?_ ?_<;>try simp only[go_sem,seval,reduceCtorEq])
 have c2:¬ (N.ts.length:Int)>12:=by omega
 simp only[go_sem,seval,reduceCtorEq,h1,c2]
 have hI0:fJ N.rg (N.ts.take 0)∧∀ j,j<0→yp N.ts j:=⟨fun t ht=>by simp at ht,fun j hj=>absurd hj (Nat.not_lt_zero j)⟩
 refine bG (N.ts.length) (mkB 68 288230376147517692) (fun k=>fJ N.rg (N.ts.take k)∧∀ j,j<k→yp N.ts j) (fun k=>[(21,.d (.int k))]) (fun k=>[]) (hi:=hI0) (h1:=by first | (simp only[go_sem,seval,reduceCtorEq,nz,na,n1];first | done | rfl) | rfl) (h2:=by first | (simp only[go_sem,seval,reduceCtorEq,nz,na,n1];first | done | rfl) | rfl) (hr:=fun k hk hi=> ?_)
 unfold kJ
 obtain⟨hi,hcs⟩:=hi
 by_cases hlt:k<N.ts.length
 ·have d1:(k:Int)<N.ts.length:=by omega
  have d3:(k:Int)≤N.ts.length:=by omega
  have g:N.ts[k]? =some N.ts[k]:=zg hlt
  have g3:=iu g
  have hst:=h.t N.ts[k] (List.getElem_mem hlt)
  have hpre:=hi.ax
  have htk:(N.ts.take k).length=k:=by simp;omega
  have htt:∀ t∈N.ts.take k,TSz 1048576 t:=fun t ht=>h.t t (List.mem_of_mem_take ht)
  simp(disch:=omega) only[go_sem,seval,reduceCtorEq,d1,g3]
  refine⟨by omega, ?_⟩
  (refine zC (Aj (t:=N.ts[k]) h.k h.p h.n hst.up) ?_)
  cases hto:aE ⟨N.k,N.p,N.n⟩ N.ts[k].labels N.ts[k].dims N.ts[k].data
  ·have e:=df (N:=N) fun e=>by have:=e.2.2.1 N.ts[k] (List.getElem_mem hlt);rw[Net.rg,hto]at this;cases this
   simp only[go_sem,seval,reduceCtorEq,hto,e]
   (refine zE ?_ ?_<;>try simp only[go_sem,seval,reduceCtorEq])
  have hat:=(dy hto).2.1
  have hl:=hat.len
  have hstl:=hst.l.len
  simp(disch:=omega) only[go_sem,seval,reduceCtorEq,hto]
  have hJ0:∀ x∈N.ts[k].labels.take 0,dimN (N.ts.take k) x=0∨dimN (N.ts.take k) x=ar N.ts[k] x:=fun x hx=>by simp at hx
  refine bG (N.ts[k].labels.length) (mkB 68 144115153716117732) (fun q=>∀ x∈N.ts[k].labels.take q,dimN (N.ts.take k) x=0∨dimN (N.ts.take k) x=ar N.ts[k] x) (fun q=>[(34,.d (.int q))]) (fun q=>[]) (hi:=hJ0) (h1:=by first | (simp only[go_sem,seval,reduceCtorEq,nz,na,n1];first | done | rfl) | rfl) (h2:=by first | (simp only[go_sem,seval,reduceCtorEq,nz,na,n1];first | done | rfl) | rfl) (hr:=fun q hq hiq=> ?_)
  unfold kR
  by_cases hltq:q<N.ts[k].labels.length
  ·have e1:(q:Int)<N.ts[k].labels.length:=by omega
   have e2:(q:Int)<N.ts[k].dims.length:=by omega
   have gq:N.ts[k].labels[q]? =some N.ts[k].labels[q]:=zg hltq
   have gd:N.ts[k].dims[q]? =some (ar N.ts[k] N.ts[k].labels[q]):=by rw[gQ hat hltq (by omega)];exact zg (by omega)
   have bad:¬ (dimN (N.ts.take k) N.ts[k].labels[q]=0∨dimN (N.ts.take k) N.ts[k].labels[q]=ar N.ts[k] N.ts[k].labels[q])→bp N=false:=fun hb=>df fun e=>hb (e.2.2.2.1 k hlt _ hlt (List.getElem_mem hltq))
   have good:(dimN (N.ts.take k) N.ts[k].labels[q]=0∨dimN (N.ts.take k) N.ts[k].labels[q]=ar N.ts[k] N.ts[k].labels[q])→∀ x∈N.ts[k].labels.take (q+1),dimN (N.ts.take k) x=0∨dimN (N.ts.take k) x=ar N.ts[k] x:=fun hb x hx=>by
    rw[bb hltq]at hx
    rcases List.mem_append.1 hx with hx | hx
    ·exact hiq x hx
    ·simp only[List.mem_singleton]at hx;subst hx;exact hb
   simp(disch:=omega) only[go_sem,seval,reduceCtorEq,e1,gq,d3]
   simp only[true_or,Int.sub_zero,Int.toNat_natCast,go_sem,seval,reduceCtorEq]
   (refine aA (vR (ts:=N.ts.take k) (x:=N.ts[k].labels[q]) (by omega) htt hpre) ?_ ?_ ?_;(focus (simp only[go_sem,seval,reduceCtorEq,htk,Dy];done));(first | rfl | (focus (simp only[go_sem];done))))
   have hbd:=kE hpre N.ts[k].labels[q]
   by_cases ha:dimN (N.ts.take k) N.ts[k].labels[q]=0
   ·have b1:¬ dimN (N.ts.take k) N.ts[k].labels[q]>0:=by omega
    have hI:=good (.inl ha)
    simp(disch:=omega) only[go_sem,seval,reduceCtorEq,b1]
    (refine NextI.drop (mkB 68 144115153716117732) (by omega) (hI) (h1:= ?_) (h2:= ?_)<;>first | (simp only[go_sem,seval,reduceCtorEq,nz,na,n1];first | done | rfl) | rfl | skip)
   ·have b1:dimN (N.ts.take k) N.ts[k].labels[q]>0:=by omega
    by_cases hb2:dimN (N.ts.take k) N.ts[k].labels[q]=ar N.ts[k] N.ts[k].labels[q]
    ·have b2:(dimN (N.ts.take k) N.ts[k].labels[q] !=ar N.ts[k] N.ts[k].labels[q])=false:=by simp [hb2]
     have hI:=good (.inr hb2)
     simp(disch:=omega) only[go_sem,seval,reduceCtorEq,b1,b2,e2,gd]
     (refine NextI.drop (mkB 68 144115153716117732) (by omega) (hI) (h1:= ?_) (h2:= ?_)<;>first | (simp only[go_sem,seval,reduceCtorEq,nz,na,n1];first | done | rfl) | rfl | skip)
    ·have b2:(dimN (N.ts.take k) N.ts[k].labels[q] !=ar N.ts[k] N.ts[k].labels[q])=true:=by simp [hb2]
     have e:=bad fun hh=>hh.elim ha hb2
     simp(disch:=omega) only[go_sem,seval,reduceCtorEq,b1,b2,e2,gd,e]
     (refine zE ?_ ?_<;>try simp only[go_sem,seval,reduceCtorEq])
  ·have e1:¬ (q:Int)<N.ts[k].labels.length:=by omega
   obtain rfl:q=N.ts[k].labels.length:=by omega
   rw[List.take_length]at hiq
   have hI:fJ N.rg (N.ts.take (k+1))∧∀ j,j<k+1→yp N.ts j:=⟨fun t ht=>by
    rw[bb hlt]at ht
    rcases List.mem_append.1 ht with ht | ht
    ·exact hi t ht
    ·simp only[List.mem_singleton]at ht;subst ht;exact hto,fun j hj=>by
    by_cases e:j=k
    ·subst e;exact fun x _ hx=>hiq x hx
    ·exact hcs j (by omega)⟩
   simp(disch:=omega) only[go_sem,seval,reduceCtorEq,e1]
   (refine NextI.drop (mkB 68 288230376147517692) (by omega) (hI) (h1:= ?_) (h2:= ?_)<;>first | (simp only[go_sem,seval,reduceCtorEq,nz,na,n1];first | done | rfl) | rfl | skip)
 have d1:¬ (k:Int)<N.ts.length:=by omega
 have hto:fJ N.rg N.ts:=by rw[zt (by omega)]at hi;exact hi
 have hax:=hto.ax
 have hcons:yq N.ts:=fun j hj=>hcs j (by omega)
 have hml:(N.os.map (dimN N.ts)).length=N.os.length:=by simp
 have htt:List.take N.os.length (N.os.map (dimN N.ts))=N.os.map (dimN N.ts):=zt (by omega)
 have hdsz:Sz 1048576 (N.os.map (dimN N.ts)):=⟨by have:=h.o.len;omega,fun d hd=>by
  obtain⟨x,_,rfl⟩:=List.mem_map.1 hd
  have:=kE hax x
  exact⟨by omega,by omega⟩⟩
 have hfin:bp N=decide (aY N.os (N.os.map (dimN N.ts))≥0):=by
  by_cases e:aY N.os (N.os.map (dimN N.ts))= -1
  ·rw[df fun hh=>hh.2.2.2.2 e,e];rfl
  ·rw[an.2 ⟨h1,h2,hto,hcons,e⟩]
   rcases da N.os (N.os.map (dimN N.ts))with e' | ⟨_,_,e',_⟩
   ·exact absurd e' e
   ·exact(decide_eq_true (by omega)).symm
 simp(disch:=omega) only[go_sem,seval,reduceCtorEq,d1]
 (refine zD (xW (ts:=N.ts) (L:=N.os) h.l h.t hax h.o.len) ?_)
 simp(disch:=omega) only[go_sem,seval,reduceCtorEq]
 (refine aA (qf (t:=⟨N.os,N.os.map (dimN N.ts),[]⟩) ⟨h.o.up,hdsz.up,⟨by simp,by simp⟩⟩) ?_ ?_ ?_;(focus (simp only[go_sem,seval,reduceCtorEq,hml,htt];done));(first | rfl | (focus (simp only[go_sem];done))))
 simp(disch:=omega) only[go_sem,seval,reduceCtorEq,hfin]
 (refine zE ?_ ?_<;>try simp only[go_sem,seval,reduceCtorEq])
set_option maxRecDepth 100000
def bg (p:Nat→Bool) (n:Nat):List Int:=((List.range n).filter p).map fun (i:Nat)=>(i:Int)
theorem uc (p:Nat→Bool):bg p 0=[]:=rfl
theorem BF {p:Nat→Bool} {k:Nat} (h:p k=true):bg p (k+1)=bg p k++[(k:Int)]:=by simp [bg,List.range_succ,h]
theorem DS {p:Nat→Bool} {k:Nat} (h:p k=false):bg p (k+1)=bg p k:=by simp [bg,List.range_succ,h]
theorem mD (p:Nat→Bool) (k:Nat):(bg p k).length≤k:=by
 rw[bg,List.length_map]
 exact Nat.le_trans (List.length_filter_le _ _) (by simp)
theorem BG {p:Nat→Bool} {n:Nat} {x:Int} (h:x∈bg p n):∃ i:Nat,i<n∧p i=true∧x=i:=by
 simp only[bg,List.mem_map,List.mem_filter,List.mem_range]at h
 obtain⟨i,⟨h1,h2⟩,rfl⟩:=h
 exact⟨i,h1,h2,rfl⟩
def labP (ts:List Ten) (i:Nat):Bool:=dimN ts i !=0
noncomputable def ID (N:Net):List Int:=if bp N=true then bg (labP N.ts) 100 else []
theorem uf {ts:List Ten} (h:ts.length≤1048576) (ht:∀ t∈ts,TSz 1048576 t) (hax:d7 ts):Does Tryz.prog 70 [.d (tens ts)] [] (.own 0 0 (bg (labP ts) 100).length) [some ⟨1,true,iv (bg (labP ts) 100)⟩]:=by
 (refine spec_of (by kernel_rfl) Tryz.func70 ti (fnOk (nb rfl) ?_);unfold m9)
 (simp only[Nat.reduceSub,Zl,zn,Nat.reduceAdd,zF];try simp only[af]);(simp only[go_sem,seval,reduceCtorEq,List.replicate])
 refine aP (100) (mkB 19 262112) (fun k=>[(3,.own 0 0 (bg (labP ts) k).length),(4,.d (.int k))]) (fun k=>[(0,iv (bg (labP ts) k))]) (h1:=by first | (simp only[go_sem,seval,reduceCtorEq,nz,na,n1,uc,cj];first | done | rfl) | rfl) (h2:=by first | (simp only[go_sem,seval,reduceCtorEq,nz,na,n1,uc,cj];first | done | rfl) | rfl) (hr:=fun k hk=> ?_)
 unfold kP
 have hpl:=mD (labP ts) k
 have hbd:=kE hax k
 by_cases hlt:k<100
 ·have d1:(k:Int)≤99:=by omega
  simp(disch:=omega) only[go_sem,seval,reduceCtorEq,d1]
  (refine zC (vR (ts:=ts) (x:=k) h ht hax) ?_)
  cases hp:labP ts k
  ·have c':dimN ts k=0:=by simpa [labP]using hp
   have c:¬ dimN ts k>0:=by omega
   simp(disch:=omega) only[go_sem,seval,reduceCtorEq,c]
   (refine Next.drop (mkB 19 262112) (by omega) (h1:= ?_) (h2:= ?_)<;>first | (simp only[go_sem,seval,reduceCtorEq,nz,na,n1,DS hp];first | done | rfl) | rfl | skip)
  ·have c':dimN ts k≠0:=by simpa [labP]using hp
   have c:dimN ts k>0:=by omega
   simp(disch:=omega) only[go_sem,seval,reduceCtorEq,c]
   refine⟨by omega, ?_⟩
   (refine Next.drop (mkB 19 262112) (by omega) (h1:= ?_) (h2:= ?_)<;>first | (simp only[go_sem,seval,reduceCtorEq,nz,na,n1,BF hp,List.length_append];first | done | rfl) | rfl | skip)
 ·have d1:¬ (k:Int)≤99:=by omega
  obtain rfl:k=100:=by omega
  simp(disch:=omega) only[go_sem,seval,reduceCtorEq,d1]
  (refine zE ?_ ?_<;>try simp only[go_sem,seval,reduceCtorEq])
set_option maxRecDepth 100000
noncomputable def gk (N:Net):List Int:=wol (ID N) N.os
end Go.Proofs.YtjfmckhbmdjnpaaGreat
