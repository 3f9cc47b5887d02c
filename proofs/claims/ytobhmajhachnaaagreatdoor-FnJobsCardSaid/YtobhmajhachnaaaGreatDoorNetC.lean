/-
 Contracts: the dimensions of a network's labels; valid networks. No condition.
-/
import Derived.Test.YtobhmajhachnaaaGreatDoorMgJobsA
import Derived.Test.YtobhmajhachnaaaGreatDoorArrA
import Derived.Test.YtobhmajhachnaaaGreatDoorNetB
import Derived.Test.YtobhmajhachnaaaGreatDoorCoB
set_option linter.unusedSimpArgs false
set_option linter.unusedVariables false
namespace Go.Proofs.YtobhmajhachnaaaGreatDoor
open Go.RowKit Go.Lift Plain
set_option maxRecDepth 100000
theorem tD{D L:List Int}(hD:D.length=100)(hL:L.length≤1048576)(hx:∀x∈L,0≤x∧x≤99):
  Does Tryz.prog 31 [.agg (iv D),.d (ints L)] [] (.agg [.own 0 0 L.length,.own 1 0 L.length,.nil]) [some ⟨1,true,iv L⟩,some ⟨1,true,iv (L.map (atT D))⟩]:=by
 refine zS Tryz.func31 yt ?_;unfold r6;refine zT ?_;(refine zD (cj (xs:=L) (by omega)) ?_);refine zV ?_;refine⟨by omega, ?_⟩;refine aA (L.length) (mkB 30 536740032) (fun k=>[(16,.d (.int k))]) (fun k=>[(3,iv (mix (L.map (atT D)) (List.replicate L.length 0) k))]) (h1:=by first|(simp only[go_sem,seval,reduceCtorEq,nz,na,n1,cA];first|done|rfl)|rfl) (h2:=by first|(simp only[go_sem,seval,reduceCtorEq,nz,na,n1,cA];first|done|rfl)|rfl) (hr:=fun k hk=> ?_);unfold pw;have hml:(L.map (atT D)).length=(List.replicate L.length (0:Int)).length:=by simp
 have hmk:(mix (L.map (atT D)) (List.replicate L.length 0) k).length=L.length:=by rw[kD hml];simp
 by_cases hlt:k<L.length
 ·have h1:(k:Int)<L.length:=by omega
  have g:L[k]? =some L[k]:=zg hlt;have hb:=hx L[k] (List.getElem_mem hlt);have c1:0≤L[k]:=hb.1;have c2:L[k]<100:=by omega
  have gd:=tJ hD hb;have hm:=gE hml (show (L.map (atT D))[k]? =some (atT D L[k])by simp [hlt]);simp(disch:=omega) only[go_sem,seval,reduceCtorEq,h1,g,gd,c1,c2];refine⟨by omega, ?_⟩;(refine Next.drop (mkB 30 536740032) (by omega) (h1:= ?_) (h2:= ?_)<;>first|(simp only[go_sem,seval,reduceCtorEq,nz,na,n1,hm];first|done|rfl)|rfl|skip)
 ·have h1:¬(k:Int)<L.length:=by omega
  have hm:mix (L.map (atT D)) (List.replicate L.length 0) k=L.map (atT D):=ji (by simp;omega) (by simp;omega);simp(disch:=omega) only[go_sem,seval,reduceCtorEq,h1,hm];exact zX
theorem jn{ts:List Ten}(h:ts.length≤1048576)(ht:∀t∈ts,TSz 1048576 t)(hax:cQ ts):
  Does Tryz.prog 29 [.d (tens ts)] [] (.tup [.agg (iv (bA ts).1),.d (.bool (bA ts).2)]) []:=by
 have hRl:=dz ts;have htR:List.take 100 (bA ts).1=(bA ts).1:=zt (by omega);have hz:(aD ts 0 0).1=repI 100 0:=by rw[oY]
 have hdr:List.drop 100 (repI 100 0)=[]:=List.drop_of_length_le (by rw[dG];exact Nat.le_refl _);refine zS Tryz.func29 yq ?_;unfold r4;refine zT ?_;refine cI (ts.length) (mkB 49 281474976707016) (fun k=>(aD ts k 0).2=true) (fun k=>[(11,.d (.int k))]) (fun k=>[(1,iv (aD ts k 0).1)]) (hi:=by rw[oY]) (h1:=by first|(simp only[go_sem,seval,reduceCtorEq,nz,na,n1,hz];first|done|rfl)|rfl) (h2:=by first|(simp only[go_sem,seval,reduceCtorEq,nz,na,n1,hz];first|done|rfl)|rfl) (hr:=fun k hk hi=> ?_);unfold pf;by_cases hlt:k<ts.length
 ·have d1:(k:Int)<ts.length:=by omega
  have g:ts[k]? =some ts[k]:=zg hlt;have g3:=fj g;have hst:=ht ts[k] (List.getElem_mem hlt);have hat:=hax ts[k] (List.getElem_mem hlt);have hl:=hat.len;have hstl:=hst.l.len;simp(disch:=omega) only[go_sem,seval,reduceCtorEq,d1,g3];refine⟨by omega, ?_⟩;refine cI (ts[k].labels.length) (mkB 49 140737487831432) (fun q=>(aD ts k q).2=true) (fun q=>[(18,.d (.int q))]) (fun q=>[(1,iv (aD ts k q).1)]) (hi:=hi) (hr:=fun q hq hiq=> ?_);unfold pu;have hDl:=xN ts k q;by_cases hltq:q<ts[k].labels.length
  ·have e1:(q:Int)<ts[k].labels.length:=by omega
   have e2:(q:Int)<ts[k].dims.length:=by omega
   have gq:ts[k].labels[q]? =some ts[k].labels[q]:=zg hltq;have gd:ts[k].dims[q]? =some (ao ts[k] ts[k].labels[q]):=by rw[gJ hat hltq (by omega)];exact zg (by omega)
   have hb:0≤ts[k].labels[q]∧ts[k].labels[q]≤99:=by
    have:=hat.2.2 q hltq;unfold axAt at this;rw[ac hltq]at this;omega
   have c1:0≤ts[k].labels[q]:=hb.1;have c2:ts[k].labels[q]<100:=by omega
   have ga:=tJ hDl hb;have hst:=vn hax hlt hltq hiq;have htD:List.take 100 (aD ts k q).1=(aD ts k q).1:=zt (by omega);have fail:atT (aD ts k q).1 ts[k].labels[q]≠0∧atT (aD ts k q).1 ts[k].labels[q]≠ao ts[k] ts[k].labels[q]→bA ts=((aD ts k q).1,false):=fun hh=>by
    rw[if_pos hh]at hst;rw[CQ hlt (by rw[hst]),hst]
   have good:¬(atT (aD ts k q).1 ts[k].labels[q]≠0∧atT (aD ts k q).1 ts[k].labels[q]≠ao ts[k] ts[k].labels[q])→aD ts k (q+1)=((aD ts k q).1.set ts[k].labels[q].toNat (ao ts[k] ts[k].labels[q]),true):=fun hh=>by
    rw[if_neg hh]at hst;exact hst
   have hps:=cW (n:=ts[k].labels[q].toNat) (x:=ao ts[k] ts[k].labels[q]) (xs:=(aD ts k q).1) (by omega);have hsl:((aD ts k q).1.set ts[k].labels[q].toNat (ao ts[k] ts[k].labels[q])).length=100:=by rw[List.length_set];exact hDl
   by_cases ha:atT (aD ts k q).1 ts[k].labels[q]=0
   ·have b1:(atT (aD ts k q).1 ts[k].labels[q] !=0)=false:=by simp [ha]
    have hg:=good fun hh=>hh.1 ha
    simp(disch:=omega) only[go_sem,seval,reduceCtorEq,e1,e2,gq,gd,c1,c2,ga,b1];refine⟨by omega, ?_⟩;have hI:(aD ts k (q+1)).2=true:=by rw[hg]
    (refine NextI.drop (mkB 49 140737487831432) (by omega) (hI) (h1:= ?_) (h2:= ?_)<;>first|(simp only[go_sem,seval,reduceCtorEq,nz,na,n1,hg,hps];first|done|rfl)|rfl|skip)
   ·have b1:(atT (aD ts k q).1 ts[k].labels[q] !=0)=true:=by simp [ha]
    by_cases hb2:atT (aD ts k q).1 ts[k].labels[q]=ao ts[k] ts[k].labels[q]
    ·have b2:(atT (aD ts k q).1 ts[k].labels[q] !=ao ts[k] ts[k].labels[q])=false:=by simp [hb2]
     have hg:=good fun hh=>hh.2 hb2
     simp(disch:=omega) only[go_sem,seval,reduceCtorEq,e1,e2,gq,gd,c1,c2,ga,b1,b2];refine⟨by omega, ?_⟩;have hI:(aD ts k (q+1)).2=true:=by rw[hg]
     (refine NextI.drop (mkB 49 140737487831432) (by omega) (hI) (h1:= ?_) (h2:= ?_)<;>first|(simp only[go_sem,seval,reduceCtorEq,nz,na,n1,hg,hps];first|done|rfl)|rfl|skip)
    ·have b2:(atT (aD ts k q).1 ts[k].labels[q] !=ao ts[k] ts[k].labels[q])=true:=by simp [hb2]
     have hf:=fail ⟨ha,hb2⟩;simp(disch:=omega) only[go_sem,seval,reduceCtorEq,e1,e2,gq,gd,c1,c2,ga,b1,b2,htD,hf,hdr];refine⟨by omega,by omega, ?_⟩;(refine FnEnd.mk (r:=.tup [.agg (iv (aD ts k q).1),.d (.bool false)]) (nb rfl) (by simp only[resA,resL,u5,cvL,cv,go_sem,seval,reduceCtorEq,htD,hDl,Nat.le_refl]) (by first|exact zd rfl|simp only[go_sem,seval,reduceCtorEq,List.nodup_nil]) ?_ ?_<;>try simp only[go_sem,seval,reduceCtorEq,htD,hDl,Nat.le_refl])
  ·have e1:¬(q:Int)<ts[k].labels.length:=by omega
   obtain rfl:q=ts[k].labels.length:=by omega
   have hd:=qG hax hlt;simp(disch:=omega) only[go_sem,seval,reduceCtorEq,e1,hd];rw[hd]at hiq;exact NextI.drop (mkB 49 281474976707016) (by omega) (hiq)
 ·have d1:¬(k:Int)<ts.length:=by omega
  have hd:=xO (ts:=ts) (k:=k) (by omega);rw[hd]at hi;simp(disch:=omega) only[go_sem,seval,reduceCtorEq,d1,hd,htR,hi,hdr];refine⟨by omega,by omega, ?_⟩;(refine FnEnd.mk (r:=.tup [.agg (iv (bA ts).1),.d (.bool true)]) (nb rfl) (by simp only[resA,resL,u5,cvL,cv,go_sem,seval,reduceCtorEq,htR,hRl,Nat.le_refl]) (by first|exact zd rfl|simp only[go_sem,seval,reduceCtorEq,List.nodup_nil]) ?_ ?_<;>try simp only[go_sem,seval,reduceCtorEq,htR,hRl,Nat.le_refl])
theorem F2(ts:List Ten)(k:Nat):(tcs ts).take (k*3)=tcs (ts.take k):=by
 induction ts generalizing k with
 |nil=>simp [tcs]
 |cons t l ih=>
  cases k with
  |zero=>simp [tcs]
  |succ k=>
   rw[tcs,show (k+1)*3=k*3+3 by omega];simp [tcs,ih]
theorem x7{ts:List Ten}{x:Int}(h:ts.length≤1048576)(ht:∀t∈ts,TSz 1048576 t)(hax:cQ ts):
  Does Tryz.prog 98 [.d (tens ts),.d (.int x)] [] (.d (.int (dimN ts x))) []:=by
 refine zS Tryz.func98 yd ?_;unfold qN;refine zT ?_;have hI0:∀t∈ts.take 0,x∉t.labels:=fun t ht=>by simp at ht
 refine cI (ts.length) (mkB 26 67107024) (fun k=>∀t∈ts.take k,x∉t.labels) (fun k=>[(10,.d (.int k))]) (fun k=>[]) (hi:=hI0) (hr:=fun k hk hi=> ?_);unfold ph;by_cases hlt:k<ts.length
 ·have d1:(k:Int)<ts.length:=by omega
  have g:ts[k]? =some ts[k]:=zg hlt;have g3:=fj g;have hst:=ht ts[k] (List.getElem_mem hlt);have hat:=hax ts[k] (List.getElem_mem hlt);simp(disch:=omega) only[go_sem,seval,reduceCtorEq,d1,g3];refine⟨by omega, ?_⟩;(refine zC (iY (xs:=ts[k].labels) (x:=x) hst.l.up.len) ?_);by_cases hm:x∈ts[k].labels
  ·obtain⟨i,p1,p2,p3,p4⟩:=cH hat.len hm
   have c2:(i:Int)≥0:=by omega
   have c3:(i:Int)<ts[k].dims.length:=by omega
   have e:=DP hax hlt hi hm;simp(disch:=omega) only[go_sem,seval,reduceCtorEq,p3,c2,c3,p4,e];exact zX
  ·have c2:¬ place ts[k].labels x≥0:=by have:=cx.2 hm;omega
   have hI:∀t∈ts.take (k+1),x∉t.labels:=fun t ht=>by
    rw[ba hlt]at ht;rcases List.mem_append.1 ht with ht|ht
    ·exact hi t ht
    ·simp only[List.mem_singleton]at ht;subst ht;exact hm
   simp(disch:=omega) only[go_sem,seval,reduceCtorEq,c2];exact NextI.drop (mkB 26 67107024) (by omega) (hI)
 ·have d1:¬(k:Int)<ts.length:=by omega
  have e:=uQ (ts:=ts) (x:=x) (by rw[zt (by omega)]at hi;exact hi);simp(disch:=omega) only[go_sem,seval,reduceCtorEq,d1,e];exact zX
theorem zk{ts:List Ten}{L:List Int}(h:ts.length≤1048576)(ht:∀t∈ts,TSz 1048576 t)(hax:cQ ts)(hL:L.length≤1048576):
  Does Tryz.prog 79 [.d (tens ts),.d (ints L)] [] (.own 0 0 L.length) [some ⟨1,true,iv (L.map (dimN ts))⟩]:=by
 refine zS Tryz.func79 xa ?_;unfold py;refine zT ?_;refine aA (L.length) (mkB 23 4190592) (fun k=>[(5,.own 0 0 k),(11,.d (.int k))]) (fun k=>[(0,iv ((L.take k).map (dimN ts)))]) (h1:=by first|(simp only[go_sem,seval,reduceCtorEq,nz,na,n1,List.take_zero,List.map_nil,br];first|done|rfl)|rfl) (h2:=by first|(simp only[go_sem,seval,reduceCtorEq,nz,na,n1,List.take_zero,List.map_nil,br];first|done|rfl)|rfl) (hr:=fun k hk=> ?_);unfold nC;have hkl:((L.take k).map (dimN ts)).length=k:=by simp;omega
 by_cases hlt:k<L.length
 ·have h1:(k:Int)<L.length:=by omega
  have hx:L[k]? =some L[k]:=zg hlt;have hm:(L.take (k+1)).map (dimN ts)=(L.take k).map (dimN ts)++[dimN ts L[k]]:=by rw[ba hlt,List.map_append,List.map_cons,List.map_nil]
  simp(disch:=omega) only[go_sem,seval,reduceCtorEq,h1,hx];(refine zC (x7 (ts:=ts) (x:=L[k]) h ht hax) ?_);simp(disch:=omega) only[go_sem,seval,reduceCtorEq,hkl];refine⟨by omega, ?_⟩;(refine Next.drop (mkB 23 4190592) (by omega) (h1:= ?_) (h2:= ?_)<;>first|(simp only[go_sem,seval,reduceCtorEq,nz,na,n1,hm];first|done|rfl)|rfl|skip)
 ·have h1:¬(k:Int)<L.length:=by omega
  obtain rfl:k=L.length:=by omega
  simp(disch:=omega) only[go_sem,seval,reduceCtorEq,h1];exact zX
theorem di{N:Net}(h:NSz 1048576 N):Does Tryz.prog 26 [netA N] [] (.d (.bool (netOk N))) []:=by
 refine zS Tryz.func26 uB ?_;unfold mI;refine zT ?_;(refine zC (qg N.k N.p N.n) ?_);cases h1:ai ⟨N.k,N.p,N.n⟩
 ·have e:=dr (N:=N) fun e=>by have:=e.1;rw[Net.rg,h1]at this;cases this
  simp only[go_sem,seval,reduceCtorEq,h1,e];exact zX
 by_cases h2:N.ts.length≤12
 rotate_left
 ·have e:=dr (N:=N) fun e=>h2 e.2.1
  have c2:(N.ts.length:Int)>12:=by omega
  simp only[go_sem,seval,reduceCtorEq,h1,c2,e];exact zX
 have c2:¬(N.ts.length:Int)>12:=by omega
 by_cases h3:N.os.length≤12
 rotate_left
 ·have e:=dr (N:=N) fun e=>e.2.2.2.2 (wu (by omega))
  have c3:(N.os.length:Int)>12:=by omega
  simp only[go_sem,seval,reduceCtorEq,h1,c2,c3,e];exact zX
 have c3:¬(N.os.length:Int)>12:=by omega
 simp only[go_sem,seval,reduceCtorEq,h1,c2,c3];have hI0:fM N.rg (N.ts.take 0):=fun t ht=>by simp at ht
 refine cI (N.ts.length) (mkB 72 274341036052) (fun k=>fM N.rg (N.ts.take k)) (fun k=>[(28,.d (.int k))]) (fun k=>[]) (hi:=hI0) (hr:=fun k hk hi=> ?_);unfold kS;by_cases hlt:k<N.ts.length
 ·have d1:(k:Int)<N.ts.length:=by omega
  have g:N.ts[k]? =some N.ts[k]:=zg hlt;have g3:=fj g;have hst:=h.t N.ts[k] (List.getElem_mem hlt);simp(disch:=omega) only[go_sem,seval,reduceCtorEq,d1,g3];refine⟨by omega, ?_⟩;(refine zC (bM (t:=N.ts[k]) h.k h.p h.n hst.up) ?_);cases hto:al ⟨N.k,N.p,N.n⟩ N.ts[k].labels N.ts[k].dims N.ts[k].data
  ·have e:=dr (N:=N) fun e=>by have:=e.2.2.1 N.ts[k] (List.getElem_mem hlt);rw[Net.rg,hto]at this;cases this
   simp only[go_sem,seval,reduceCtorEq,hto,e];exact zX
  ·have hI:fM N.rg (N.ts.take (k+1)):=fun t ht=>by
    rw[ba hlt]at ht;rcases List.mem_append.1 ht with ht|ht
    ·exact hi t ht
    ·simp only[List.mem_singleton]at ht;subst ht;exact hto
   simp(disch:=omega) only[go_sem,seval,reduceCtorEq,hto];exact NextI.drop (mkB 72 274341036052) (by omega) (hI)
 have d1:¬(k:Int)<N.ts.length:=by omega
 have hto:fM N.rg N.ts:=by rw[zt (by omega)]at hi;exact hi
 have hax:=hto.ax;obtain⟨hc1,hc2⟩:=du hax;have hRl:=dz N.ts;have hdr:List.drop 100 (repI 100 0)=[]:=List.drop_of_length_le (by rw[dG];exact Nat.le_refl _);simp(disch:=omega) only[go_sem,seval,reduceCtorEq,d1];(refine zC (jn (ts:=N.ts) h.l h.t hax) ?_);simp(disch:=omega) only[go_sem,seval,reduceCtorEq,hdr];refine⟨by omega, ?_⟩;cases hok:(bA N.ts).2
 ·have e:=dr (N:=N) fun e=>by have:=hc1.2 e.2.2.2.1;rw[hok]at this;cases this
  simp only[go_sem,seval,reduceCtorEq,hok,e];exact zX
 have hat:=hc2 hok;have hcons:=hc1.1 hok;simp only[go_sem,seval,reduceCtorEq,hok];have hJ0:∀j (hj:j<N.os.length),j<0→0≤N.os[j]∧N.os[j]≤99∧dimN N.ts N.os[j]≠0:=fun j _ hj=>absurd hj (Nat.not_lt_zero j)
 have htR:List.take 100 (bA N.ts).1=(bA N.ts).1:=zt (by omega);refine cI (N.os.length) (mkB 72 73785850394931364100) (fun q=>∀j (hj:j<N.os.length),j<q→0≤N.os[j]∧N.os[j]≤99∧dimN N.ts N.os[j]≠0) (fun q=>[(49,.d (.int q))]) (fun q=>[]) (hi:=hJ0) (hr:=fun q hq hiq=> ?_);unfold l7;by_cases hltq:q<N.os.length
 ·have e1:(q:Int)<N.os.length:=by omega
  have g:N.os[q]? =some N.os[q]:=zg hltq;have bad:¬(0≤N.os[q]∧N.os[q]≤99∧dimN N.ts N.os[q]≠0)→netOk N=false:=fun hb=>dr fun e=>e.2.2.2.2 (D7 q hltq hb hax)
  by_cases b1:N.os[q]<0
  ·have e:=bad fun e=>by omega
   simp(disch:=omega) only[go_sem,seval,reduceCtorEq,e1,g,b1,e];exact zX
  by_cases b2:N.os[q]>99
  ·have e:=bad fun e=>by omega
   simp(disch:=omega) only[go_sem,seval,reduceCtorEq,e1,g,b1,b2,e];exact zX
  have hb:0≤N.os[q]∧N.os[q]≤99:=by omega
  have ga:=tJ hRl hb;rw[hat _ hb]at ga;have c1:0≤N.os[q]:=hb.1;have c2:N.os[q]<100:=by omega
  by_cases b3:dimN N.ts N.os[q]=0
  ·have e:=bad fun e=>e.2.2 b3
   have b3':(dimN N.ts N.os[q]==0)=true:=by simp [b3]
   simp(disch:=omega) only[go_sem,seval,reduceCtorEq,e1,g,b1,b2,c1,c2,ga,b3',e];exact zX
  ·have b3':(dimN N.ts N.os[q]==0)=false:=by simp [b3]
   have hI:∀j (hj:j<N.os.length),j<q+1→0≤N.os[j]∧N.os[j]≤99∧dimN N.ts N.os[j]≠0:=fun j hj hjq=>by
    by_cases e:j=q
    ·subst e;exact⟨hb.1,hb.2,b3⟩
    ·exact hiq j hj (by omega)
   simp(disch:=omega) only[go_sem,seval,reduceCtorEq,e1,g,b1,b2,c1,c2,ga,b3'];exact NextI.drop (mkB 72 73785850394931364100) (by omega) (hI)
 have e1:¬(q:Int)<N.os.length:=by omega
 have hosb:∀x∈N.os,0≤x∧x≤99:=fun x hx=>by
  obtain⟨j,hj,rfl⟩:=List.getElem_of_mem hx;have:=hiq j hj (by omega);omega
 have hmap:N.os.map (atT (bA N.ts).1)=N.os.map (dimN N.ts):=List.map_congr_left fun x hx=>hat x (hosb x hx)
 have hml:(N.os.map (dimN N.ts)).length=N.os.length:=by simp
 have htt:List.take N.os.length (N.os.map (dimN N.ts))=N.os.map (dimN N.ts):=zt (by omega);have hdsz:Sz 1048576 (N.os.map (dimN N.ts)):=⟨by omega,fun d hd=>by
  obtain⟨x,_,rfl⟩:=List.mem_map.1 hd;have:=iL hax x;exact⟨by omega,by omega⟩⟩
 have hfin:netOk N=(aT N.os (N.os.map (dimN N.ts)) != -1):=by
  by_cases e:aT N.os (N.os.map (dimN N.ts))= -1
  ·rw[dr fun hh=>hh.2.2.2.2 e,e];rfl
  ·rw[ae.2 ⟨h1,h2,hto,hcons,e⟩];simp [e]
 simp(disch:=omega) only[go_sem,seval,reduceCtorEq,e1,htR,hRl];(refine zC (tD (D:=(bA N.ts).1) (L:=N.os) hRl h.o.len hosb) ?_);rw[hmap];refine zV ?_;(refine zC (lI (t:=⟨N.os,N.os.map (dimN N.ts),[]⟩) ⟨h.o.up,hdsz.up,⟨by simp,by simp⟩⟩) ?_ (by simp only[go_sem,seval,reduceCtorEq,hml,htt]));simp(disch:=omega) only[go_sem,seval,reduceCtorEq,hfin];exact zX
theorem Aw{N:Net}(h:NSz 1048576 N):Does Tryz.prog 78 [netA N] [] (.d (.bool (netOk N))) []:=by
 have hhl:=h.l;refine zS Tryz.func78 un ?_;unfold mu;refine zT ?_;(refine zC (yK N.k N.p N.n) ?_);cases h1:ai ⟨N.k,N.p,N.n⟩
 ·have e:=dr (N:=N) fun e=>by have:=e.1;rw[Net.rg,h1]at this;cases this
  simp only[go_sem,seval,reduceCtorEq,h1,e];exact zX
 by_cases h2:N.ts.length≤12
 rotate_left
 ·have e:=dr (N:=N) fun e=>h2 e.2.1
  have c2:(N.ts.length:Int)>12:=by omega
  simp only[go_sem,seval,reduceCtorEq,h1,c2,e];exact zX
 have c2:¬(N.ts.length:Int)>12:=by omega
 simp only[go_sem,seval,reduceCtorEq,h1,c2];have hI0:fM N.rg (N.ts.take 0)∧∀j,j<0→A8 N.ts j:=⟨fun t ht=>by simp at ht,fun j hj=>absurd hj (Nat.not_lt_zero j)⟩;refine cI (N.ts.length) (mkB 68 288230376147517692) (fun k=>fM N.rg (N.ts.take k)∧∀j,j<k→A8 N.ts j) (fun k=>[(21,.d (.int k))]) (fun k=>[]) (hi:=hI0) (hr:=fun k hk hi=> ?_);unfold kQ;obtain⟨hi,hcs⟩:=hi;by_cases hlt:k<N.ts.length
 ·have d1:(k:Int)<N.ts.length:=by omega
  have d3:(k:Int)≤N.ts.length:=by omega
  have g:N.ts[k]? =some N.ts[k]:=zg hlt;have g3:=fj g;have hst:=h.t N.ts[k] (List.getElem_mem hlt);have hpre:=hi.ax;have htk:(N.ts.take k).length=k:=by simp;omega
  have htt:∀t∈N.ts.take k,TSz 1048576 t:=fun t ht=>h.t t (List.mem_of_mem_take ht)
  simp(disch:=omega) only[go_sem,seval,reduceCtorEq,d1,g3];refine⟨by omega, ?_⟩;(refine zC (BF (t:=N.ts[k]) h.k h.p h.n hst.up) ?_);cases hto:al ⟨N.k,N.p,N.n⟩ N.ts[k].labels N.ts[k].dims N.ts[k].data
  ·have e:=dr (N:=N) fun e=>by have:=e.2.2.1 N.ts[k] (List.getElem_mem hlt);rw[Net.rg,hto]at this;cases this
   simp only[go_sem,seval,reduceCtorEq,hto,e];exact zX
  have hat:=(bI hto).2.1;have hl:=hat.len;have hstl:=hst.l.len;simp(disch:=omega) only[go_sem,seval,reduceCtorEq,hto];have hJ0:∀x∈N.ts[k].labels.take 0,dimN (N.ts.take k) x=0∨dimN (N.ts.take k) x=ao N.ts[k] x:=fun x hx=>by simp at hx
  refine cI (N.ts[k].labels.length) (mkB 68 144115153716117732) (fun q=>∀x∈N.ts[k].labels.take q,dimN (N.ts.take k) x=0∨dimN (N.ts.take k) x=ao N.ts[k] x) (fun q=>[(34,.d (.int q))]) (fun q=>[]) (hi:=hJ0) (hr:=fun q hq hiq=> ?_);unfold kX;by_cases hltq:q<N.ts[k].labels.length
  ·have e1:(q:Int)<N.ts[k].labels.length:=by omega
   have e2:(q:Int)<N.ts[k].dims.length:=by omega
   have gq:N.ts[k].labels[q]? =some N.ts[k].labels[q]:=zg hltq;have gd:N.ts[k].dims[q]? =some (ao N.ts[k] N.ts[k].labels[q]):=by rw[gJ hat hltq (by omega)];exact zg (by omega)
   have bad:¬(dimN (N.ts.take k) N.ts[k].labels[q]=0∨dimN (N.ts.take k) N.ts[k].labels[q]=ao N.ts[k] N.ts[k].labels[q])→netOk N=false:=fun hb=>dr fun e=>hb (e.2.2.2.1 k hlt _ hlt (List.getElem_mem hltq))
   have good:(dimN (N.ts.take k) N.ts[k].labels[q]=0∨dimN (N.ts.take k) N.ts[k].labels[q]=ao N.ts[k] N.ts[k].labels[q])→∀x∈N.ts[k].labels.take (q+1),dimN (N.ts.take k) x=0∨dimN (N.ts.take k) x=ao N.ts[k] x:=fun hb x hx=>by
    rw[ba hltq]at hx;rcases List.mem_append.1 hx with hx|hx
    ·exact hiq x hx
    ·simp only[List.mem_singleton]at hx;subst hx;exact hb
   simp(disch:=omega) only[go_sem,seval,reduceCtorEq,e1,gq,d3];simp only[true_or,Int.sub_zero,Int.toNat_natCast,go_sem,seval,reduceCtorEq];(refine zC (x7 (ts:=N.ts.take k) (x:=N.ts[k].labels[q]) (by omega) htt hpre) ?_ (by simp only[go_sem,seval,reduceCtorEq,htk,F2]));have hbd:=iL hpre N.ts[k].labels[q];by_cases ha:dimN (N.ts.take k) N.ts[k].labels[q]=0
   ·have b1:¬ dimN (N.ts.take k) N.ts[k].labels[q]>0:=by omega
    have hI:=good (.inl ha);simp(disch:=omega) only[go_sem,seval,reduceCtorEq,b1];exact NextI.drop (mkB 68 144115153716117732) (by omega) (hI)
   ·have b1:dimN (N.ts.take k) N.ts[k].labels[q]>0:=by omega
    by_cases hb2:dimN (N.ts.take k) N.ts[k].labels[q]=ao N.ts[k] N.ts[k].labels[q]
    ·have b2:(dimN (N.ts.take k) N.ts[k].labels[q] !=ao N.ts[k] N.ts[k].labels[q])=false:=by simp [hb2]
     have hI:=good (.inr hb2);simp(disch:=omega) only[go_sem,seval,reduceCtorEq,b1,b2,e2,gd];exact NextI.drop (mkB 68 144115153716117732) (by omega) (hI)
    ·have b2:(dimN (N.ts.take k) N.ts[k].labels[q] !=ao N.ts[k] N.ts[k].labels[q])=true:=by simp [hb2]
     have e:=bad fun hh=>hh.elim ha hb2
     simp(disch:=omega) only[go_sem,seval,reduceCtorEq,b1,b2,e2,gd,e];exact zX
  ·have e1:¬(q:Int)<N.ts[k].labels.length:=by omega
   obtain rfl:q=N.ts[k].labels.length:=by omega
   rw[List.take_length]at hiq;have hI:fM N.rg (N.ts.take (k+1))∧∀j,j<k+1→A8 N.ts j:=⟨fun t ht=>by
    rw[ba hlt]at ht;rcases List.mem_append.1 ht with ht|ht
    ·exact hi t ht
    ·simp only[List.mem_singleton]at ht;subst ht;exact hto,fun j hj=>by
    by_cases e:j=k
    ·subst e;exact fun x _ hx=>hiq x hx
    ·exact hcs j (by omega)⟩
   simp(disch:=omega) only[go_sem,seval,reduceCtorEq,e1];exact NextI.drop (mkB 68 288230376147517692) (by omega) (hI)
 have d1:¬(k:Int)<N.ts.length:=by omega
 have hto:fM N.rg N.ts:=by rw[zt (by omega)]at hi;exact hi
 have hax:=hto.ax;have hcons:A9 N.ts:=fun j hj=>hcs j (by omega)
 have hml:(N.os.map (dimN N.ts)).length=N.os.length:=by simp
 have htt:List.take N.os.length (N.os.map (dimN N.ts))=N.os.map (dimN N.ts):=zt (by omega);have hdsz:Sz 1048576 (N.os.map (dimN N.ts)):=⟨by have:=h.o.len;omega,fun d hd=>by
  obtain⟨x,_,rfl⟩:=List.mem_map.1 hd;have:=iL hax x;exact⟨by omega,by omega⟩⟩
 have hfin:netOk N=decide (aT N.os (N.os.map (dimN N.ts))≥0):=by
  by_cases e:aT N.os (N.os.map (dimN N.ts))= -1
  ·rw[dr fun hh=>hh.2.2.2.2 e,e];rfl
  ·rw[ae.2 ⟨h1,h2,hto,hcons,e⟩]
   rcases dd N.os (N.os.map (dimN N.ts))with e'|⟨_,_,e',_⟩
   ·exact absurd e' e
   ·exact(decide_eq_true (by omega)).symm
 simp(disch:=omega) only[go_sem,seval,reduceCtorEq,d1];(refine zD (zk (ts:=N.ts) (L:=N.os) h.l h.t hax h.o.len) ?_);refine zV ?_;(refine zC (qz (t:=⟨N.os,N.os.map (dimN N.ts),[]⟩) ⟨h.o.up,hdsz.up,⟨by simp,by simp⟩⟩) ?_ (by simp only[go_sem,seval,reduceCtorEq,hml,htt]));simp(disch:=omega) only[go_sem,seval,reduceCtorEq,hfin];exact zX
set_option maxRecDepth 100000
noncomputable def rk(N:Net)(x:Int):Int:=if netOk N=true then dimN N.ts x else 0
theorem Fr{N:Net}{x:Int}(h:netOk N=false):rk N x=0:=by simp [rk,h]
theorem rj{N:Net}{x:Int}(h:netOk N=true):rk N x=dimN N.ts x:=by simp [rk,h]
theorem Ii{N:Net}{x:Int}(h:NSz 1048576 N):Does Tryz.prog 125 [netA N,.d (.int x)] [] (.d (.int (rk N x))) []:=by
 refine zS Tryz.func125 AQ ?_;unfold tT;refine zT ?_;(refine zC (di h) ?_);cases h1:netOk N
 ·have e:=Fr (x:=x) h1
  simp only[go_sem,seval,reduceCtorEq,h1,e];exact zX
 have e:=rj (x:=x) h1;have hax:=bq h1;have hok:=(du hax).1.2 (ae.1 h1).2.2.2.1;have hat:=(du hax).2 hok;have hRl:=dz N.ts;have hdr:List.drop 100 (repI 100 0)=[]:=List.drop_of_length_le (by rw[dG];exact Nat.le_refl _);by_cases b1:x<0
 ·have e2:=xP hax (x:=x) (by omega)
  simp only[go_sem,seval,reduceCtorEq,h1,b1,e,e2];exact zX
 by_cases b2:x>99
 ·have e2:=xP hax (x:=x) (by omega)
  simp only[go_sem,seval,reduceCtorEq,h1,b1,b2,e,e2];exact zX
 have hb:0≤x∧x≤99:=by omega
 have ga:=tJ hRl hb;rw[hat x hb]at ga;have c1:0≤x:=hb.1;have c2:x<100:=by omega
 simp only[go_sem,seval,reduceCtorEq,h1,b1,b2];(refine zC (jn (ts:=N.ts) h.l h.t hax) ?_);simp(disch:=omega) only[go_sem,seval,reduceCtorEq,hdr,hRl,c1,c2,ga,e];exact zX
set_option maxRecDepth 100000
def aX(p:Nat→Bool)(n:Nat):List Int:=((List.range n).filter p).map fun (i:Nat)=>(i:Int)
theorem ky(p:Nat→Bool):aX p 0=[]:=rfl
theorem wN{p:Nat→Bool}{k:Nat}(h:p k=true):aX p (k+1)=aX p k++[(k:Int)]:=by simp [aX,List.range_succ,h]
theorem yW{p:Nat→Bool}{k:Nat}(h:p k=false):aX p (k+1)=aX p k:=by simp [aX,List.range_succ,h]
theorem fQ(p:Nat→Bool)(k:Nat):(aX p k).length≤k:=by
 rw[aX,List.length_map];exact Nat.le_trans (List.length_filter_le _ _) (by simp)
theorem rh{p:Nat→Bool}{n:Nat}{x:Int}(h:x∈aX p n):∃i:Nat,i<n∧p i=true∧x=i:=by
 simp only[aX,List.mem_map,List.mem_filter,List.mem_range]at h;obtain⟨i,⟨h1,h2⟩,rfl⟩:=h;exact⟨i,h1,h2,rfl⟩
theorem Fk(p:Nat→Bool){n:Nat}(h:n≤1048576):Sz 1048576 (aX p n):=⟨Nat.le_trans (fQ p n) h,fun x hx=>by
 obtain⟨i,h1,_,rfl⟩:=rh hx;exact⟨by omega,by omega⟩⟩
def labP(ts:List Ten)(i:Nat):Bool:=dimN ts i !=0
noncomputable def an(N:Net):List Int:=if netOk N=true then aX (labP N.ts) 100 else []
theorem rm(N:Net):Sz 1048576 (an N):=by
 unfold an;split
 ·exact Fk _ (by omega)
 ·exact⟨by simp,by simp⟩
theorem C4{D:List Int}{ts:List Ten}(hD:D.length=100)(hat:∀x,0≤x∧x≤99→atT D x=dimN ts x):
  Does Tryz.prog 100 [.agg (iv D)] [] (.own 0 0 (aX (labP ts) 100).length) [some ⟨1,true,iv (aX (labP ts) 100)⟩]:=by
 have htD:List.take 100 D=D:=zt (by omega);refine zS Tryz.func100 uu ?_;unfold mB;(simp only[Nat.reduceSub,Zl,zn,Nat.reduceAdd,zF];try simp only[IZ]);(simp only[go_sem,seval,reduceCtorEq,List.replicate,hD,htD]);(refine bC (Wk.nilE 3 1 _ _ rfl) ?_;simp only[go_sem,seval,reduceCtorEq])
 refine aA (100) (mkB 19 261936) (fun k=>[(3,.own 1 0 (aX (labP ts) k).length),(7,.d (.int k))]) (fun k=>[(1,iv (aX (labP ts) k))]) (h1:=by first|(simp only[go_sem,seval,reduceCtorEq,nz,na,n1,ky,br];first|done|rfl)|rfl) (h2:=by first|(simp only[go_sem,seval,reduceCtorEq,nz,na,n1,ky,br];first|done|rfl)|rfl) (hr:=fun k hk=> ?_);unfold l3;have hpl:=fQ (labP ts) k;by_cases hlt:k<100
 ·have d1:(k:Int)<100:=by omega
  have g:D[k]? =some (dimN ts k):=by
   have:=tJ hD (x:=k) (by omega);rw[hat _ (by omega)]at this;simpa using this
  cases hp:labP ts k
  ·have c:(dimN ts k !=0)=false:=hp
   simp(disch:=omega) only[go_sem,seval,reduceCtorEq,d1,g,c];(refine Next.drop (mkB 19 261936) (by omega) (h1:= ?_) (h2:= ?_)<;>first|(simp only[go_sem,seval,reduceCtorEq,nz,na,n1,yW hp];first|done|rfl)|rfl|skip)
  ·have c:(dimN ts k !=0)=true:=hp
   simp(disch:=omega) only[go_sem,seval,reduceCtorEq,d1,g,c];refine⟨by omega, ?_⟩;(refine Next.drop (mkB 19 261936) (by omega) (h1:= ?_) (h2:= ?_)<;>first|(simp only[go_sem,seval,reduceCtorEq,nz,na,n1,wN hp,List.length_append];first|done|rfl)|rfl|skip)
 ·have d1:¬(k:Int)<100:=by omega
  obtain rfl:k=100:=by omega
  simp(disch:=omega) only[go_sem,seval,reduceCtorEq,d1];exact zX
theorem Ct{N:Net}(h:NSz 1048576 N):Does Tryz.prog 64 [netA N] [] (.own 0 0 (an N).length) [some ⟨1,true,iv (an N)⟩]:=by
 refine zS Tryz.func64 vO ?_;unfold o7;refine zT ?_;(refine zC (di h) ?_);cases h1:netOk N
 ·have e:an N=[]:=by simp [an,h1]
  simp only[go_sem,seval,reduceCtorEq,h1,e];refine FnEnd.wk (Wk.nilE 2 1 _ _ rfl) ?_;exact zX
 have e:an N=aX (labP N.ts) 100:=by simp [an,h1]
 have hax:=bq h1;have hok:=(du hax).1.2 (ae.1 h1).2.2.2.1;have hat:=(du hax).2 hok;have hRl:=dz N.ts;have htR:List.take 100 (bA N.ts).1=(bA N.ts).1:=zt (by omega);have hdr:List.drop 100 (repI 100 0)=[]:=List.drop_of_length_le (by rw[dG];exact Nat.le_refl _);simp only[go_sem,seval,reduceCtorEq,h1];(refine zC (jn (ts:=N.ts) h.l h.t hax) ?_);simp(disch:=omega) only[go_sem,seval,reduceCtorEq,hdr,hRl,htR];(refine zC (C4 hRl hat) ?_);simp only[go_sem,seval,reduceCtorEq,e];exact zX
theorem oG{ts:List Ten}(h:ts.length≤1048576)(ht:∀t∈ts,TSz 1048576 t)(hax:cQ ts):Does Tryz.prog 58 [.d (tens ts)] [] (.own 0 0 (aX (labP ts) 100).length) [some ⟨1,true,iv (aX (labP ts) 100)⟩]:=by
 refine zS Tryz.func58 ul ?_;unfold mr;refine zT ?_;refine aA (100) (mkB 19 262112) (fun k=>[(3,.own 0 0 (aX (labP ts) k).length),(4,.d (.int k))]) (fun k=>[(0,iv (aX (labP ts) k))]) (h1:=by first|(simp only[go_sem,seval,reduceCtorEq,nz,na,n1,ky,br];first|done|rfl)|rfl) (h2:=by first|(simp only[go_sem,seval,reduceCtorEq,nz,na,n1,ky,br];first|done|rfl)|rfl) (hr:=fun k hk=> ?_);unfold kV;have hpl:=fQ (labP ts) k;have hbd:=iL hax k;by_cases hlt:k<100
 ·have d1:(k:Int)≤99:=by omega
  simp(disch:=omega) only[go_sem,seval,reduceCtorEq,d1];(refine zC (x7 (ts:=ts) (x:=k) h ht hax) ?_);cases hp:labP ts k
  ·have c':dimN ts k=0:=by simpa [labP]using hp
   have c:¬ dimN ts k>0:=by omega
   simp(disch:=omega) only[go_sem,seval,reduceCtorEq,c];(refine Next.drop (mkB 19 262112) (by omega) (h1:= ?_) (h2:= ?_)<;>first|(simp only[go_sem,seval,reduceCtorEq,nz,na,n1,yW hp];first|done|rfl)|rfl|skip)
  ·have c':dimN ts k≠0:=by simpa [labP]using hp
   have c:dimN ts k>0:=by omega
   simp(disch:=omega) only[go_sem,seval,reduceCtorEq,c];refine⟨by omega, ?_⟩;(refine Next.drop (mkB 19 262112) (by omega) (h1:= ?_) (h2:= ?_)<;>first|(simp only[go_sem,seval,reduceCtorEq,nz,na,n1,wN hp,List.length_append];first|done|rfl)|rfl|skip)
 ·have d1:¬(k:Int)≤99:=by omega
  obtain rfl:k=100:=by omega
  simp(disch:=omega) only[go_sem,seval,reduceCtorEq,d1];exact zX
set_option maxRecDepth 100000
noncomputable def aE(N:Net):List Int:=wol (an N) N.os
theorem xU(N:Net):Sz 1048576 (aE N):=by
 have h:=rm N;exact⟨Nat.le_trans (Ak _ _) h.len,fun x hx=>h.wf x (Aj.1 hx).1⟩
theorem vS{N:Net}(h:NSz 1048576 N):Does Tryz.prog 27 [netA N] [] (.own 0 0 (aE N).length) [some ⟨1,true,iv (aE N)⟩]:=by
 have hl:=(rm N).len;have hol:=h.o.len;have htl:List.take (an N).length (an N)=an N:=List.take_length;refine zS Tryz.func27 qw ?_;unfold ix;refine zT ?_;(refine zC (Ct h) ?_);refine zU ?_;(refine bC (Wk.nilE 3 1 _ _ rfl) ?_;simp only[go_sem,seval,reduceCtorEq])
 refine aA ((an N).length) (mkB 24 8387616) (fun k=>[(3,.own 2 0 (wol ((an N).take k) N.os).length),(9,.d (.int k))]) (fun k=>[(2,iv (wol ((an N).take k) N.os))]) (h1:=by first|(simp only[go_sem,seval,reduceCtorEq,nz,na,n1,List.take_zero,wol,List.filter_nil,br];first|done|rfl)|rfl) (h2:=by first|(simp only[go_sem,seval,reduceCtorEq,nz,na,n1,List.take_zero,wol,List.filter_nil,br];first|done|rfl)|rfl) (hr:=fun k hk=> ?_);unfold gW;have hwl:=Ak ((an N).take k) N.os;have htk:((an N).take k).length≤(an N).length:=by rw[List.length_take];omega
 by_cases hlt:k<(an N).length
 ·have d1:(k:Int)<(an N).length:=by omega
  have g:(an N)[k]? =some (an N)[k]:=zg hlt;simp(disch:=omega) only[go_sem,seval,reduceCtorEq,d1,g];(refine zC (dO (xs:=N.os) (x:=(an N)[k]) (by omega)) ?_);cases he:has N.os (an N)[k]
  ·have e:wol ((an N).take (k+1)) N.os=wol ((an N).take k) N.os++[(an N)[k]]:=dR (p:=fun x=> !has N.os x) hlt (by rw[he];rfl)
   simp(disch:=omega) only[go_sem,seval,reduceCtorEq,he];refine⟨by omega, ?_⟩;(refine Next.drop (mkB 24 8387616) (by omega) (h1:= ?_) (h2:= ?_)<;>first|(simp only[go_sem,seval,reduceCtorEq,nz,na,n1,e,List.length_append];first|done|rfl)|rfl|skip)
  ·have e:wol ((an N).take (k+1)) N.os=wol ((an N).take k) N.os:=dy (p:=fun x=> !has N.os x) hlt (by rw[he];rfl)
   simp(disch:=omega) only[go_sem,seval,reduceCtorEq,he];(refine Next.drop (mkB 24 8387616) (by omega) (h1:= ?_) (h2:= ?_)<;>first|(simp only[go_sem,seval,reduceCtorEq,nz,na,n1,e];first|done|rfl)|rfl|skip)
 ·have d1:¬(k:Int)<(an N).length:=by omega
  have htq:List.take k (an N)=an N:=zt (by omega);simp(disch:=omega) only[go_sem,seval,reduceCtorEq,d1,htq];(refine zE ?_ ?_<;>try simp only[go_sem,seval,reduceCtorEq])
  all_goals rfl
theorem Ce{N:Net}(h:NSz 1048576 N)(h1:netOk N=true):Does Tryz.prog 25 [netA N] [] (.own 0 0 (aE N).length) [some ⟨1,true,iv (aE N)⟩]:=by
 have hl:=(rm N).len;have hol:=h.o.len;have hlab:an N=aX (labP N.ts) 100:=by simp [an,h1]
 refine zS Tryz.func25 uj ?_;unfold mp;refine zT ?_;(refine zC (oG (ts:=N.ts) h.l h.t (bq h1)) ?_);rw[← hlab];refine zU ?_;refine aA ((an N).length) (mkB 26 33550432) (fun k=>[(3,.own 1 0 (wol ((an N).take k) N.os).length),(11,.d (.int k))]) (fun k=>[(1,iv (wol ((an N).take k) N.os))]) (h1:=by first|(simp only[go_sem,seval,reduceCtorEq,nz,na,n1,List.take_zero,wol,List.filter_nil,br];first|done|rfl)|rfl) (h2:=by first|(simp only[go_sem,seval,reduceCtorEq,nz,na,n1,List.take_zero,wol,List.filter_nil,br];first|done|rfl)|rfl) (hr:=fun k hk=> ?_);unfold kT;have hwl:=Ak ((an N).take k) N.os
 have htk:((an N).take k).length≤(an N).length:=by rw[List.length_take];omega
 by_cases hlt:k<(an N).length
 ·have d1:(k:Int)<(an N).length:=by omega
  have g:(an N)[k]? =some (an N)[k]:=zg hlt;simp(disch:=omega) only[go_sem,seval,reduceCtorEq,d1,g];(refine zC (iY (xs:=N.os) (x:=(an N)[k]) (by omega)) ?_);by_cases he:(an N)[k]∈N.os
  ·have c:¬ place N.os (an N)[k]<0:=fun e=>cx.1 e he
   have e:wol ((an N).take (k+1)) N.os=wol ((an N).take k) N.os:=dy (p:=fun x=> !has N.os x) hlt (by rw[aQ.2 he];rfl);simp(disch:=omega) only[go_sem,seval,reduceCtorEq,c];(refine Next.drop (mkB 26 33550432) (by omega) (h1:= ?_) (h2:= ?_)<;>first|(simp only[go_sem,seval,reduceCtorEq,nz,na,n1,e];first|done|rfl)|rfl|skip)
  ·have c:place N.os (an N)[k]<0:=cx.2 he
   have e:wol ((an N).take (k+1)) N.os=wol ((an N).take k) N.os++[(an N)[k]]:=dR (p:=fun x=> !has N.os x) hlt (by rw[aI.2 he];rfl);simp(disch:=omega) only[go_sem,seval,reduceCtorEq,c];refine⟨by omega, ?_⟩;(refine Next.drop (mkB 26 33550432) (by omega) (h1:= ?_) (h2:= ?_)<;>first|(simp only[go_sem,seval,reduceCtorEq,nz,na,n1,e,List.length_append];first|done|rfl)|rfl|skip)
 ·have d1:¬(k:Int)<(an N).length:=by omega
  have htq:List.take k (an N)=an N:=zt (by omega);simp(disch:=omega) only[go_sem,seval,reduceCtorEq,d1,htq];(refine zE ?_ ?_<;>try simp only[go_sem,seval,reduceCtorEq])
  all_goals rfl
set_option maxRecDepth 100000
theorem yT:∀{ds:List Int},(∀d∈ds,1≤d∧d≤8)→1≤aa ds∧aa ds≤8 ^ ds.length
 | [],_=>by simp [aa]
 |d :: ds,h=>by
  have ih:=yT (ds:=ds) fun x hx=>h x (List.mem_cons_of_mem _ hx)
  have hd:=h d (List.mem_cons_self ..);have e:aa (d :: ds)=d*aa ds:=bi d ds;have h1:d*1≤d*aa ds:=Int.mul_le_mul_of_nonneg_left ih.1 (by omega);have h2:d*aa ds≤8*aa ds:=Int.mul_le_mul_of_nonneg_right hd.2 (by omega);rw[e,Zl,Int.pow_succ];generalize d*aa ds=q at*;exact⟨by omega,by omega⟩
noncomputable def cntS(N:Net)(L:List Int):Int:=if netOk N=true∧L.length≤4∧zQ (aE N) L=true then aa (L.map (dimN N.ts)) else -1
theorem Bc{N:Net}{L:List Int}(h:¬(netOk N=true∧L.length≤4∧zQ (aE N) L=true)):cntS N L= -1:=by rw[cntS,if_neg h]
theorem js{N:Net}(hok:netOk N=true){x:Int}(hx:x∈aE N):(0≤x∧x≤99)∧1≤dimN N.ts x∧dimN N.ts x≤8:=by
 have h1:=(Aj.1 hx).1;rw[an,if_pos hok]at h1;obtain⟨i,hi,hp,rfl⟩:=rh h1;have hb:=iL (bq hok) i;refine⟨by omega, ?_⟩;unfold labP at hp;simp only[bne_iff_ne,ne_eq]at hp;omega
theorem dw{N:Net}{L:List Int}(h:NSz 1048576 N)(hL:Sz 1048576 L):Does Tryz.prog 8 [netA N,.d (ints L)] [] (.d (.int (cntS N L))) []:=by
 have hnl:=h.l;have hcl:=(xU N).len;refine zS Tryz.func8 sS ?_;unfold lu;refine zT ?_;(refine zC (di h) ?_);cases hok:netOk N
 ·have e:=Bc (N:=N) (L:=L) (by simp [hok])
  simp only[go_sem,seval,reduceCtorEq,hok,e];exact zX
 simp only[go_sem,seval,reduceCtorEq,hok];by_cases b1:(L.length:Int)>4
 ·have e:=Bc (N:=N) (L:=L) (by omega)
  simp only[go_sem,seval,reduceCtorEq,b1,e];exact zX
 have hax:=bq hok;simp only[go_sem,seval,reduceCtorEq,b1];(refine zC (vS h) ?_);refine zU ?_;refine cI (L.length) (mkB 54 1099494850768) (fun k=>∀j (hj:j<L.length),j<k→L[j]∈aE N∧L[j]∉L.take j) (fun k=>[(23,.d (.int k))]) (fun k=>[]) (hi:=fun j _ hj=>absurd hj (Nat.not_lt_zero j)) (hr:=fun k hk hi=> ?_);unfold ka;by_cases hlt:k<L.length
 ·have d1:(k:Int)<L.length:=by omega
  have g:L[k]? =some L[k]:=zg hlt;have hbad:¬(L[k]∈aE N∧L[k]∉L.take k)→cntS N L= -1:=fun hb=>Bc fun e=>by rw[IL k hlt hb]at e;simp at e
  have htk:(L.take k).length=k:=by rw[List.length_take];omega
  simp(disch:=omega) only[go_sem,seval,reduceCtorEq,d1,g];(refine zC (dO (xs:=aE N) (x:=L[k]) (by omega)) ?_);cases hh:has (aE N) L[k]
  ·have e:=hbad fun x=>aI.1 hh x.1
   simp(disch:=omega) only[go_sem,seval,reduceCtorEq,hh,e];exact zX
  simp(disch:=omega) only[go_sem,seval,reduceCtorEq,hh]
  (repeat (refine And.intro (by omega) ?_))
  (refine zC (dO (xs:=L.take k) (x:=L[k]) (by omega)) ?_ (by simp only[go_sem,seval,reduceCtorEq,htk,Int.sub_zero]));cases hh2:has (L.take k) L[k]
  ·have hI:∀j (hj:j<L.length),j<k+1→L[j]∈aE N∧L[j]∉L.take j:=fun j hj hjk=>by
    by_cases e:j=k
    ·subst e
     exact⟨aQ.1 hh,aI.1 hh2⟩
    ·exact hi j hj (by omega)
   simp(disch:=omega) only[go_sem,seval,reduceCtorEq,hh2];exact NextI.drop (mkB 54 1099494850768) (by omega) (hI)
  ·have e:=hbad fun x=>x.2 (aQ.1 hh2)
   simp(disch:=omega) only[go_sem,seval,reduceCtorEq,hh2,e];exact zX
 have d1:¬(k:Int)<L.length:=by omega
 obtain rfl:k=L.length:=by omega
 have hdi:zQ (aE N) L=true:=decide_eq_true fun k hk=>hi k hk hk
 have hmem:∀x∈L,x∈aE N:=(CP hdi).2;have e:cntS N L=aa (L.map (dimN N.ts)):=by rw[cntS,if_pos ⟨hok,by omega,hdi⟩]
 have hdr:List.drop 100 (repI 100 0)=[]:=List.drop_of_length_le (by rw[dG];exact Nat.le_refl _);have hRl:=dz N.ts;have hok2:=(du hax).1.2 (ae.1 hok).2.2.2.1;have hat:=(du hax).2 hok2;have hmp:L.map (atT (bA N.ts).1)=L.map (dimN N.ts):=List.map_congr_left fun x hx=>hat x (js hok (hmem x hx)).1
 have hds:∀d∈L.map (dimN N.ts),1≤d∧d≤8:=fun d hd=>by
  obtain⟨x,hx,rfl⟩:=List.mem_map.1 hd
  exact(js hok (hmem x hx)).2
 have hpp:=yT hds;have hml:(L.map (dimN N.ts)).length=L.length:=by simp
 have hpw:(8:Int) ^ (L.map (dimN N.ts)).length≤4096:=by
  rw[hml];have:L.length=0∨L.length=1∨L.length=2∨L.length=3∨L.length=4:=by omega
  rcases this with q|q|q|q|q<;>rw[q]<;>decide
 clear hi;simp(disch:=omega) only[go_sem,seval,reduceCtorEq,d1];(refine zC (jn (ts:=N.ts) h.l h.t hax) ?_);simp(disch:=omega) only[go_sem,seval,reduceCtorEq,hdr,hRl];have ht100:(bA N.ts).1.take 100=(bA N.ts).1:=zt (by omega);have htL:(L.map (dimN N.ts)).take L.length=L.map (dimN N.ts):=zt (by omega);(refine zC (tD (D:=(bA N.ts).1) (L:=L) hRl hL.len (fun x hx=>(js hok (hmem x hx)).1)) ?_ (by simp only[go_sem,seval,reduceCtorEq,ht100]));simp(disch:=omega) only[go_sem,seval,reduceCtorEq,hmp]
 (refine zC (gt (ds:=L.map (dimN N.ts)) (by omega) (fun d hd=>(hds d hd).1) (by omega)) ?_ (by simp only[go_sem,seval,reduceCtorEq,hml,htL]));have c9:¬ aa (L.map (dimN N.ts))>65536:=by omega
 simp(disch:=omega) only[go_sem,seval,reduceCtorEq,c9,e];exact zX
end Go.Proofs.YtobhmajhachnaaaGreatDoor
