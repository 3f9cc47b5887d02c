/-
 Contracts: networks sliced. No condition.
-/
import Derived.Test.YtobhmajhachnaaaGreatDoorMgJobsA
import Derived.Test.YtobhmajhachnaaaGreatDoorConS
import Derived.Test.YtobhmajhachnaaaGreatDoorNetC
import Derived.Test.YtobhmajhachnaaaGreatDoorNetG
set_option linter.unusedSimpArgs false
set_option linter.unusedVariables false
namespace Go.Proofs.YtobhmajhachnaaaGreatDoor
open Go.RowKit Go.Lift Plain
set_option maxRecDepth 100000
theorem zY{N:Net}(h:netOk N=true){t:Ten}(ht:t∈N.ts){x:Int}(hx:x∈t.labels):ao t x=dimN N.ts x:=by
 obtain⟨k,hk,rfl⟩:=List.mem_iff_getElem.1 ht;have hax:=bq h;have hc:=(ae.1 h).2.2.2.1 k hk x hk hx;have hd:=cg (hax _ (List.getElem_mem hk)) hx;have h1:dimN (N.ts.take (k+1)) x=ao N.ts[k] x:=by
  rw[uR hax hk,if_pos hx];split
  ·rfl
  ·rcases hc with e|e
   ·rename_i h0;exact absurd e h0
   ·exact e
 have h2:=oZ (N.ts.take (k+1)) (N.ts.drop (k+1)) x fun t ht hx=>by
  have:=cg (hax t (List.mem_of_mem_take ht)) hx;omega
 rw[List.take_append_drop,h1,if_neg (by omega)]at h2;exact h2.symm
def slcT(r:Rg)(x v:Int)(t:Ten):Ten:=if x∈t.labels then sliT r t x v else t
noncomputable def slcB(N:Net)(x v:Int):Bool:=netOk N&&decide (0≤v∧v<rk N x)
def GL(N:Net)(x v:Int):Net:=⟨N.k,N.p,N.n,N.ts.map (slcT N.rg x v),N.os.filter (· !=x)⟩
noncomputable def slcN(N:Net)(x v:Int):Net:=bif slcB N x v then GL N x v else La
theorem JE{N:Net}{x v:Int}(h:slcB N x v=true){t:Ten}(ht:t∈N.ts)(hx:x∈t.labels):sliB N.rg t x v=true:=by
 simp only[slcB,Bool.and_eq_true,decide_eq_true_eq]at h;have hd:=zY h.1 ht hx;rw[rj h.1, ← hd]at h;have hok:=(ae.1 h.1).2.2.1 t ht;simp only[sliB,Bool.and_eq_true,decide_eq_true_eq];exact⟨hok,hx,h.2.1,h.2.2⟩
set_option maxHeartbeats 1600000 in
theorem vQ{N:Net}{x v:Int}(h:NSz 1048576 N)(hv:I64 v):Does Tryz.prog 92 [netA N,.d (.int x),.d (.int v)] [] (.tup [ownN 0 (slcN N x v),.d (.bool (slcB N x v))]) (stoN (slcN N x v)):=by
 have hnl:=h.l;have hol:=h.o.len;refine zS Tryz.func92 qr ?_;unfold ir;refine zT ?_;(refine zC (di h) ?_);cases hok:netOk N
 ·have e:slcB N x v=false:=by simp [slcB,hok]
  simp only[go_sem,seval,reduceCtorEq,hok,e,slcN,cond_false];refine FnEnd.wk (Wk.trans (Wk.nilS 1 3 3 _ _ _ rfl rfl) (Wk.nilS 1 4 1 _ _ _ rfl rfl)) ?_;exact zX
 simp only[go_sem,seval,reduceCtorEq,hok];by_cases b1:v<0
 ·have e:slcB N x v=false:=by simp [slcB];omega
  simp only[go_sem,seval,reduceCtorEq,b1,e,slcN,cond_false];refine FnEnd.wk (Wk.trans (Wk.nilS 1 3 3 _ _ _ rfl rfl) (Wk.nilS 1 4 1 _ _ _ rfl rfl)) ?_;exact zX
 simp only[go_sem,seval,reduceCtorEq,b1];(refine zC (Ii (x:=x) h) ?_);by_cases b2:v≥rk N x
 ·have e:slcB N x v=false:=by simp [slcB];omega
  simp only[go_sem,seval,reduceCtorEq,b2,e,slcN,cond_false];refine FnEnd.wk (Wk.trans (Wk.nilS 1 3 3 _ _ _ rfl rfl) (Wk.nilS 1 4 1 _ _ _ rfl rfl)) ?_;exact zX
 have hB:slcB N x v=true:=by simp [slcB,hok];omega
 have hr:=(ae.1 hok).1;simp only[go_sem,seval,reduceCtorEq,b2];(refine zD (rP (xs:=N.os) (x:=x) (by omega)) ?_);refine zU ?_;(refine bC (Wk.nilS 3 3 3 _ _ _ rfl rfl) ?_;simp only[go_sem,seval,reduceCtorEq])
 refine aA (N.ts.length) (mkB 64 9223371761976871936) (fun k=>[(37,.d (.int k))]) (fun k=>[(3,[.d (.int N.k),.d (.int N.p),.d (.int N.n),.own 4 0 k,.own 2 0 (N.os.filter (· !=x)).length]),(4,tcA ((N.ts.take k).map (slcT N.rg x v)))]) (h1:=by first|(simp only[go_sem,seval,reduceCtorEq,nz,na,n1,List.take_zero,List.map_nil,mO];first|done|rfl)|rfl) (h2:=by first|(simp only[go_sem,seval,reduceCtorEq,nz,na,n1,List.take_zero,List.map_nil,mO];first|done|rfl)|rfl) (hr:=fun k hk=> ?_);unfold gT;by_cases hlt:k<N.ts.length
 ·have d1:(k:Int)<N.ts.length:=by omega
  have g3:=fj (zg hlt);have hmem:=List.getElem_mem hlt;have hst:=h.t N.ts[k] hmem;have hll:=hst.l.len;have htl:(N.ts.take k).length=k:=by rw[List.length_take];omega
  simp(disch:=omega) only[go_sem,seval,reduceCtorEq,d1,g3]
  (repeat (refine And.intro (by omega) ?_))
  (refine zC (n9 (t:=N.ts[k]) hst) ?_);refine zV ?_;(refine zC (gK (t:=N.ts[k]) (x:=x) hst.l.up.len) ?_);by_cases hm:x∈N.ts[k].labels
  ·have c:place N.ts[k].labels x≥0:=by
    have h0:¬ place N.ts[k].labels x<0:=fun e=>cx.1 e hm
    omega
   have hsl:=JE hB hmem hm;have es:slcT N.rg x v N.ts[k]=sliT ⟨N.k,N.p,N.n⟩ N.ts[k] x v:=if_pos hm;simp(disch:=omega) only[go_sem,seval,reduceCtorEq,c];(refine zC (xD (kk:=N.k) (pp:=N.p) (nn:=N.n) (t:=N.ts[k]) (x:=x) (v:=v) h.k h.p h.n hst hv) ?_);simp(disch:=omega) only[go_sem,seval,reduceCtorEq,List.length_map,htl]
   (repeat (refine And.intro (by omega) ?_))
   (refine Next.mk (by omega) (Wk.trans (Wk.drG [10,11,12] 5 (nb rfl) (nb rfl) (zd rfl) (zd rfl)) ?_));(simp only[go_sem,seval,reduceCtorEq,nz,na,n1,ba hlt,List.map_append,kw,List.map_cons,List.map_nil,es,kv]);(refine Wk.eq (Wk.ad3s (mkB 64 9223371761976871936) 4 3 (k*3) true (τ:=[_,_,_,_,_]) (nb rfl) rfl (by rw[pZ,List.length_map,htl]) rfl (eI _) (eI _) (eI _) (by simp only[go_sem,seval,reduceCtorEq]) (by simp only[go_sem,seval,reduceCtorEq]) (by simp only[go_sem,seval,reduceCtorEq]) (fun _=>lF _) (fun _=>lF _)) ?_ ?_<;>first|(simp only[go_sem,seval,reduceCtorEq,nz,na,n1,ba hlt,List.map_append,kw,List.map_cons,List.map_nil,es,kv];first|done|rfl)|rfl|skip)
  ·have c:¬ place N.ts[k].labels x≥0:=by have:=cx.2 hm;omega
   have es:slcT N.rg x v N.ts[k]=N.ts[k]:=if_neg hm;simp(disch:=omega) only[go_sem,seval,reduceCtorEq,c,List.length_map,htl]
   (repeat (refine And.intro (by omega) ?_))
   (refine Next.mk (by omega) (Wk.trans (Wk.drG [6,7,8] 5 (nb rfl) (nb rfl) (zd rfl) (zd rfl)) ?_));(simp only[go_sem,seval,reduceCtorEq,nz,na,n1,ba hlt,List.map_append,kw,List.map_cons,List.map_nil,es,kv]);(refine Wk.eq (Wk.ad3s (mkB 64 9223371761976871936) 4 3 (k*3) true (τ:=[_,_,_,_,_]) (nb rfl) rfl (by rw[pZ,List.length_map,htl]) rfl (eI _) (eI _) (eI _) (by simp only[go_sem,seval,reduceCtorEq]) (by simp only[go_sem,seval,reduceCtorEq]) (by simp only[go_sem,seval,reduceCtorEq]) (fun _=>lF _) (fun _=>lF _)) ?_ ?_<;>first|(simp only[go_sem,seval,reduceCtorEq,nz,na,n1,ba hlt,List.map_append,kw,List.map_cons,List.map_nil,es,kv];first|done|rfl)|rfl|skip)
 ·have d1:¬(k:Int)<N.ts.length:=by omega
  obtain rfl:k=N.ts.length:=by omega
  simp(disch:=omega) only[go_sem,seval,reduceCtorEq,d1,List.take_length,hB,slcN,cond_true,GL,List.length_map];exact zX
end Go.Proofs.YtobhmajhachnaaaGreatDoor
