/-
 Plain: all labels of a state have dimensions. No condition.
-/
import Derived.Test.YtneocijmbnhblaaGreatOrdB
import Derived.Test.YtneocijmbnhblaaGreatOrdC
set_option linter.unusedSimpArgs false
set_option linter.unusedVariables false
namespace Go.Proofs.YtneocijmbnhblaaGreat
open Go.RowKit Go.Lift Plain
set_option maxRecDepth 100000
def OsT (T:List Int) (s:Osd):Prop:=∀ i,∀ x∈s.lab i,1≤atT T x∧atT T x≤8
section
variable {T os : List Int} {s : Osd} {m a b : Nat}
theorem OsT.res (h:OsT T s):∀ x∈s.res os a b,1≤atT T x∧atT T x≤8:=fun x hx=>
 (bb.1 (List.mem_filter.1 hx).1).elim (h a x) (h b x)
theorem OsT.join (h:OsT T s):∀ x∈aB (s.lab a) (s.lab b),1≤atT T x∧atT T x≤8:=fun x hx=>(bb.1 hx).elim (h a x) (h b x)
theorem OsT.step (hs:OsOk s m) (h:OsT T s):OsT T (s.step os a b):=fun i x hx=>by
 rcases Nat.lt_trichotomy i m with hi | rfl | hi
 ·rw[jX hs hi]at hx;exact h i x hx
 ·rw[dU hs]at hx;exact h.res x hx
 ·have:(s.step os a b).lab i=[]:=by
   have:=(hs.step os a b).n
   unfold Osd.lab
   rw[zq,List.getElem?_eq_none (by omega)];rfl
  rw[this]at hx;cases hx
theorem By {N:Net} (h:bC N=true):OsT (aK N.ts).1 (aq N.ts):=fun i x hx=>by
 by_cases hi:i<N.ts.length
 ·rw[qo hi]at hx
  have hd:=CH h (List.getElem_mem hi)
  have:atT (aK N.ts).1 x∈N.ts[i].dims:=by rw[← hd];exact List.mem_map_of_mem hx
  have:=(ct h _ (List.getElem_mem hi)).dim _ this
  omega
 ·have:(aq N.ts).lab i=[]:=by
   unfold Osd.lab
   rw[zq,List.getElem?_eq_none (by simp [aq];omega)];rfl
  rw[this]at hx;cases hx
theorem pQ (L:List Int) (h:∀ x∈L,1≤atT T x∧atT T x≤8):1≤capP T L∧capP T L≤1000000000:=by
 have:=bf (L.map (atT T)) fun d hd=>by obtain⟨x,hx,rfl⟩:=List.mem_map.1 hd;exact(h x hx).1
 unfold capP
 omega
end
set_option maxRecDepth 100000
section
variable {N : Net} {n : Nat} {F : List Int}
def stA (F:List Int) (k:Nat):Nat:=(F.getD (k*2) 0).toNat
def stB (F:List Int) (k:Nat):Nat:=(F.getD (k*2+1) 0).toNat
structure OrdOk (N:Net) (F:List Int) (k:Nat):Prop where
 ok:OsOk (ordS N F k) (N.ts.length+k)
 t:OsT (aK N.ts).1 (ordS N F k)
theorem vQ (N:Net) (F:List Int):ordS N F 0=aq N.ts:=rfl
structure OrdStep (N:Net) (F:List Int) (k:Nat):Prop where
 a:F.getD (k*2) 0=stA F k
 b:F.getD (k*2+1) 0=stB F k
 ma:stA F k∈(ordS N F k).nums
 mb:stB F k∈(ordS N F k).nums
 lt:stA F k<stB F k
 nx:ordS N F (k+1)=(ordS N F k).step N.os (stA F k) (stB F k)
 fol:dD (ordS N F k) (F.getD (k*2) 0) (F.getD (k*2+1) 0)=true
theorem cl (h:am N n F=true) {k:Nat} (hk:k<n):OrdStep N F k:=by
 have h2:=(ao.1 h).2.2
 have hf:=kO h2 hk
 obtain⟨a,b,e1,e2,ha,hb,hab⟩:=kj hf
 have ea:stA F k=a:=by rw[stA,e1];rfl
 have eb:stB F k=b:=by rw[stB,e2];rfl
 have hy:=congrArg Prod.fst (iE (fi h2 (Nat.le_of_lt hk)) hf)
 exact⟨by rw[ea,e1],by rw[eb,e2],by rw[ea];exact ha,by rw[eb];exact hb,by rw[ea,eb];exact hab,hy,hf⟩
theorem cQ (h:am N n F=true):∀ k,k≤n→OrdOk N F k
 | 0,_=>⟨ge (ct (ao.1 h).1),By (ao.1 h).1⟩
 | k+1,hk=>by
  have ih:=cQ h k (by omega)
  have hs:=cl h (show k<n by omega)
  exact⟨by rw[hs.nx];exact ih.ok.step _ _ _,by rw[hs.nx];exact OsT.step ih.ok ih.t⟩
theorem OrdStep.at {k:Nat} (h:OrdStep N F k) (ho:OrdOk N F k):stA F k<N.ts.length+k∧stB F k<N.ts.length+k:=by
 have hn:=ho.ok.n
 have h1:=(em.1 h.ma).1
 have h2:=(em.1 h.mb).1
 omega
end
set_option maxRecDepth 100000
theorem po {ds:List Int} (h:ds.length≤1048576) (hd:∀ d∈ds,1≤d∧d≤100):Does Tryz.prog 104 [.d (ints ds),.d (.int 1000000000)] [] (.d (.int (min (aa ds) 1000000000))) []:=by
 have h1:min (aa (ds.take 0)) 1000000000=1:=by simp [aa];omega
 (refine spec_of (by kernel_rfl) Tryz.func104 kc (fnOk (nb rfl) ?_);unfold C_impl_cappedProduct)
 (simp only[Nat.reduceSub,Zl,zn,Nat.reduceAdd,zF];try simp only[ae]);(simp only[go_sem,seval,reduceCtorEq,List.replicate])
 refine aH (ds.length) (mkB 21 1046656) (fun k=>[(5,.d (.int (min (aa (ds.take k)) 1000000000))),(10,.d (.int k))]) (fun k=>[]) (h1:=by first | (simp only[go_sem,seval,reduceCtorEq,nz,na,n1,h1];first | done | rfl) | rfl) (h2:=by first | (simp only[go_sem,seval,reduceCtorEq,nz,na,n1,h1];first | done | rfl) | rfl) (hr:=fun k hk=> ?_)
 unfold L0_impl_cappedProduct
 by_cases hlt:k<ds.length
 ·have d1:(k:Int)<ds.length:=by omega
  have g:ds[k]? =some ds[k]:=zg hlt
  have hdk:=hd ds[k] (List.getElem_mem hlt)
  have hp:=bf (ds.take k) fun d hm=>(hd d (List.mem_of_mem_take hm)).1
  have hs:=cK ds k hlt
  rw[ab hlt]at hs
  have hm:=yv (aa (ds.take k)) ds[k] 1000000000 hdk.1 (by omega)
  rw[← hs]at hm
  have hb1:0≤min (aa (ds.take k)) 1000000000*ds[k]:=Int.mul_nonneg (by omega) (by omega)
  have hb2:min (aa (ds.take k)) 1000000000*ds[k]≤1000000000*100:=Int.mul_le_mul (by omega) hdk.2 (by omega) (by omega)
  simp(disch:=omega) only[go_sem,seval,reduceCtorEq,d1,g]
  (refine Next.drop (mkB 21 1046656) (by omega) (h1:= ?_) (h2:= ?_)<;>first | (simp only[go_sem,seval,reduceCtorEq,nz,na,n1,hm];first | done | rfl) | rfl | skip)
 ·have d1:¬ (k:Int)<ds.length:=by omega
  have ht:ds.take k=ds:=zt (by omega)
  simp(disch:=omega) only[go_sem,seval,reduceCtorEq,d1,ht]
  (refine zE ?_ ?_<;>try simp only[go_sem,seval,reduceCtorEq])
theorem cj {T os L:List Int} {s:Osd} (hD:T.length=100) (hl:L.length≤1048576) (hx:∀ x∈L,0≤x∧x≤99) (hT:∀ x∈L,1≤atT T x∧atT T x≤8):
  Does Tryz.prog 60 [osP T os s,.d (ints L)] [] (.d (.int (capP T L))) []:=by
 have htk:List.take 100 (dv T)=dv T:=zt (by rw[cJ];omega)
 have hml:(L.map (atT T)).length=L.length:=List.length_map ..
 have htm:List.take L.length (L.map (atT T))=L.map (atT T):=zt (by omega)
 (refine spec_of (by kernel_rfl) Tryz.func60 je (fnOk (nb rfl) ?_);unfold C_impl_orderState_size)
 simp only[osP]
 (simp only[Nat.reduceSub,Zl,zn,Nat.reduceAdd,zF];try simp only[ae]);(simp only[go_sem,seval,reduceCtorEq,List.replicate])
 simp(disch:=omega) only[go_sem,seval,reduceCtorEq,htk]
 (repeat (refine And.intro (by omega) ?_))
 (refine zC (wQ (D:=T) (L:=L) hD hl hx) ?_)
 simp(disch:=omega) only[go_sem,seval,reduceCtorEq]
 (refine aZ (po (ds:=L.map (atT T)) (by omega) (fun d hd=>by obtain⟨x,hx,rfl⟩:=List.mem_map.1 hd;have:=hT x hx;omega)) ?_ ?_ ?_;(focus (simp only[go_sem,seval,reduceCtorEq,hml,htm];done));(first | rfl | (focus (simp only[go_sem];done))))
 simp only[go_sem,seval,reduceCtorEq,capP]
 (refine zE ?_ ?_<;>try simp only[go_sem,seval,reduceCtorEq])
set_option maxRecDepth 100000
section
variable {N : Net} {n : Nat} {F : List Int}
def eE (N:Net) (F:List Int) (k:Nat):Int:=capP (aK N.ts).1 (aB ((ordS N F k).lab (stA F k)) ((ordS N F k).lab (stB F k)))
def bn (N:Net) (F:List Int) (k:Nat):List Int:=(List.range k).map (eE N F)
theorem ky (k:Nat):(bn N F k).length=k:=by simp [bn]
theorem uR (k:Nat):bn N F (k+1)=bn N F k++[eE N F k]:=by simp [bn,List.range_succ]
theorem Aw (h:am N n F=true) {k:Nat} (hk:k≤n):1≤eE N F k∧eE N F k≤1000000000:=pQ _ (cQ h k hk).t.join
end
noncomputable def bg (N:Net) (n:Nat) (F:List Int):Int:=if am N n F=true then min (sumI (bn N F n)) 1000000000 else -1
theorem sQ {s:Osd} {a:Nat} (h:a∈s.nums):∃ i:Nat,∃ hi:i<s.nums.length,s.nums[i]=a∧bB (natI s.nums) a=i:=by
 obtain⟨i,hi,hia⟩:=List.mem_iff_getElem.1 h
 refine⟨i,hi,hia, ?_⟩
 have hq':i<(natI s.nums).length:=by rw[mj];exact hi
 have:=dK hq' (eW (j9 (bR s)) hq')
 rwa [jS hi,hia]at this
theorem sf {N:Net} {n:Nat} {F:List Int} (h:NSz 1048576 N) (hF:StpSz 1048576 n F) (hok:am N n F=true):
  Does Tryz.prog 59 [netA N,.d (stp n F)] [] (.own 0 0 n) [some ⟨1,true,iv (bn N F n)⟩]:=by
 have hn:=hF.n
 have hFl:=hF.l
 have hol:=h.o.len
 obtain⟨h1,h2,_⟩:=ao.1 hok
 have h12:=(an.1 h1).2.1
 have hD:=dV N.ts
 (refine spec_of (by kernel_rfl) Tryz.func59 mE (fnOk (nb rfl) ?_);unfold C_impl_OrderCosts)
 (simp only[Nat.reduceSub,Zl,zn,Nat.reduceAdd,zF];try simp only[ae]);(simp only[go_sem,seval,reduceCtorEq,List.replicate])
 (refine zC (dN h hF) ?_)
 simp only[go_sem,seval,reduceCtorEq,hok]
 (refine aZ (dr h h1) ?_ ?_ ?_;(focus (simp only[go_sem,seval,reduceCtorEq,osR,lvS];done));(first | rfl | (focus (simp only[go_sem];done))))
 simp only[go_sem,seval,reduceCtorEq,osR,lvS]
 (refine cN (Wk.nilE 5 1 _ _ rfl) ?_;simp only[go_sem,seval,reduceCtorEq])
 have hz:bn N F 0=[]:=rfl
 have hz2:=vQ N F
 refine aH (n) (mkB 59 288230376150664960) (fun k=>[(19,.d (.int k)),(5,.own 2 0 k)]) (fun k=>[(1,osB (aK N.ts).1 (.d (ints N.os)) (.d (lvS (ordS N F k))) (.d (.int (ordS N F k).all.length))),(2,iv (bn N F k))]) (h1:=by first | (simp only[go_sem,seval,reduceCtorEq,nz,na,n1,hz,hz2,bv,lvS];first | done | rfl) | rfl) (h2:=by first | (simp only[go_sem,seval,reduceCtorEq,nz,na,n1,hz,hz2,bv,lvS];first | done | rfl) | rfl) (hr:=fun k hk=> ?_)
 unfold L0_impl_OrderCosts
 have hcl:=ky (N:=N) (F:=F) k
 by_cases hlt:k<n
 ·have d1:(k:Int)<n:=by omega
  have g:=iX hF hlt
  have hs:=cl hok hlt
  have ho:=cQ hok k (by omega)
  have ht:=hs.at ho
  have hnx:=hs.nx
  have hcn:=uR (N:=N) (F:=F) k
  have hca:capP (aK N.ts).1 (aB ((ordS N F k).lab (stA F k)) ((ordS N F k).lab (stB F k)))=eE N F k:=rfl
  rw[hs.a,hs.b]at g
  obtain⟨i,hi,hia,pi⟩:=sQ hs.ma
  obtain⟨j,hj,hjb,pj⟩:=sQ hs.mb
  have hnl:=fO ho.ok
  have gi:=gF (f:=(ordS N F k).lab) hi
  have gj:=gF (f:=(ordS N F k).lab) hj
  rw[hia]at gi
  rw[hjb]at gj
  have la:=ho.ok.len (stA F k)
  have lb:=ho.ok.len (stB F k)
  obtain⟨hjn,hjx,hjl⟩:=ho.ok.join (stA F k) (stB F k)
  have hjT:=ho.t.join (a:=stA F k) (b:=stB F k)
  have ii:(i:Int)<(ordS N F k).nums.length:=by omega
  have ij:(j:Int)<(ordS N F k).nums.length:=by omega
  have hct:=bN (D:=(aK N.ts).1) (os:=N.os) (s:=ordS N F k) hD ho.ok (by omega) (by omega) hi hj
  rw[hia,hjb, ← hnx]at hct
  simp(disch:=omega) only[go_sem,seval,reduceCtorEq,d1,g,lL]
  (repeat (refine And.intro (by omega) ?_))
  (refine bZ (bq (D:=(aK N.ts).1) (os:=N.os) (s:=ordS N F k) (x:=stA F k) hD ho.ok (by omega)) ?_ ?_ ?_;(focus (simp only[go_sem,seval,reduceCtorEq,osP];done));(first | rfl | (focus (simp only[go_sem];done))))
  simp only[go_sem,seval,reduceCtorEq,pi]
  (refine aZ (bq (D:=(aK N.ts).1) (os:=N.os) (s:=ordS N F k) (x:=stB F k) hD ho.ok (by omega)) ?_ ?_ ?_;(focus (simp only[go_sem,seval,reduceCtorEq,osP];done));(first | rfl | (focus (simp only[go_sem];done))))
  simp(disch:=omega) only[go_sem,seval,reduceCtorEq,pj,lvS,ii,ij,gi,gj]
  (refine zD (g8 (a:=(ordS N F k).lab (stA F k)) (b:=(ordS N F k).lab (stB F k)) (by omega) (by omega)) ?_)
  simp only[go_sem,seval,reduceCtorEq]
  (refine bZ (cj (T:=(aK N.ts).1) (os:=N.os) (s:=ordS N F k) hD (by omega) hjx hjT) ?_ ?_ ?_;(focus (simp only[go_sem,seval,reduceCtorEq,osP,lvS];done));(first | rfl | (focus (simp only[go_sem];done))))
  simp(disch:=omega) only[go_sem,seval,reduceCtorEq,hca]
  (repeat (refine And.intro (by omega) ?_))
  (refine ai [1] [] false (zd rfl) ?_ _ ?_ (hct) ?_ ?_;(focus (simp only[go_sem,seval,reduceCtorEq,osR,lvS];done));(focus (simp only[go_sem,seval,reduceCtorEq,osR,lvS];done));(focus (first | rfl | (simp only[go_sem,seval,reduceCtorEq,osR,lvS];done))))
  simp(disch:=omega) only[go_sem,seval,reduceCtorEq,osR,lvS]
  (refine Next.drop (mkB 59 288230376150664960) (by omega) (h1:= ?_) (h2:= ?_)<;>first | (simp only[go_sem,seval,reduceCtorEq,nz,na,n1,hcn,lvS];first | done | rfl) | rfl | skip)
 ·have d1:¬ (k:Int)<n:=by omega
  obtain rfl:k=n:=by omega
  simp(disch:=omega) only[go_sem,seval,reduceCtorEq,d1]
  (refine zE ?_ ?_<;>try simp only[go_sem,seval,reduceCtorEq])
theorem eV {N:Net} {n:Nat} {F:List Int} (h:NSz 1048576 N) (hF:StpSz 1048576 n F):
  Does Tryz.prog 22 [netA N,.d (stp n F)] [] (.d (.int (bg N n F))) []:=by
 have hn:=hF.n
 have hcl:=ky (N:=N) (F:=F) n
 (refine spec_of (by kernel_rfl) Tryz.func22 nT (fnOk (nb rfl) ?_);unfold C_impl_OrderCost)
 (simp only[Nat.reduceSub,Zl,zn,Nat.reduceAdd,zF];try simp only[ae]);(simp only[go_sem,seval,reduceCtorEq,List.replicate])
 (refine zC (dN h hF) ?_)
 cases hok:am N n F
 ·have e:bg N n F= -1:=by rw[bg,hok];rfl
  simp only[go_sem,seval,reduceCtorEq,hok,e]
  (refine zE ?_ ?_<;>try simp only[go_sem,seval,reduceCtorEq])
 have e:bg N n F=min (sumI (bn N F n)) 1000000000:=by rw[bg,if_pos hok]
 have hcb:∀ x∈bn N F n,0≤x∧x≤1000000000:=fun x hx=>by
  obtain⟨k,hk,rfl⟩:=List.mem_map.1 hx
  have:=Aw hok (k:=k) (by have:=List.mem_range.1 hk;omega)
  omega
 have h2:=(ao.1 hok).2.1
 have h12:=(an.1 (ao.1 hok).1).2.1
 simp only[go_sem,seval,reduceCtorEq,hok]
 (refine zC (sf h hF hok) ?_)
 have hz:sumI ((bn N F n).take 0)=0:=by rw[List.take_zero];rfl
 simp only[go_sem,seval,reduceCtorEq]
 refine aH (n) (mkB 26 16646272) (fun k=>[(5,.d (.int (sumI ((bn N F n).take k)))),(16,.d (.int k))]) (fun k=>[]) (h1:=by first | (simp only[go_sem,seval,reduceCtorEq,nz,na,n1,hz];first | done | rfl) | rfl) (h2:=by first | (simp only[go_sem,seval,reduceCtorEq,nz,na,n1,hz];first | done | rfl) | rfl) (hr:=fun k hk=> ?_)
 unfold L0_impl_OrderCost
 have hsb:∀ q,q≤n→sumI ((bn N F n).take q)≤q*1000000000:=fun q=>by
  induction q with
  | zero=>intro _;rw[hz];omega
  | succ q ih=>
   intro hq
   have:=ih (by omega)
   have hb:=hcb _ (List.getElem_mem (show q<(bn N F n).length by omega))
   rw[bi (by omega),q6]
   simp only[bz,q5]
   push_cast
   omega
 have hb0:=hsb k hk
 have h3:=xY ((bn N F n).take k) fun x hx=>(hcb x (List.mem_of_mem_take hx)).1
 by_cases hlt:k<n
 ·have d1:(k:Int)<n:=by omega
  have hk':k<(bn N F n).length:=by omega
  have g:(bn N F n)[k]? =some (bn N F n)[k]:=zg hk'
  have hb:=hcb _ (List.getElem_mem hk')
  have hm:sumI ((bn N F n).take k)+(bn N F n)[k]=sumI ((bn N F n).take (k+1)):=by
   rw[bi hk',q6]
   simp only[bz,q5]
   omega
  simp(disch:=omega) only[go_sem,seval,reduceCtorEq,d1,g]
  (refine Next.drop (mkB 26 16646272) (by omega) (h1:= ?_) (h2:= ?_)<;>first | (simp only[go_sem,seval,reduceCtorEq,nz,na,n1,hm];first | done | rfl) | rfl | skip)
 ·have d1:¬ (k:Int)<n:=by omega
  have ht:(bn N F n).take k=bn N F n:=zt (by omega)
  simp(disch:=omega) only[go_sem,seval,reduceCtorEq,d1,ht,e]
  (refine zE ?_ ?_<;>try simp only[go_sem,seval,reduceCtorEq])
set_option maxRecDepth 100000
def pk (T:List Int) (L:List (List Int)):Int:=L.foldl (fun p l=>max p (capP T l)) 1
theorem yj (T:List Int) (L:List (List Int)) (l:List Int):pk T (L++[l])=max (pk T L) (capP T l):=by rw[pk,List.foldl_append];rfl
theorem DO {T:List Int} {L:List (List Int)} {k:Nat} (h:k<L.length):pk T (L.take (k+1))=max (pk T (L.take k)) (capP T L[k]):=by rw[bi h,yj]
noncomputable def d7 (N:Net) (n:Nat) (F:List Int):Int:=if am N n F=true then pk (aK N.ts).1 (ordS N F n).all else -1
theorem mI {N:Net} {n:Nat} {F:List Int} (h:NSz 1048576 N) (hF:StpSz 1048576 n F):
  Does Tryz.prog 23 [netA N,.d (stp n F)] [] (.d (.int (d7 N n F))) []:=by
 have hn:=hF.n
 have hFl:=hF.l
 have hol:=h.o.len
 have hD:=dV N.ts
 (refine spec_of (by kernel_rfl) Tryz.func23 nS (fnOk (nb rfl) ?_);unfold C_impl_OrderPeak)
 (simp only[Nat.reduceSub,Zl,zn,Nat.reduceAdd,zF];try simp only[ae]);(simp only[go_sem,seval,reduceCtorEq,List.replicate])
 (refine zC (dN h hF) ?_)
 cases hok:am N n F
 ·have e:d7 N n F= -1:=by rw[d7,hok];rfl
  simp only[go_sem,seval,reduceCtorEq,hok,e]
  (refine zE ?_ ?_<;>try simp only[go_sem,seval,reduceCtorEq])
 have e:d7 N n F=pk (aK N.ts).1 (ordS N F n).all:=by rw[d7,if_pos hok]
 obtain⟨h1,h2,_⟩:=ao.1 hok
 have h12:=(an.1 h1).2.1
 simp only[go_sem,seval,reduceCtorEq,hok]
 (refine aZ (dr h h1) ?_ ?_ ?_;(focus (simp only[go_sem,seval,reduceCtorEq,osR,lvS];done));(first | rfl | (focus (simp only[go_sem];done))))
 simp(disch:=omega) only[go_sem,seval,reduceCtorEq,osR,lvS]
 have ho0t:OsT (aK N.ts).1 (aq N.ts):=(cQ hok 0 (Nat.zero_le _)).t
 have ho0k:OsOk (aq N.ts) (N.ts.length+0):=(cQ hok 0 (Nat.zero_le _)).ok
 have hnl0:(aq N.ts).nums.length=N.ts.length:=by rw[dj,List.length_range]
 have hal0:(aq N.ts).all.length=N.ts.length:=by simp [aq]
 have hz:pk (aK N.ts).1 ((aq N.ts).all.take 0)=1:=rfl
 refine aH (N.ts.length) (mkB 61 8581546240) (fun k=>[(6,.d (.int (pk (aK N.ts).1 ((aq N.ts).all.take k)))),(22,.d (.int k))]) (fun k=>[]) (h1:=by first | (simp only[go_sem,seval,reduceCtorEq,nz,na,n1,hz];first | done | rfl) | rfl) (h2:=by first | (simp only[go_sem,seval,reduceCtorEq,nz,na,n1,hz];first | done | rfl) | rfl) (hr:=fun k hk=> ?_)
 unfold L1_impl_OrderPeak
 by_cases hlt:k<N.ts.length
 ·have d1:(k:Int)<(aq N.ts).nums.length:=by omega
  have hk:k<(aq N.ts).nums.length:=by omega
  have hnk:(aq N.ts).nums[k]=k:=by simp [dj]
  have g:=pE (f:=(aq N.ts).lab) hk
  rw[hnk]at g
  have hlab:(aq N.ts).lab k=(aq N.ts).all[k]:=by simp [Osd.lab,hal0,hlt]
  have hnx:=DO (T:=(aK N.ts).1) (L:=(aq N.ts).all) (show k<(aq N.ts).all.length by omega)
  rw[← hlab]at hnx
  have hln:=ho0k.len k
  simp(disch:=omega) only[go_sem,seval,reduceCtorEq,d1,g]
  (repeat (refine And.intro (by omega) ?_))
  (refine aZ (cj (T:=(aK N.ts).1) (os:=N.os) (s:=aq N.ts) hD (by omega) (ho0k.at k).2 (ho0t k)) ?_ ?_ ?_;(focus (simp only[go_sem,seval,reduceCtorEq,osP,lvS];done));(first | rfl | (focus (simp only[go_sem];done))))
  simp(disch:=omega) only[go_sem,seval,reduceCtorEq]
  (refine Next.drop (mkB 61 8581546240) (by omega) (h1:= ?_) (h2:= ?_)<;>first | (simp only[go_sem,seval,reduceCtorEq,nz,na,n1,hnx];first | done | rfl) | rfl | skip)
 ·have d1:¬ (k:Int)<(aq N.ts).nums.length:=by omega
  have ht:(aq N.ts).all.take k=(aq N.ts).all:=zt (by omega)
  have hz2:=vQ N F
  simp(disch:=omega) only[go_sem,seval,reduceCtorEq,d1,ht]
  refine aH (n) (mkB 61 1152921435887371264) (fun q=>[(35,.d (.int q)),(6,.d (.int (pk (aK N.ts).1 (ordS N F q).all)))]) (fun q=>[(1,osB (aK N.ts).1 (.d (ints N.os)) (.d (lvS (ordS N F q))) (.d (.int (ordS N F q).all.length)))]) (h1:=by first | (simp only[go_sem,seval,reduceCtorEq,nz,na,n1,hz2,lvS];first | done | rfl) | rfl) (h2:=by first | (simp only[go_sem,seval,reduceCtorEq,nz,na,n1,hz2,lvS];first | done | rfl) | rfl) (hr:=fun q hq=> ?_)
  unfold L0_impl_OrderPeak
  by_cases hltq:q<n
  ·have d2:(q:Int)<n:=by omega
   have g:=iX hF hltq
   have hs:=cl hok hltq
   have ho:=cQ hok q (by omega)
   have ho1:=cQ hok (q+1) (by omega)
   have hnx:=hs.nx
   have hfy:=cH (D:=(aK N.ts).1) (os:=N.os) hD ho.ok (by omega) (by omega) hs.fol
   rw[show (F.getD (q*2) 0).toNat=stA F q from rfl,show (F.getD (q*2+1) 0).toNat=stB F q from rfl, ← hnx]at hfy
   have hnn:=d8 (os:=N.os) (a:=stA F q) (b:=stB F q) ho.ok
   rw[← hnx]at hnn
   have hlast:∃ L:Nat,(ordS N F (q+1)).nums.length=L+1∧∃ hL:L<(ordS N F (q+1)).nums.length,(ordS N F (q+1)).nums[L]=N.ts.length+q:=by
    refine⟨((ordS N F q).nums.filter (Osd.off (stA F q) (stB F q))).length,by rw[hnn];simp,by rw[hnn];simp, ?_⟩
    simp [hnn]
   obtain⟨L,hL1,hL,hL2⟩:=hlast
   have hln:=fO ho1.ok
   have gl:=gF (f:=(ordS N F (q+1)).lab) hL
   rw[hL2]at gl
   have hres:(ordS N F (q+1)).lab (N.ts.length+q)=(ordS N F q).res N.os (stA F q) (stB F q):=by rw[hnx];exact dU ho.ok
   have hpk:pk (aK N.ts).1 (ordS N F (q+1)).all=max (pk (aK N.ts).1 (ordS N F q).all) (capP (aK N.ts).1 ((ordS N F (q+1)).lab (N.ts.length+q))):=by
    rw[hres, ← yj,hnx];rfl
   have hlk:=ho1.ok.len (N.ts.length+q)
   have eL:((ordS N F (q+1)).nums.length:Int)-1=L:=by omega
   have iL:(L:Int)<(ordS N F (q+1)).nums.length:=by omega
   simp(disch:=omega) only[go_sem,seval,reduceCtorEq,d2,g,lL]
   (repeat (refine And.intro (by omega) ?_))
   (refine ai [1] [] false (zd rfl) ?_ _ ?_ (hfy) ?_ ?_;(focus (simp only[go_sem,seval,reduceCtorEq,osR,lvS];done));(focus (simp only[go_sem,seval,reduceCtorEq,osR,lvS];done));(focus (first | rfl | (simp only[go_sem,seval,reduceCtorEq,osR,lvS];done))))
   simp(disch:=omega) only[go_sem,seval,reduceCtorEq,osR,lvS,eL,iL,gl]
   (repeat (refine And.intro (by omega) ?_))
   (refine bZ (cj (T:=(aK N.ts).1) (os:=N.os) (s:=ordS N F (q+1)) hD (by omega) (ho1.ok.at (N.ts.length+q)).2 (ho1.t (N.ts.length+q))) ?_ ?_ ?_;(focus (simp only[go_sem,seval,reduceCtorEq,osP,lvS];done));(first | rfl | (focus (simp only[go_sem];done))))
   simp(disch:=omega) only[go_sem,seval,reduceCtorEq]
   (refine Next.drop (mkB 61 1152921435887371264) (by omega) (h1:= ?_) (h2:= ?_)<;>first | (simp only[go_sem,seval,reduceCtorEq,nz,na,n1,hpk,lvS];first | done | rfl) | rfl | skip)
  ·have d2:¬ (q:Int)<n:=by omega
   obtain rfl:q=n:=by omega
   simp(disch:=omega) only[go_sem,seval,reduceCtorEq,d2,e]
   (refine zE ?_ ?_<;>try simp only[go_sem,seval,reduceCtorEq])
end Go.Proofs.YtneocijmbnhblaaGreat
