/-
 Plain: what is drawn fits its ring; a drawn tensor's axes are right. No condition.
-/
import Derived.Test.YtjfmckhbmdjnpaaGreatGenA
import Derived.Test.YtjfmckhbmdjnpaaGreatConM
set_option linter.unusedSimpArgs false
set_option linter.unusedVariables false
namespace Go.Proofs.YtjfmckhbmdjnpaaGreat
open Go.RowKit Go.Lift Plain
set_option maxRecDepth 100000
theorem Ci {r:Rg} {wd:Nat} (hr:ae r=true):fits r (oneE r wd):=fu fun x hx=>by
 have ht:=dE hr
 unfold oneE at hx
 rcases List.mem_or_eq_of_mem_set hx with h | h
 ·have:=(List.mem_replicate.1 h).2;omega
 ·subst h;split
  ·omega
  ·split<;>omega
theorem zp {b:List Int} {T:Int} (hT:1≤T) (wd:Nat) (c:Cur):∀ k,∀ x∈(gEl b T wd c k).2,0≤x∧x≤T
 | 0,x,h=>by
  have:=(List.mem_replicate.1 h).2
  omega
 | k+1,x,h=>by
  have hb:=ct (b:=b) (n:=min 256 (T+1)) (by omega) (gEl b T wd c k).1
  rcases List.mem_or_eq_of_mem_set h with h | h
  ·exact zp hT wd c k x h
  ·subst h
   split<;>omega
theorem Az {b:List Int} {r:Rg} {wd:Nat} {c:Cur} (hr:ae r=true):fits r (j8 b r wd c).2:=by
 have ht:=dE hr
 unfold j8
 split
 ·exact gC hr
 ·split
  ·exact Ci hr
  ·exact fu fun x hx=>zp (by omega) _ _ _ x hx
theorem F4 (b:List Int) (c:Cur):axOk (bN b c).2 (bt (bN b c).2)∧(bN b c).2.length≤3∧∀ d∈bt (bN b c).2,1≤d∧d≤3:=by
 have hm:=ct (b:=b) (n:=4) (by omega) c
 have hl:=qE b 6 (ao b 4 c).2 (ao b 4 c).1.toNat
 have hi:=tp (b:=b) (n:=6) (by omega) (ao b 4 c).2 (ao b 4 c).1.toNat
 have hn:=lE b 6 (ao b 4 c).2 (ao b 4 c).1.toNat
 have hd:∀ d∈bt (bN b c).2,1≤d∧d≤3:=fun d hd=>by
  obtain⟨x,hx,rfl⟩:=List.mem_map.1 hd
  unfold dimL
  omega
 unfold bN at hd ⊢
 refine⟨tu (by omega) (gz _).symm hn (fun l hl=>by have:=hi l hl;omega) (fun d h=>by have:=hd d h;omega),by omega,hd⟩
set_option maxRecDepth 100000
structure Nat6 (t:Ten):Prop where
 dims:t.dims=bt t.labels
 nd:t.labels.Nodup
 bd:∀ x∈t.labels,0≤x∧x<6
 len:t.labels.length≤3
theorem je {x:Int}:1≤dimL x∧dimL x≤3:=by unfold dimL;omega
theorem Nat6.ax {t:Ten} (h:Nat6 t):axOk t.labels t.dims:=by
 rw[h.dims]
 refine tu (by have:=h.len;omega) (gz _).symm h.nd (fun l hl=>by have:=h.bd l hl;omega) fun d hd=> ?_
 obtain⟨x,hx,rfl⟩:=List.mem_map.1 hd
 have:=je (x:=x)
 omega
theorem Nat6.dim {t:Ten} (h:Nat6 t) {x:Int} (hx:x∈t.labels):ar t x=dimL x:=by
 obtain⟨k,hk,rfl⟩:=List.getElem_of_mem hx
 have hl:k<t.dims.length:=by rw[h.dims,gz];exact hk
 rw[fK h.ax hk hl]
 simp [h.dims,bt]
theorem AI:∀ {ts:List Ten},(∀ t∈ts,Nat6 t)→∀ x,dimN ts x=0∨dimN ts x=dimL x
 | [],_,x=>.inl rfl
 | t :: l,h,x=>by
  rw[dimN]
  split
  ·rename_i hx;exact .inr ((h t (by simp)).dim hx)
  ·exact AI (fun t' ht=>h t' (by simp [ht])) x
theorem zI:∀ {ts:List Ten},(∀ t∈ts,Nat6 t)→∀ {x t},t∈ts→x∈t.labels→dimN ts x=dimL x
 | t :: l,h,x,u,hu,hx=>by
  rw[dimN]
  split
  ·rename_i hx;exact(h t (by simp)).dim hx
  ·rename_i hn
   rcases List.mem_cons.1 hu with rfl | hu
   ·exact absurd hx hn
   ·exact zI (fun t' ht=>h t' (by simp [ht])) hu hx
theorem Jn {ts:List Ten} (h:∀ t∈ts,Nat6 t):wS ts:=fun k hk x hk' hx=>by
 rcases AI (ts:=ts.take k) (fun t ht=>h t (List.mem_of_mem_take ht)) x with h1 | h1
 ·exact .inl h1
 ·exact .inr (h1.trans ((h _ (List.getElem_mem hk)).dim hx).symm)
theorem kA:∀ (ls:List Int),1≤aa (bt ls)∧aa (bt ls)≤3 ^ ls.length
 | []=>by decide
 | x :: l=>by
  obtain⟨h1,h2⟩:=kA l
  have hd:=je (x:=x)
  have e:aa (bt (x :: l))=dimL x*aa (bt l):=by rw[bt,List.map_cons,bc];rfl
  rw[e,Zl,Int.pow_succ]
  have a1:1*1≤dimL x*aa (bt l):=Int.mul_le_mul hd.1 h1 (by omega) (by omega)
  have a2:dimL x*aa (bt l)≤3*3 ^ l.length:=Int.mul_le_mul hd.2 h2 (by omega) (by omega)
  omega
theorem Bc {ls:List Int} (h:ls.length≤6):aa (bt ls)≤729:=by
 have h1:=(kA ls).2
 have h2:((3:Int) ^ ls.length)≤3 ^ 6:=by
  have:(3:Nat) ^ ls.length≤3 ^ 6:=Nat.pow_le_pow_right (by omega) h
  exact_mod_cast this
 omega
theorem Nat6.prod {t:Ten} (h:Nat6 t):1≤aa t.dims∧aa t.dims≤729:=by
 rw[h.dims]
 exact⟨(kA _).1,Bc (by have:=h.len;omega)⟩
theorem Nat6.ok {r:Rg} {t:Ten} (h:Nat6 t) (hr:ae r=true) (hl:(t.data.length:Int)=aa t.dims*ah r) (hf:fits r t.data):aD r t.labels t.dims t.data=true:=by
 rw[Dx hr hl hf]
 have hp:=h.prod
 have e:aU t.labels t.dims=aa t.dims:=if_pos ⟨h.ax,by omega⟩
 rw[e]
 exact decide_eq_true (by omega)
theorem len6 {l:List Int} (hn:l.Nodup) (hb:∀ x∈l,0≤x∧x<6):l.length≤6:=by
 have hs:∀ x∈l,x∈[0,1,2,3,4,(5:Int)]:=fun x hx=>by
  have:=hb x hx
  simp only[List.mem_cons,List.not_mem_nil,or_false]
  omega
 exact qe hn hs
theorem GD {N:Net} (hr:ae N.rg=true) (hlen:N.ts.length≤12) (ht:∀ t∈N.ts,Nat6 t∧aD N.rg t.labels t.dims t.data=true) (hn:N.os.Nodup) (ho:∀ x∈N.os,∃ t∈N.ts,x∈t.labels):bn N=true:=by
 have h6:∀ t∈N.ts,Nat6 t:=fun t h=>(ht t h).1
 have hb:∀ x∈N.os,0≤x∧x<6:=fun x hx=>by
  obtain⟨t,h1,h2⟩:=ho x hx
  exact(h6 t h1).bd x h2
 have e:N.os.map (dimN N.ts)=bt N.os:=List.map_congr_left fun x hx=>by
  obtain⟨t,h1,h2⟩:=ho x hx
  exact zI h6 h1 h2
 have hl:=len6 hn hb
 refine ay.2 ⟨hr,hlen,fun t h=>(ht t h).2,Jn h6, ?_⟩
 rw[e]
 have hax:axOk N.os (bt N.os):=tu (by omega) (gz _).symm hn (fun l hl=>by have:=hb l hl;omega) fun d hd=>by
  obtain⟨x,hx,rfl⟩:=List.mem_map.1 hd
  have:=je (x:=x)
  omega
 have hp:=kA N.os
 have hp2:=Bc hl
 have e2:aU N.os (bt N.os)=aa (bt N.os):=if_pos ⟨hax,by omega⟩
 rw[e2]
 omega
set_option maxRecDepth 100000
attribute [go_sem] List.getElem?_nil
def d8 (b:List Int) (r:Rg) (wd n:Nat) (c:Cur):Nat→Cur × List Int
 | 0=>(c,repE (aA r.k r.p wd) n)
 | k+1=>((j8 b r wd (d8 b r wd n c k).1).1,putE (d8 b r wd n c k).2 (k*wd) (j8 b r wd (d8 b r wd n c k).1).2)
theorem uO {b:List Int} {r:Rg} {wd n:Nat} {c:Cur} (h:c.i≤b.length):∀ k,(d8 b r wd n c k).1.i≤b.length
 | 0=>h
 | k+1=>F5 (uO h k)
theorem ou {b:List Int} {r:Rg} {wd n:Nat} {c:Cur}:∀ k,k≤n→(d8 b r wd n c k).2.length=n*wd
 | 0,_=>by
  show (repE _ _).length=_
  rw[dJ,bI]
 | k+1,h=>by
  have h1:=ou (b:=b) (r:=r) (wd:=wd) (n:=n) (c:=c) k (by omega)
  have hms:k*wd+wd≤n*wd:=kC (by omega)
  show (putE _ _ _).length=_
  have h2:=wB (b:=b) (r:=r) (wd:=wd) (c:=(d8 b r wd n c k).1)
  rw[bQ (by omega)]
  exact h1
set_option maxHeartbeats 1600000 in
theorem CC {b:List Int} (hb:CodeOk b) {c:Cur} (hi:c.i≤b.length) {kk pp nn:Int} {wd n:Nat} {ls ds:List Int} (hr:ae ⟨kk,pp,nn⟩=true) (hw:ah ⟨kk,pp,nn⟩=wd) (h1:1≤wd∧wd≤6)
  (hls:ls.length≤1048576) (hds:ds.length≤1048576) (hd:∀ d∈ds,1≤d∧d≤100) (hn:aa ds=n) (hn2:n≤4096):
  Does Tryz.prog 111 [.ptr 0 0,bm kk pp nn,.own 1 0 ls.length,.own 2 0 ds.length] [curS b c,some ⟨1,false,iv ls⟩,some ⟨1,false,iv ds⟩]
   (.agg [.own 3 0 ls.length,.own 4 0 ds.length,.own 5 0 (n*wd)]) [curS b (d8 b ⟨kk,pp,nn⟩ wd n c n).1,some ⟨1,false,iv ls⟩,some ⟨1,false,iv ds⟩,some ⟨1,true,iv ls⟩,some ⟨1,true,iv ds⟩,some ⟨1,true,iv (d8 b ⟨kk,pp,nn⟩ wd n c n).2⟩]:=by
 have hmn:min (aa ds) 4097=(n:Int):=by omega
 have hz:=bI kk pp wd
 have hzl:=dJ (aA kk pp wd) n
 rw[hz]at hzl
 (refine spec_ofW _ (by kernel_rfl) Tryz.func111 uo (fnOk (nb rfl) ?_);unfold nO)
 unfold curS curR curC
 (simp only[Nat.reduceSub,Zl,zn,Nat.reduceAdd,zF];try simp only[af]);(simp only[go_sem,seval,reduceCtorEq,List.replicate])
 (refine zC (wn (ls:=ls) (ds:=ds) hw h1 hls hds hd hn hn2) ?_)
 simp only[go_sem,seval,reduceCtorEq,hzl]
 have e0:(d8 b ⟨kk,pp,nn⟩ wd n c 0).1=c:=rfl
 have e1:(d8 b ⟨kk,pp,nn⟩ wd n c 0).2=repE (aA kk pp wd) n:=rfl
 refine aN (n) (mkB 29 268402688) (fun k=>[(10,.d (.int k))]) (fun k=>[(0,curC b (d8 b ⟨kk,pp,nn⟩ wd n c k).1.i (d8 b ⟨kk,pp,nn⟩ wd n c k).1.h),(7,iv (d8 b ⟨kk,pp,nn⟩ wd n c k).2)]) (h1:=by first | (simp only[go_sem,seval,reduceCtorEq,nz,na,n1,e0,e1,curC];first | done | rfl) | rfl) (h2:=by first | (simp only[go_sem,seval,reduceCtorEq,nz,na,n1,e0,e1,curC];first | done | rfl) | rfl) (hr:=fun k hk=> ?_)
 unfold mc
 simp only[go_sem,seval,reduceCtorEq]
 (refine aV (gf (ds:=ds) (lim:=4096) (by omega) hd (by omega)) ?_ ?_ ?_;(focus (simp only[go_sem,seval,reduceCtorEq,hmn];done));(first | rfl | (focus (simp only[go_sem];done))))
 by_cases hlt:k<n
 ·have h2:(k:Int)<n:=by omega
  have hms:=kC (wd:=wd) hlt
  have hnw:n*wd≤4096*6:=Nat.mul_le_mul (by omega) h1.2
  have hs:d8 b ⟨kk,pp,nn⟩ wd n c (k+1)=((j8 b ⟨kk,pp,nn⟩ wd (d8 b ⟨kk,pp,nn⟩ wd n c k).1).1,putE (d8 b ⟨kk,pp,nn⟩ wd n c k).2 (k*wd) (j8 b ⟨kk,pp,nn⟩ wd (d8 b ⟨kk,pp,nn⟩ wd n c k).1).2):=rfl
  have hfl:=ou (b:=b) (r:=⟨kk,pp,nn⟩) (wd:=wd) (n:=n) (c:=c) k (by omega)
  have hck:=uO (r:=⟨kk,pp,nn⟩) (wd:=wd) (n:=n) hi k
  generalize d8 b ⟨kk,pp,nn⟩ wd n c k=S at hs hfl hck
  obtain⟨c1,L⟩:=S
  simp only at hfl hck hs
  have hdr:=CH hb hck hr hw h1
  have hdl:=wB (b:=b) (r:=⟨kk,pp,nn⟩) (wd:=wd) (c:=c1)
  generalize j8 b ⟨kk,pp,nn⟩ wd c1=T at hdr hdl hs
  obtain⟨c2,Y⟩:=T
  simp only at hdr hdl hs
  have e1:(d8 b ⟨kk,pp,nn⟩ wd n c (k+1)).1=c2:=by rw[hs]
  have e2:(d8 b ⟨kk,pp,nn⟩ wd n c (k+1)).2=putE L (k*wd) Y:=by rw[hs]
  have hpl:=bQ (xs:=L) (off:=k*wd) (ys:=Y) (by omega)
  have hyt:List.take wd Y=Y:=zt (by omega)
  unfold curS curR curC at hdr
  simp(disch:=omega) only[go_sem,seval,reduceCtorEq,hmn,h2,curC]
  (refine an [0] [] false (zd rfl) ?_ _ ?_ (hdr) ?_ ?_;(focus (simp only[go_sem,seval,reduceCtorEq];done));(focus (simp only[go_sem,seval,reduceCtorEq];done));(focus (first | rfl | (simp only[go_sem,seval,reduceCtorEq];done))))
  simp(disch:=omega) only[go_sem,seval,reduceCtorEq]
  (refine eD [5,6,7] false (wq (ca:=ls) (cb:=ds) (cc:=L) (m:=n*wd) (x:=k) (ys:=Y) rfl rfl hfl.symm hw hdl h1 (by omega) (by omega) (by omega)) (zd rfl) ?_ ?_ ?_ ?_ (zd rfl) ?_;(focus (simp only[go_sem,seval,reduceCtorEq,hpl,hdl,hyt];done));(focus (simp only[go_sem,seval,reduceCtorEq];done));(focus (simp only[go_sem,seval,reduceCtorEq,hpl,hdl,hyt];done));(focus (simp only[go_sem,seval,reduceCtorEq];done)))
  simp(disch:=omega) only[go_sem,seval,reduceCtorEq]
  (refine Next.drop (mkB 29 268402688) (by omega) (h1:= ?_) (h2:= ?_)<;>first | (simp only[go_sem,seval,reduceCtorEq,nz,na,n1,e1,e2,curC];first | done | rfl) | rfl | skip)
 ·obtain rfl:k=n:=by omega
  have h2:¬ (k:Int)<k:=by omega
  simp(disch:=omega) only[go_sem,seval,reduceCtorEq,hmn,h2,curC]
  (refine zE ?_ ?_<;>try simp only[go_sem,seval,reduceCtorEq])
def gTen (b:List Int) (r:Rg) (wd:Nat) (c:Cur):Cur × Ten:=
 ((d8 b r wd (aa (bt (bN b c).2)).toNat (bN b c).1 (aa (bt (bN b c).2)).toNat).1,
  ⟨(bN b c).2,bt (bN b c).2,(d8 b r wd (aa (bt (bN b c).2)).toNat (bN b c).1 (aa (bt (bN b c).2)).toNat).2⟩)
theorem zk {b:List Int} {c:Cur} (h:c.i≤b.length):(bN b c).1.i≤b.length:=xA (cI (n:=4) h) _
theorem H8 {b:List Int} {r:Rg} {wd:Nat} {c:Cur} (h:c.i≤b.length):(gTen b r wd c).1.i≤b.length:=uO (zk h) _
set_option maxHeartbeats 1600000 in
theorem CE {b:List Int} (hb:CodeOk b) {c:Cur} (hi:c.i≤b.length) {kk pp nn:Int} {wd:Nat} (hr:ae ⟨kk,pp,nn⟩=true) (hw:ah ⟨kk,pp,nn⟩=wd) (h1:1≤wd∧wd≤6):
  Does Tryz.prog 69 [.ptr 0 0,bm kk pp nn] [curS b c] (ownT 1 (gTen b ⟨kk,pp,nn⟩ wd c).2)
   [curS b (gTen b ⟨kk,pp,nn⟩ wd c).1,some ⟨1,true,iv (gTen b ⟨kk,pp,nn⟩ wd c).2.labels⟩,some ⟨1,true,iv (gTen b ⟨kk,pp,nn⟩ wd c).2.dims⟩,some ⟨1,true,iv (gTen b ⟨kk,pp,nn⟩ wd c).2.data⟩]:=by
 have hl:=yT hb hi
 obtain⟨hax,hl3,hd3⟩:=F4 b c
 have hpr:=kA (bN b c).2
 have hp6:=Bc (ls:=(bN b c).2) (by omega)
 have hck:=zk hi
 have hdl:=gz (bN b c).2
 unfold gTen
 generalize bN b c=T at hl hax hl3 hd3 hpr hp6 hck hdl
 obtain⟨c1,ls⟩:=T
 simp only at hl hax hl3 hd3 hpr hp6 hck hdl ⊢
 generalize bt ls=ds at hl hax hd3 hpr hp6 hdl
 have hn:aa ds=((aa ds).toNat:Int):=by omega
 generalize (aa ds).toNat=n at hn
 have hf:=CC hb hck hr hw h1 (ls:=ls) (ds:=ds) (by omega) (by omega) (fun d hd=>by have:=hd3 d hd;omega) hn (by omega)
 have hfl:=ou (b:=b) (r:=⟨kk,pp,nn⟩) (wd:=wd) (n:=n) (c:=c1) n (Nat.le_refl _)
 generalize d8 b ⟨kk,pp,nn⟩ wd n c1 n=F at hf hfl
 obtain⟨c2,D⟩:=F
 simp only at hf hfl ⊢
 unfold ownT
 unfold curS curR curC at hl hf ⊢
 rw[← hfl,hdl]at hf
 show Does _ _ _ _ (.agg [.own 1 0 ls.length,.own 2 0 ds.length,.own 3 0 D.length]) _
 rw[hdl]
 (refine spec_of (by kernel_rfl) Tryz.func69 uq (fnOk (nb rfl) ?_);unfold nP)
 (simp only[Nat.reduceSub,Zl,zn,Nat.reduceAdd,zF];try simp only[af]);(simp only[go_sem,seval,reduceCtorEq,List.replicate])
 (refine an [0] [] false (zd rfl) ?_ _ ?_ (hl) ?_ ?_;(focus (simp only[go_sem,seval,reduceCtorEq];done));(focus (simp only[go_sem,seval,reduceCtorEq];done));(focus (first | rfl | (simp only[go_sem,seval,reduceCtorEq];done))))
 simp(disch:=omega) only[go_sem,seval,reduceCtorEq]
 (refine an [0,3,4] [] false (zd rfl) ?_ _ ?_ (hf) ?_ ?_;(focus (simp only[go_sem,seval,reduceCtorEq];done));(focus (simp only[go_sem,seval,reduceCtorEq];done));(focus (first | rfl | (simp only[go_sem,seval,reduceCtorEq];done))))
 simp(disch:=omega) only[go_sem,seval,reduceCtorEq]
 (refine zE ?_ ?_<;>try simp only[go_sem,seval,reduceCtorEq])
end Go.Proofs.YtjfmckhbmdjnpaaGreat
