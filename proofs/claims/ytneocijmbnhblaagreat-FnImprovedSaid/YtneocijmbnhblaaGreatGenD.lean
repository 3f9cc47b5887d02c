/-
 Plain: what is drawn fits its ring; a drawn tensor's axes are right. No condition.
-/
import Derived.Test.YtneocijmbnhblaaGreatGenA
import Derived.Test.YtneocijmbnhblaaGreatConS
set_option linter.unusedSimpArgs false
set_option linter.unusedVariables false
namespace Go.Proofs.YtneocijmbnhblaaGreat
open Go.RowKit Go.Lift Plain
set_option maxRecDepth 100000
theorem zK {r:Rg} {wd:Nat} (hr:af r=true):fits r (oneE r wd):=fD fun x hx=>by
 have ht:=dY hr
 unfold oneE at hx
 rcases List.mem_or_eq_of_mem_set hx with h | h
 ·have:=(List.mem_replicate.1 h).2;omega
 ·subst h;split
  ·omega
  ·split<;>omega
theorem wy {b:List Int} {T:Int} (hT:1≤T) (wd:Nat) (c:Cur):∀ k,∀ x∈(gEl b T wd c k).2,0≤x∧x≤T
 | 0,x,h=>by
  have:=(List.mem_replicate.1 h).2
  omega
 | k+1,x,h=>by
  have hb:=dc (b:=b) (n:=min 256 (T+1)) (by omega) (gEl b T wd c k).1
  rcases List.mem_or_eq_of_mem_set h with h | h
  ·exact wy hT wd c k x h
  ·subst h
   split<;>omega
theorem xD {b:List Int} {r:Rg} {wd:Nat} {c:Cur} (hr:af r=true):fits r (i7 b r wd c).2:=by
 have ht:=dY hr
 unfold i7
 split
 ·exact gt hr
 ·split
  ·exact zK hr
  ·exact fD fun x hx=>wy (by omega) _ _ _ x hx
theorem Cu (b:List Int) (c:Cur):axOk (bW b c).2 (bH (bW b c).2)∧(bW b c).2.length≤3∧∀ d∈bH (bW b c).2,1≤d∧d≤3:=by
 have hm:=dc (b:=b) (n:=4) (by omega) c
 have hl:=mO b 6 (aw b 4 c).2 (aw b 4 c).1.toNat
 have hi:=pL (b:=b) (n:=6) (by omega) (aw b 4 c).2 (aw b 4 c).1.toNat
 have hn:=jh b 6 (aw b 4 c).2 (aw b 4 c).1.toNat
 have hd:∀ d∈bH (bW b c).2,1≤d∧d≤3:=fun d hd=>by
  obtain⟨x,hx,rfl⟩:=List.mem_map.1 hd
  unfold dimL
  omega
 unfold bW at hd ⊢
 refine⟨pT (by omega) (gp _).symm hn (fun l hl=>by have:=hi l hl;omega) (fun d h=>by have:=hd d h;omega),by omega,hd⟩
set_option maxRecDepth 100000
structure Nat6 (t:Ten):Prop where
 dims:t.dims=bH t.labels
 nd:t.labels.Nodup
 bd:∀ x∈t.labels,0≤x∧x<6
 len:t.labels.length≤3
theorem jn {x:Int}:1≤dimL x∧dimL x≤3:=by unfold dimL;omega
theorem Nat6.ax {t:Ten} (h:Nat6 t):axOk t.labels t.dims:=by
 rw[h.dims]
 refine pT (by have:=h.len;omega) (gp _).symm h.nd (fun l hl=>by have:=h.bd l hl;omega) fun d hd=> ?_
 obtain⟨x,hx,rfl⟩:=List.mem_map.1 hd
 have:=jn (x:=x)
 omega
theorem Nat6.dim {t:Ten} (h:Nat6 t) {x:Int} (hx:x∈t.labels):au t x=dimL x:=by
 obtain⟨k,hk,rfl⟩:=List.getElem_of_mem hx
 have hl:k<t.dims.length:=by rw[h.dims,gp];exact hk
 rw[fT h.ax hk hl]
 simp [h.dims,bH]
theorem xM:∀ {ts:List Ten},(∀ t∈ts,Nat6 t)→∀ x,dimN ts x=0∨dimN ts x=dimL x
 | [],_,x=>.inl rfl
 | t :: l,h,x=>by
  rw[dimN]
  split
  ·rename_i hx;exact .inr ((h t (by simp)).dim hx)
  ·exact xM (fun t' ht=>h t' (by simp [ht])) x
theorem wK:∀ {ts:List Ten},(∀ t∈ts,Nat6 t)→∀ {x t},t∈ts→x∈t.labels→dimN ts x=dimL x
 | t :: l,h,x,u,hu,hx=>by
  rw[dimN]
  split
  ·rename_i hx;exact(h t (by simp)).dim hx
  ·rename_i hn
   rcases List.mem_cons.1 hu with rfl | hu
   ·exact absurd hx hn
   ·exact wK (fun t' ht=>h t' (by simp [ht])) hu hx
theorem Gg {ts:List Ten} (h:∀ t∈ts,Nat6 t):tP ts:=fun k hk x hk' hx=>by
 rcases xM (ts:=ts.take k) (fun t ht=>h t (List.mem_of_mem_take ht)) x with h1 | h1
 ·exact .inl h1
 ·exact .inr (h1.trans ((h _ (List.getElem_mem hk)).dim hx).symm)
theorem iC:∀ (ls:List Int),1≤aa (bH ls)∧aa (bH ls)≤3 ^ ls.length
 | []=>by decide
 | x :: l=>by
  obtain⟨h1,h2⟩:=iC l
  have hd:=jn (x:=x)
  have e:aa (bH (x :: l))=dimL x*aa (bH l):=by rw[bH,List.map_cons,ba];rfl
  rw[e,Zl,Int.pow_succ]
  have a1:1*1≤dimL x*aa (bH l):=Int.mul_le_mul hd.1 h1 (by omega) (by omega)
  have a2:dimL x*aa (bH l)≤3*3 ^ l.length:=Int.mul_le_mul hd.2 h2 (by omega) (by omega)
  omega
theorem yi {ls:List Int} (h:ls.length≤6):aa (bH ls)≤729:=by
 have h1:=(iC ls).2
 have h2:((3:Int) ^ ls.length)≤3 ^ 6:=by
  have:(3:Nat) ^ ls.length≤3 ^ 6:=Nat.pow_le_pow_right (by omega) h
  exact_mod_cast this
 omega
theorem Nat6.prod {t:Ten} (h:Nat6 t):1≤aa t.dims∧aa t.dims≤729:=by
 rw[h.dims]
 exact⟨(iC _).1,yi (by have:=h.len;omega)⟩
theorem Nat6.ok {r:Rg} {t:Ten} (h:Nat6 t) (hr:af r=true) (hl:(t.data.length:Int)=aa t.dims*ah r) (hf:fits r t.data):aD r t.labels t.dims t.data=true:=by
 rw[AM hr hl hf]
 have hp:=h.prod
 have e:aX t.labels t.dims=aa t.dims:=if_pos ⟨h.ax,by omega⟩
 rw[e]
 exact decide_eq_true (by omega)
theorem len6 {l:List Int} (hn:l.Nodup) (hb:∀ x∈l,0≤x∧x<6):l.length≤6:=by
 have hs:∀ x∈l,x∈[0,1,2,3,4,(5:Int)]:=fun x hx=>by
  have:=hb x hx
  simp only[List.mem_cons,List.not_mem_nil,or_false]
  omega
 exact mi hn hs
theorem DZ {N:Net} (hr:af N.rg=true) (hlen:N.ts.length≤12) (ht:∀ t∈N.ts,Nat6 t∧aD N.rg t.labels t.dims t.data=true) (hn:N.os.Nodup) (ho:∀ x∈N.os,∃ t∈N.ts,x∈t.labels):bC N=true:=by
 have h6:∀ t∈N.ts,Nat6 t:=fun t h=>(ht t h).1
 have hb:∀ x∈N.os,0≤x∧x<6:=fun x hx=>by
  obtain⟨t,h1,h2⟩:=ho x hx
  exact(h6 t h1).bd x h2
 have e:N.os.map (dimN N.ts)=bH N.os:=List.map_congr_left fun x hx=>by
  obtain⟨t,h1,h2⟩:=ho x hx
  exact wK h6 h1 h2
 have hl:=len6 hn hb
 refine an.2 ⟨hr,hlen,fun t h=>(ht t h).2,Gg h6, ?_⟩
 rw[e]
 have hax:axOk N.os (bH N.os):=pT (by omega) (gp _).symm hn (fun l hl=>by have:=hb l hl;omega) fun d hd=>by
  obtain⟨x,hx,rfl⟩:=List.mem_map.1 hd
  have:=jn (x:=x)
  omega
 have hp:=iC N.os
 have hp2:=yi hl
 have e2:aX N.os (bH N.os)=aa (bH N.os):=if_pos ⟨hax,by omega⟩
 rw[e2]
 omega
set_option maxRecDepth 100000
attribute [go_sem] List.getElem?_nil
def dy (b:List Int) (r:Rg) (wd n:Nat) (c:Cur):Nat→Cur × List Int
 | 0=>(c,repE (az r.k r.p wd) n)
 | k+1=>((i7 b r wd (dy b r wd n c k).1).1,putE (dy b r wd n c k).2 (k*wd) (i7 b r wd (dy b r wd n c k).1).2)
theorem rc {b:List Int} {r:Rg} {wd n:Nat} {c:Cur} (h:c.i≤b.length):∀ k,(dy b r wd n c k).1.i≤b.length
 | 0=>h
 | k+1=>Cv (rc h k)
theorem kS {b:List Int} {r:Rg} {wd n:Nat} {c:Cur}:∀ k,k≤n→(dy b r wd n c k).2.length=n*wd
 | 0,_=>by
  show (repE _ _).length=_
  rw[ei,bQ]
 | k+1,h=>by
  have h1:=kS (b:=b) (r:=r) (wd:=wd) (n:=n) (c:=c) k (by omega)
  have hms:k*wd+wd≤n*wd:=iH (by omega)
  show (putE _ _ _).length=_
  have h2:=tn (b:=b) (r:=r) (wd:=wd) (c:=(dy b r wd n c k).1)
  rw[c9 (by omega)]
  exact h1
set_option maxHeartbeats 1600000 in
theorem zZ {b:List Int} (hb:CodeOk b) {c:Cur} (hi:c.i≤b.length) {kk pp nn:Int} {wd n:Nat} {ls ds:List Int} (hr:af ⟨kk,pp,nn⟩=true) (hw:ah ⟨kk,pp,nn⟩=wd) (h1:1≤wd∧wd≤6)
  (hls:ls.length≤1048576) (hds:ds.length≤1048576) (hd:∀ d∈ds,1≤d∧d≤100) (hn:aa ds=n) (hn2:n≤4096):
  Does Tryz.prog 35 [.ptr 0 0,bw kk pp nn,.own 1 0 ls.length,.own 2 0 ds.length] [curS b c,some ⟨1,false,iv ls⟩,some ⟨1,false,iv ds⟩]
   (.agg [.own 3 0 ls.length,.own 4 0 ds.length,.own 5 0 (n*wd)]) [curS b (dy b ⟨kk,pp,nn⟩ wd n c n).1,some ⟨1,false,iv ls⟩,some ⟨1,false,iv ds⟩,some ⟨1,true,iv ls⟩,some ⟨1,true,iv ds⟩,some ⟨1,true,iv (dy b ⟨kk,pp,nn⟩ wd n c n).2⟩]:=by
 have hmn:min (aa ds) 4097=(n:Int):=by omega
 have hz:=bQ kk pp wd
 have hzl:=ei (az kk pp wd) n
 rw[hz]at hzl
 (refine spec_ofW _ (by kernel_rfl) Tryz.func35 qM (fnOk (nb rfl) ?_);unfold C_spec_l05Fill)
 unfold curS curR curC
 (simp only[Nat.reduceSub,Zl,zn,Nat.reduceAdd,zF];try simp only[ae]);(simp only[go_sem,seval,reduceCtorEq,List.replicate])
 (refine zC (t4 (ls:=ls) (ds:=ds) hw h1 hls hds hd hn hn2) ?_)
 simp only[go_sem,seval,reduceCtorEq,hzl]
 have e0:(dy b ⟨kk,pp,nn⟩ wd n c 0).1=c:=rfl
 have e1:(dy b ⟨kk,pp,nn⟩ wd n c 0).2=repE (az kk pp wd) n:=rfl
 refine aH (n) (mkB 29 268402688) (fun k=>[(10,.d (.int k))]) (fun k=>[(0,curC b (dy b ⟨kk,pp,nn⟩ wd n c k).1.i (dy b ⟨kk,pp,nn⟩ wd n c k).1.h),(7,iv (dy b ⟨kk,pp,nn⟩ wd n c k).2)]) (h1:=by first | (simp only[go_sem,seval,reduceCtorEq,nz,na,n1,e0,e1,curC];first | done | rfl) | rfl) (h2:=by first | (simp only[go_sem,seval,reduceCtorEq,nz,na,n1,e0,e1,curC];first | done | rfl) | rfl) (hr:=fun k hk=> ?_)
 unfold L0_spec_l05Fill
 simp only[go_sem,seval,reduceCtorEq]
 (refine aZ (g7 (ds:=ds) (lim:=4096) (by omega) hd (by omega)) ?_ ?_ ?_;(focus (simp only[go_sem,seval,reduceCtorEq,hmn];done));(first | rfl | (focus (simp only[go_sem];done))))
 by_cases hlt:k<n
 ·have h2:(k:Int)<n:=by omega
  have hms:=iH (wd:=wd) hlt
  have hnw:n*wd≤4096*6:=Nat.mul_le_mul (by omega) h1.2
  have hs:dy b ⟨kk,pp,nn⟩ wd n c (k+1)=((i7 b ⟨kk,pp,nn⟩ wd (dy b ⟨kk,pp,nn⟩ wd n c k).1).1,putE (dy b ⟨kk,pp,nn⟩ wd n c k).2 (k*wd) (i7 b ⟨kk,pp,nn⟩ wd (dy b ⟨kk,pp,nn⟩ wd n c k).1).2):=rfl
  have hfl:=kS (b:=b) (r:=⟨kk,pp,nn⟩) (wd:=wd) (n:=n) (c:=c) k (by omega)
  have hck:=rc (r:=⟨kk,pp,nn⟩) (wd:=wd) (n:=n) hi k
  generalize dy b ⟨kk,pp,nn⟩ wd n c k=S at hs hfl hck
  obtain⟨c1,L⟩:=S
  simp only at hfl hck hs
  have hdr:=A7 hb hck hr hw h1
  have hdl:=tn (b:=b) (r:=⟨kk,pp,nn⟩) (wd:=wd) (c:=c1)
  generalize i7 b ⟨kk,pp,nn⟩ wd c1=T at hdr hdl hs
  obtain⟨c2,Y⟩:=T
  simp only at hdr hdl hs
  have e1:(dy b ⟨kk,pp,nn⟩ wd n c (k+1)).1=c2:=by rw[hs]
  have e2:(dy b ⟨kk,pp,nn⟩ wd n c (k+1)).2=putE L (k*wd) Y:=by rw[hs]
  have hpl:=c9 (xs:=L) (off:=k*wd) (ys:=Y) (by omega)
  have hyt:List.take wd Y=Y:=zt (by omega)
  unfold curS curR curC at hdr
  simp(disch:=omega) only[go_sem,seval,reduceCtorEq,hmn,h2,curC]
  (refine ai [0] [] false (zd rfl) ?_ _ ?_ (hdr) ?_ ?_;(focus (simp only[go_sem,seval,reduceCtorEq];done));(focus (simp only[go_sem,seval,reduceCtorEq];done));(focus (first | rfl | (simp only[go_sem,seval,reduceCtorEq];done))))
  simp(disch:=omega) only[go_sem,seval,reduceCtorEq]
  (refine fG [5,6,7] false (t7 (ca:=ls) (cb:=ds) (cc:=L) (m:=n*wd) (x:=k) (ys:=Y) rfl rfl hfl.symm hw hdl h1 (by omega) (by omega) (by omega)) (zd rfl) ?_ ?_ ?_ ?_ (zd rfl) ?_;(focus (simp only[go_sem,seval,reduceCtorEq,hpl,hdl,hyt];done));(focus (simp only[go_sem,seval,reduceCtorEq];done));(focus (simp only[go_sem,seval,reduceCtorEq,hpl,hdl,hyt];done));(focus (simp only[go_sem,seval,reduceCtorEq];done)))
  simp(disch:=omega) only[go_sem,seval,reduceCtorEq]
  (refine Next.drop (mkB 29 268402688) (by omega) (h1:= ?_) (h2:= ?_)<;>first | (simp only[go_sem,seval,reduceCtorEq,nz,na,n1,e1,e2,curC];first | done | rfl) | rfl | skip)
 ·obtain rfl:k=n:=by omega
  have h2:¬ (k:Int)<k:=by omega
  simp(disch:=omega) only[go_sem,seval,reduceCtorEq,hmn,h2,curC]
  (refine zE ?_ ?_<;>try simp only[go_sem,seval,reduceCtorEq])
def gTen (b:List Int) (r:Rg) (wd:Nat) (c:Cur):Cur × Ten:=
 ((dy b r wd (aa (bH (bW b c).2)).toNat (bW b c).1 (aa (bH (bW b c).2)).toNat).1,
  ⟨(bW b c).2,bH (bW b c).2,(dy b r wd (aa (bH (bW b c).2)).toNat (bW b c).1 (aa (bH (bW b c).2)).toNat).2⟩)
theorem ww {b:List Int} {c:Cur} (h:c.i≤b.length):(bW b c).1.i≤b.length:=uD (db (n:=4) h) _
theorem Ei {b:List Int} {r:Rg} {wd:Nat} {c:Cur} (h:c.i≤b.length):(gTen b r wd c).1.i≤b.length:=rc (ww h) _
set_option maxHeartbeats 1600000 in
theorem A3 {b:List Int} (hb:CodeOk b) {c:Cur} (hi:c.i≤b.length) {kk pp nn:Int} {wd:Nat} (hr:af ⟨kk,pp,nn⟩=true) (hw:ah ⟨kk,pp,nn⟩=wd) (h1:1≤wd∧wd≤6):
  Does Tryz.prog 64 [.ptr 0 0,bw kk pp nn] [curS b c] (ownT 1 (gTen b ⟨kk,pp,nn⟩ wd c).2)
   [curS b (gTen b ⟨kk,pp,nn⟩ wd c).1,some ⟨1,true,iv (gTen b ⟨kk,pp,nn⟩ wd c).2.labels⟩,some ⟨1,true,iv (gTen b ⟨kk,pp,nn⟩ wd c).2.dims⟩,some ⟨1,true,iv (gTen b ⟨kk,pp,nn⟩ wd c).2.data⟩]:=by
 have hl:=w7 hb hi
 obtain⟨hax,hl3,hd3⟩:=Cu b c
 have hpr:=iC (bW b c).2
 have hp6:=yi (ls:=(bW b c).2) (by omega)
 have hck:=ww hi
 have hdl:=gp (bW b c).2
 unfold gTen
 generalize bW b c=T at hl hax hl3 hd3 hpr hp6 hck hdl
 obtain⟨c1,ls⟩:=T
 simp only at hl hax hl3 hd3 hpr hp6 hck hdl ⊢
 generalize bH ls=ds at hl hax hd3 hpr hp6 hdl
 have hn:aa ds=((aa ds).toNat:Int):=by omega
 generalize (aa ds).toNat=n at hn
 have hf:=zZ hb hck hr hw h1 (ls:=ls) (ds:=ds) (by omega) (by omega) (fun d hd=>by have:=hd3 d hd;omega) hn (by omega)
 have hfl:=kS (b:=b) (r:=⟨kk,pp,nn⟩) (wd:=wd) (n:=n) (c:=c1) n (Nat.le_refl _)
 generalize dy b ⟨kk,pp,nn⟩ wd n c1 n=F at hf hfl
 obtain⟨c2,D⟩:=F
 simp only at hf hfl ⊢
 unfold ownT
 unfold curS curR curC at hl hf ⊢
 rw[← hfl,hdl]at hf
 show Does _ _ _ _ (.agg [.own 1 0 ls.length,.own 2 0 ds.length,.own 3 0 D.length]) _
 rw[hdl]
 (refine spec_of (by kernel_rfl) Tryz.func64 qN (fnOk (nb rfl) ?_);unfold C_spec_l05Draw)
 (simp only[Nat.reduceSub,Zl,zn,Nat.reduceAdd,zF];try simp only[ae]);(simp only[go_sem,seval,reduceCtorEq,List.replicate])
 (refine ai [0] [] false (zd rfl) ?_ _ ?_ (hl) ?_ ?_;(focus (simp only[go_sem,seval,reduceCtorEq];done));(focus (simp only[go_sem,seval,reduceCtorEq];done));(focus (first | rfl | (simp only[go_sem,seval,reduceCtorEq];done))))
 simp(disch:=omega) only[go_sem,seval,reduceCtorEq]
 (refine ai [0,3,4] [] false (zd rfl) ?_ _ ?_ (hf) ?_ ?_;(focus (simp only[go_sem,seval,reduceCtorEq];done));(focus (simp only[go_sem,seval,reduceCtorEq];done));(focus (first | rfl | (simp only[go_sem,seval,reduceCtorEq];done))))
 simp(disch:=omega) only[go_sem,seval,reduceCtorEq]
 (refine zE ?_ ?_<;>try simp only[go_sem,seval,reduceCtorEq])
end Go.Proofs.YtneocijmbnhblaaGreat
