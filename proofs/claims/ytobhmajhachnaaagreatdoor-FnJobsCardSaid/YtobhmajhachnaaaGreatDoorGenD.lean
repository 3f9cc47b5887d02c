/-
 Plain: what is drawn fits its ring; a drawn tensor's axes are right. No condition.
-/
import Derived.Test.YtobhmajhachnaaaGreatDoorGenA
import Derived.Test.YtobhmajhachnaaaGreatDoorConS
set_option linter.unusedSimpArgs false
set_option linter.unusedVariables false
namespace Go.Proofs.YtobhmajhachnaaaGreatDoor
open Go.RowKit Go.Lift Plain
set_option maxRecDepth 100000
theorem Fo{r:Rg}{wd:Nat}(hr:ai r=true):fits r (oneE r wd):=eK fun x hx=>by
 have ht:=dA hr;unfold oneE at hx;rcases List.mem_or_eq_of_mem_set hx with h|h
 ·have:=(List.mem_replicate.1 h).2;omega
 ·subst h;split
  ·omega
  ·split<;>omega
theorem CE{b:List Int}{T:Int}(hT:1≤T)(wd:Nat)(c:Cur):∀k,∀x∈(gEl b T wd c k).2,0≤x∧x≤T
 |0,x,h=>by
  have:=(List.mem_replicate.1 h).2;omega
 |k+1,x,h=>by
  have hb:=cF (b:=b) (n:=min 256 (T+1)) (by omega) (gEl b T wd c k).1;rcases List.mem_or_eq_of_mem_set h with h|h
  ·exact CE hT wd c k x h
  ·subst h
   split<;>omega
theorem DF{b:List Int}{r:Rg}{wd:Nat}{c:Cur}(hr:ai r=true):fits r (kH b r wd c).2:=by
 have ht:=dA hr;unfold kH;split
 ·exact j8 hr
 ·split
  ·exact Fo hr
  ·exact eK fun x hx=>CE (by omega) _ _ _ x hx
theorem Ix(b:List Int)(c:Cur):axOk (bW b c).2 (bB (bW b c).2)∧(bW b c).2.length≤3∧∀d∈bB (bW b c).2,1≤d∧d≤3:=by
 have hm:=cF (b:=b) (n:=4) (by omega) c;have hl:=tf b 6 (aw b 4 c).2 (aw b 4 c).1.toNat;have hi:=w9 (b:=b) (n:=6) (by omega) (aw b 4 c).2 (aw b 4 c).1.toNat;have hn:=n5 b 6 (aw b 4 c).2 (aw b 4 c).1.toNat;have hd:∀d∈bB (bW b c).2,1≤d∧d≤3:=fun d hd=>by
  obtain⟨x,hx,rfl⟩:=List.mem_map.1 hd;unfold dimL;omega
 unfold bW at hd ⊢;refine⟨qo (by omega) (j6 _).symm hn (fun l hl=>by have:=hi l hl;omega) (fun d h=>by have:=hd d h;omega),by omega,hd⟩
set_option maxRecDepth 100000
structure Nat6(t:Ten):Prop where
 dims:t.dims=bB t.labels
 nd:t.labels.Nodup
 bd:∀x∈t.labels,0≤x∧x<6
 len:t.labels.length≤3
theorem kM{x:Int}:1≤dimL x∧dimL x≤3:=by unfold dimL;omega
theorem Nat6.ax{t:Ten}(h:Nat6 t):axOk t.labels t.dims:=by
 rw[h.dims];refine qo (by have:=h.len;omega) (j6 _).symm h.nd (fun l hl=>by have:=h.bd l hl;omega) fun d hd=> ?_
 obtain⟨x,hx,rfl⟩:=List.mem_map.1 hd;have:=kM (x:=x);omega
theorem Nat6.dim{t:Ten}(h:Nat6 t){x:Int}(hx:x∈t.labels):ao t x=dimL x:=by
 obtain⟨k,hk,rfl⟩:=List.getElem_of_mem hx;have hl:k<t.dims.length:=by rw[h.dims,j6];exact hk
 rw[gJ h.ax hk hl];simp [h.dims,bB]
theorem DQ:∀{ts:List Ten},(∀t∈ts,Nat6 t)→∀x,dimN ts x=0∨dimN ts x=dimL x
 | [],_,x=>.inl rfl
 |t :: l,h,x=>by
  rw[dimN];split
  ·rename_i hx;exact .inr ((h t (by simp)).dim hx)
  ·exact DQ (fun t' ht=>h t' (by simp [ht])) x
theorem CS:∀{ts:List Ten},(∀t∈ts,Nat6 t)→∀{x t},t∈ts→x∈t.labels→dimN ts x=dimL x
 |t :: l,h,x,u,hu,hx=>by
  rw[dimN];split
  ·rename_i hx;exact(h t (by simp)).dim hx
  ·rename_i hn
   rcases List.mem_cons.1 hu with rfl|hu
   ·exact absurd hx hn
   ·exact CS (fun t' ht=>h t' (by simp [ht])) hu hx
theorem MM{ts:List Ten}(h:∀t∈ts,Nat6 t):A9 ts:=fun k hk x hk' hx=>by
 rcases DQ (ts:=ts.take k) (fun t ht=>h t (List.mem_of_mem_take ht)) x with h1|h1
 ·exact .inl h1
 ·exact .inr (h1.trans ((h _ (List.getElem_mem hk)).dim hx).symm)
theorem lS:∀(ls:List Int),1≤aa (bB ls)∧aa (bB ls)≤3 ^ ls.length
 | []=>by decide
 |x :: l=>by
  obtain⟨h1,h2⟩:=lS l;have hd:=kM (x:=x);have e:aa (bB (x :: l))=dimL x*aa (bB l):=by rw[bB,List.map_cons,bi];rfl
  rw[e,Zl,Int.pow_succ];have a1:1*1≤dimL x*aa (bB l):=Int.mul_le_mul hd.1 h1 (by omega) (by omega);have a2:dimL x*aa (bB l)≤3*3 ^ l.length:=Int.mul_le_mul hd.2 h2 (by omega) (by omega);omega
theorem Ej{ls:List Int}(h:ls.length≤6):aa (bB ls)≤729:=by
 have h1:=(lS ls).2;have h2:((3:Int) ^ ls.length)≤3 ^ 6:=by
  have:(3:Nat) ^ ls.length≤3 ^ 6:=Nat.pow_le_pow_right (by omega) h
  exact_mod_cast this
 omega
theorem Nat6.prod{t:Ten}(h:Nat6 t):1≤aa t.dims∧aa t.dims≤729:=by
 rw[h.dims];exact⟨(lS _).1,Ej (by have:=h.len;omega)⟩
theorem Nat6.ok{r:Rg}{t:Ten}(h:Nat6 t)(hr:ai r=true)(hl:(t.data.length:Int)=aa t.dims*af r)(hf:fits r t.data):al r t.labels t.dims t.data=true:=by
 rw[Bs hr hl hf];have hp:=h.prod;have e:aT t.labels t.dims=aa t.dims:=if_pos ⟨h.ax,by omega⟩;rw[e];exact decide_eq_true (by omega)
theorem len6{l:List Int}(hn:l.Nodup)(hb:∀x∈l,0≤x∧x<6):l.length≤6:=by
 have hs:∀x∈l,x∈[0,1,2,3,4,(5:Int)]:=fun x hx=>by
  have:=hb x hx;simp only[List.mem_cons,List.not_mem_nil,or_false];omega
 exact su hn hs
theorem Ke{N:Net}(hr:ai N.rg=true)(hlen:N.ts.length≤12)(ht:∀t∈N.ts,Nat6 t∧al N.rg t.labels t.dims t.data=true)(hn:N.os.Nodup)(ho:∀x∈N.os,∃t∈N.ts,x∈t.labels):netOk N=true:=by
 have h6:∀t∈N.ts,Nat6 t:=fun t h=>(ht t h).1
 have hb:∀x∈N.os,0≤x∧x<6:=fun x hx=>by
  obtain⟨t,h1,h2⟩:=ho x hx
  exact(h6 t h1).bd x h2
 have e:N.os.map (dimN N.ts)=bB N.os:=List.map_congr_left fun x hx=>by
  obtain⟨t,h1,h2⟩:=ho x hx;exact CS h6 h1 h2
 have hl:=len6 hn hb;refine ae.2 ⟨hr,hlen,fun t h=>(ht t h).2,MM h6, ?_⟩;rw[e];have hax:axOk N.os (bB N.os):=qo (by omega) (j6 _).symm hn (fun l hl=>by have:=hb l hl;omega) fun d hd=>by
  obtain⟨x,hx,rfl⟩:=List.mem_map.1 hd;have:=kM (x:=x);omega
 have hp:=lS N.os;have hp2:=Ej hl;have e2:aT N.os (bB N.os)=aa (bB N.os):=if_pos ⟨hax,by omega⟩;rw[e2];omega
set_option maxRecDepth 100000
attribute [go_sem] List.getElem?_nil
def dt(b:List Int)(r:Rg)(wd n:Nat)(c:Cur):Nat→Cur × List Int
 |0=>(c,repE (aq r.k r.p wd) n)
 |k+1=>((kH b r wd (dt b r wd n c k).1).1,putE (dt b r wd n c k).2 (k*wd) (kH b r wd (dt b r wd n c k).1).2)
theorem xF{b:List Int}{r:Rg}{wd n:Nat}{c:Cur}(h:c.i≤b.length):∀k,(dt b r wd n c k).1.i≤b.length
 |0=>h
 |k+1=>Iy (xF h k)
theorem qi{b:List Int}{r:Rg}{wd n:Nat}{c:Cur}:∀k,k≤n→(dt b r wd n c k).2.length=n*wd
 |0,_=>by
  show (repE _ _).length=_
  rw[dH,bz]
 |k+1,h=>by
  have h1:=qi (b:=b) (r:=r) (wd:=wd) (n:=n) (c:=c) k (by omega);have hms:k*wd+wd≤n*wd:=fq (by omega)
  show (putE _ _ _).length=_
  have h2:=zA (b:=b) (r:=r) (wd:=wd) (c:=(dt b r wd n c k).1);rw[bQ (by omega)];exact h1
set_option maxHeartbeats 1600000 in
theorem FH{b:List Int}(hb:CodeOk b){c:Cur}(hi:c.i≤b.length){kk pp nn:Int}{wd n:Nat}{ls ds:List Int}(hr:ai ⟨kk,pp,nn⟩=true)(hw:af ⟨kk,pp,nn⟩=wd)(h1:1≤wd∧wd≤6)
  (hls:ls.length≤1048576) (hds:ds.length≤1048576) (hd:∀d∈ds,1≤d∧d≤100) (hn:aa ds=n) (hn2:n≤4096):
  Does Tryz.prog 97 [.ptr 0 0,aY kk pp nn,.own 1 0 ls.length,.own 2 0 ds.length] [curS b c,some ⟨1,false,iv ls⟩,some ⟨1,false,iv ds⟩]
   (.agg [.own 3 0 ls.length,.own 4 0 ds.length,.own 5 0 (n*wd)]) [curS b (dt b ⟨kk,pp,nn⟩ wd n c n).1,some ⟨1,false,iv ls⟩,some ⟨1,false,iv ds⟩,some ⟨1,true,iv ls⟩,some ⟨1,true,iv ds⟩,some ⟨1,true,iv (dt b ⟨kk,pp,nn⟩ wd n c n).2⟩]:=by
 have hmn:min (aa ds) 4097=(n:Int):=by omega
 have hz:=bz kk pp wd;have hzl:=dH (aq kk pp wd) n;rw[hz]at hzl;(refine spec_ofW _ (by kernel_rfl) Tryz.func97 xf (fnOk (nb rfl) ?_);unfold pC);unfold curS curR curC;refine zT ?_;(refine zC (zo (ls:=ls) (ds:=ds) hw h1 hls hds hd hn hn2) ?_);simp only[go_sem,seval,reduceCtorEq,hzl];have e0:(dt b ⟨kk,pp,nn⟩ wd n c 0).1=c:=rfl;have e1:(dt b ⟨kk,pp,nn⟩ wd n c 0).2=repE (aq kk pp wd) n:=rfl
 refine aA (n) (mkB 29 268402688) (fun k=>[(10,.d (.int k))]) (fun k=>[(0,curC b (dt b ⟨kk,pp,nn⟩ wd n c k).1.i (dt b ⟨kk,pp,nn⟩ wd n c k).1.h),(7,iv (dt b ⟨kk,pp,nn⟩ wd n c k).2)]) (h1:=by first|(simp only[go_sem,seval,reduceCtorEq,nz,na,n1,e0,e1,curC];first|done|rfl)|rfl) (h2:=by first|(simp only[go_sem,seval,reduceCtorEq,nz,na,n1,e0,e1,curC];first|done|rfl)|rfl) (hr:=fun k hk=> ?_);unfold nG;refine zU ?_;(refine zC (iC (ds:=ds) (lim:=4096) (by omega) hd (by omega)) ?_ (by simp only[go_sem,seval,reduceCtorEq,hmn]));by_cases hlt:k<n
 ·have h2:(k:Int)<n:=by omega
  have hms:=fq (wd:=wd) hlt;have hnw:n*wd≤4096*6:=Nat.mul_le_mul (by omega) h1.2;have hs:dt b ⟨kk,pp,nn⟩ wd n c (k+1)=((kH b ⟨kk,pp,nn⟩ wd (dt b ⟨kk,pp,nn⟩ wd n c k).1).1,putE (dt b ⟨kk,pp,nn⟩ wd n c k).2 (k*wd) (kH b ⟨kk,pp,nn⟩ wd (dt b ⟨kk,pp,nn⟩ wd n c k).1).2):=rfl;have hfl:=qi (b:=b) (r:=⟨kk,pp,nn⟩) (wd:=wd) (n:=n) (c:=c) k (by omega);have hck:=xF (r:=⟨kk,pp,nn⟩) (wd:=wd) (n:=n) hi k;generalize dt b ⟨kk,pp,nn⟩ wd n c k=S at hs hfl hck;obtain⟨c1,L⟩:=S;simp only at hfl hck hs;have hdr:=FL hb hck hr hw h1;have hdl:=zA (b:=b) (r:=⟨kk,pp,nn⟩) (wd:=wd) (c:=c1)
  generalize kH b ⟨kk,pp,nn⟩ wd c1=T at hdr hdl hs;obtain⟨c2,Y⟩:=T;simp only at hdr hdl hs;have e1:(dt b ⟨kk,pp,nn⟩ wd n c (k+1)).1=c2:=by rw[hs]
  have e2:(dt b ⟨kk,pp,nn⟩ wd n c (k+1)).2=putE L (k*wd) Y:=by rw[hs]
  have hpl:=bQ (xs:=L) (off:=k*wd) (ys:=Y) (by omega);have hyt:List.take wd Y=Y:=zt (by omega);unfold curS curR curC at hdr;simp(disch:=omega) only[go_sem,seval,reduceCtorEq,hmn,h2,curC];(refine am [0] [] false (zd rfl) ?_ _ ?_ (hdr) ?_ ?_;(focus (simp only[go_sem,seval,reduceCtorEq];done));(focus (simp only[go_sem,seval,reduceCtorEq];done));(focus (first|rfl|(simp only[go_sem,seval,reduceCtorEq];done))));refine zV ?_
  (refine eu [5,6,7] false (zp (ca:=ls) (cb:=ds) (cc:=L) (m:=n*wd) (x:=k) (ys:=Y) rfl rfl hfl.symm hw hdl h1 (by omega) (by omega) (by omega)) (zd rfl) ?_ ?_ ?_ ?_ (zd rfl) ?_;(focus (simp only[go_sem,seval,reduceCtorEq,hpl,hdl,hyt];done));(focus (simp only[go_sem,seval,reduceCtorEq];done));(focus (simp only[go_sem,seval,reduceCtorEq,hpl,hdl,hyt];done));(focus (simp only[go_sem,seval,reduceCtorEq];done)));refine zV ?_;(refine Next.drop (mkB 29 268402688) (by omega) (h1:= ?_) (h2:= ?_)<;>first|(simp only[go_sem,seval,reduceCtorEq,nz,na,n1,e1,e2,curC];first|done|rfl)|rfl|skip)
 ·obtain rfl:k=n:=by omega
  have h2:¬(k:Int)<k:=by omega
  simp(disch:=omega) only[go_sem,seval,reduceCtorEq,hmn,h2,curC];exact zX
def gTen(b:List Int)(r:Rg)(wd:Nat)(c:Cur):Cur × Ten:=
 ((dt b r wd (aa (bB (bW b c).2)).toNat (bW b c).1 (aa (bB (bW b c).2)).toNat).1,
  ⟨(bW b c).2,bB (bW b c).2,(dt b r wd (aa (bB (bW b c).2)).toNat (bW b c).1 (aa (bB (bW b c).2)).toNat).2⟩)
theorem CB{b:List Int}{c:Cur}(h:c.i≤b.length):(bW b c).1.i≤b.length:=AT (d4 (n:=4) h) _
theorem KA{b:List Int}{r:Rg}{wd:Nat}{c:Cur}(h:c.i≤b.length):(gTen b r wd c).1.i≤b.length:=xF (CB h) _
set_option maxHeartbeats 1600000 in
theorem FI{b:List Int}(hb:CodeOk b){c:Cur}(hi:c.i≤b.length){kk pp nn:Int}{wd:Nat}(hr:ai ⟨kk,pp,nn⟩=true)(hw:af ⟨kk,pp,nn⟩=wd)(h1:1≤wd∧wd≤6):
  Does Tryz.prog 57 [.ptr 0 0,aY kk pp nn] [curS b c] (ownT 1 (gTen b ⟨kk,pp,nn⟩ wd c).2)
   [curS b (gTen b ⟨kk,pp,nn⟩ wd c).1,some ⟨1,true,iv (gTen b ⟨kk,pp,nn⟩ wd c).2.labels⟩,some ⟨1,true,iv (gTen b ⟨kk,pp,nn⟩ wd c).2.dims⟩,some ⟨1,true,iv (gTen b ⟨kk,pp,nn⟩ wd c).2.data⟩]:=by
 have hl:=Ci hb hi;obtain⟨hax,hl3,hd3⟩:=Ix b c;have hpr:=lS (bW b c).2;have hp6:=Ej (ls:=(bW b c).2) (by omega);have hck:=CB hi;have hdl:=j6 (bW b c).2;unfold gTen;generalize bW b c=T at hl hax hl3 hd3 hpr hp6 hck hdl;obtain⟨c1,ls⟩:=T;simp only at hl hax hl3 hd3 hpr hp6 hck hdl ⊢;generalize bB ls=ds at hl hax hd3 hpr hp6 hdl;have hn:aa ds=((aa ds).toNat:Int):=by omega
 generalize (aa ds).toNat=n at hn;have hf:=FH hb hck hr hw h1 (ls:=ls) (ds:=ds) (by omega) (by omega) (fun d hd=>by have:=hd3 d hd;omega) hn (by omega);have hfl:=qi (b:=b) (r:=⟨kk,pp,nn⟩) (wd:=wd) (n:=n) (c:=c1) n (Nat.le_refl _);generalize dt b ⟨kk,pp,nn⟩ wd n c1 n=F at hf hfl;obtain⟨c2,D⟩:=F;simp only at hf hfl ⊢;unfold ownT;unfold curS curR curC at hl hf ⊢;rw[← hfl,hdl]at hf
 show Does _ _ _ _ (.agg [.own 1 0 ls.length,.own 2 0 ds.length,.own 3 0 D.length]) _
 rw[hdl];refine zS Tryz.func57 xg ?_;unfold pD;refine zT ?_;(refine am [0] [] false (zd rfl) ?_ _ ?_ (hl) ?_ ?_;(focus (simp only[go_sem,seval,reduceCtorEq];done));(focus (simp only[go_sem,seval,reduceCtorEq];done));(focus (first|rfl|(simp only[go_sem,seval,reduceCtorEq];done))));refine zV ?_;(refine am [0,3,4] [] false (zd rfl) ?_ _ ?_ (hf) ?_ ?_;(focus (simp only[go_sem,seval,reduceCtorEq];done));(focus (simp only[go_sem,seval,reduceCtorEq];done));(focus (first|rfl|(simp only[go_sem,seval,reduceCtorEq];done))));refine zV ?_;exact zX
end Go.Proofs.YtobhmajhachnaaaGreatDoor
