/-
 Contracts: networks drawn. No condition.
-/
import Derived.Test.YtobhmajhachnaaaGreatDoorGenD
import Derived.Test.YtobhmajhachnaaaGreatDoorNetC
import Derived.Test.YtobhmajhachnaaaGreatDoorNetG
import Derived.Test.YtobhmajhachnaaaGreatDoorPlD
import Derived.Test.YtobhmajhachnaaaGreatDoorLiftI
set_option linter.unusedSimpArgs false
set_option linter.unusedVariables false
namespace Go.Proofs.YtobhmajhachnaaaGreatDoor
open Go.RowKit Go.Lift Plain
set_option maxRecDepth 100000
theorem MF{b:List Int}{r:Rg}{wd:Nat}{c:Cur}(hr:ai r=true)(hw:af r=wd):Nat6 (gTen b r wd c).2∧al r (gTen b r wd c).2.labels (gTen b r wd c).2.dims (gTen b r wd c).2.data=true:=by
 have hm:=cF (b:=b) (n:=4) (by omega) c;have hl:=tf b 6 (aw b 4 c).2 (aw b 4 c).1.toNat;have hi:=w9 (b:=b) (n:=6) (by omega) (aw b 4 c).2 (aw b 4 c).1.toNat;have hn:=n5 b 6 (aw b 4 c).2 (aw b 4 c).1.toNat;have h6:Nat6 (gTen b r wd c).2:=⟨rfl,hn,hi,by show (bW b c).2.length≤3;unfold bW;omega⟩;have hp:=h6.prod;refine⟨h6,h6.ok hr ?_ ?_⟩
 ·have h2:=qi (b:=b) (r:=r) (wd:=wd) (n:=(aa (bB (bW b c).2)).toNat) (c:=(bW b c).1) (aa (bB (bW b c).2)).toNat (Nat.le_refl _)
  have hp':1≤aa (bB (bW b c).2)∧aa (bB (bW b c).2)≤729:=hp
  show ((dt b r wd (aa (bB (bW b c).2)).toNat (bW b c).1 (aa (bB (bW b c).2)).toNat).2.length:Int)=aa (bB (bW b c).2)*af r
  rw[h2,hw,Int.natCast_mul]
  congr 1
  omega
 ·have key:∀n k c,fits r (dt b r wd n c k).2:=by
   intro n k c
   induction k with
   |zero=>
    refine eK fun x hx=> ?_
    have hz:∀n,∀x∈repE (aq r.k r.p wd) n,x∈aq r.k r.p wd:=by
     intro n
     induction n with
     |zero=>intro x hx;cases hx
     |succ n ih=>
      intro x hx;rcases List.mem_append.1 hx with h|h
      ·exact ih x h
      ·exact h
    exact fA (j8 hr) x (hz n x hx)
   |succ k ih=>exact u7 ih (DF hr)
  exact key _ _ _
def gTs(b:List Int)(r:Rg)(wd:Nat)(c:Cur):Nat→Cur × List Ten
 |0=>(c,[])
 |k+1=>((gTen b r wd (gTs b r wd c k).1).1,(gTs b r wd c k).2++[(gTen b r wd (gTs b r wd c k).1).2])
theorem DB{b:List Int}{r:Rg}{wd:Nat}{c:Cur}(h:c.i≤b.length):∀k,(gTs b r wd c k).1.i≤b.length
 |0=>h
 |k+1=>KA (DB h k)
theorem w8{b:List Int}{r:Rg}{wd:Nat}{c:Cur}:∀k,(gTs b r wd c k).2.length=k
 |0=>rfl
 |k+1=>by
  show (_++[_]).length=_
  rw[List.length_append,w8 k]
  rfl
theorem Iw{b:List Int}{r:Rg}{wd:Nat}{c:Cur}(hr:ai r=true)(hw:af r=wd):∀k,∀t∈(gTs b r wd c k).2,Nat6 t∧al r t.labels t.dims t.data=true
 |0,t,h=>by cases h
 |k+1,t,h=>by
  rcases List.mem_append.1 h with h|h
  ·exact Iw hr hw k t h
  ·rw[List.mem_singleton.1 h]
   exact MF hr hw
def gSel(b:List Int)(xs:List Int)(c:Cur):Nat→Cur × List Int
 |0=>(c,[])
 |k+1=>((kF b 3 (gSel b xs c k).1).2,if (kF b 3 (gSel b xs c k).1).1=true then (gSel b xs c k).2++[xs.getD k 0] else (gSel b xs c k).2)
theorem EB{b:List Int}{xs:List Int}{c:Cur}(h:c.i≤b.length):∀k,(gSel b xs c k).1.i≤b.length
 |0=>h
 |k+1=>CA (n:=3) (EB h k)
theorem td{b:List Int}{xs:List Int}{c:Cur}:∀k,k≤xs.length→(gSel b xs c k).2.Sublist (xs.take k)
 |0,_=>by simp [gSel]
 |k+1,h=>by
  have ih:=td (b:=b) (xs:=xs) (c:=c) k (by omega);rw[ba (show k<xs.length by omega)];simp only[gSel];split
  ·rw[ac (show k<xs.length by omega)]
   exact ih.append (List.Sublist.refl _)
  ·exact ih.trans (List.sublist_append_left _ _)
theorem Cx{b:List Int}{xs:List Int}{c:Cur}(k:Nat)(h:k≤xs.length):(gSel b xs c k).2.length≤k:=by
 have:=(td (b:=b) (c:=c) k h).length_le;rw[List.length_take]at this;omega
theorem Fl(p:Nat→Bool)(n:Nat):(aX p n).Nodup:=by
 unfold aX;refine List.Pairwise.map _ (fun a b h=> ?_) (List.nodup_range.filter _);intro e;exact h (by exact_mod_cast e)
def gNet(b:List Int)(r:Rg)(wd:Nat)(most:Int)(c:Cur):Cur × Net:=
 let T:=gTs b r wd (aw b (most+1) c).2 (aw b (most+1) c).1.toNat
 let L:=aX (labP T.2) 100
 let S:=bf b T.1 L L.length
 let O:=gSel b S.2 S.1 S.2.length
 (O.1,⟨r.k,r.p,r.n,T.2,O.2⟩)
theorem Es{ts:List Ten}(h:∀t∈ts,Nat6 t):cQ ts:=fun t ht=>(h t ht).ax
structure Gen6(N:Net):Prop where
 ok:netOk N=true
 six:∀t∈N.ts,Nat6 t
theorem MG{b:List Int}{r:Rg}{wd:Nat}{most:Int}{c:Cur}(hr:ai r=true)(hw:af r=wd)(hm:0≤most∧most≤11):Gen6 (gNet b r wd most c).2∧((gNet b r wd most c).2.ts.length:Int)≤most:=by
 have hb:=cF (b:=b) (n:=most+1) (by omega) c;have h1:=Iw (b:=b) (c:=(aw b (most+1) c).2) hr hw (aw b (most+1) c).1.toNat;have h2:=w8 (b:=b) (r:=r) (wd:=wd) (c:=(aw b (most+1) c).2) (aw b (most+1) c).1.toNat;have hax:=Es fun t ht=>(h1 t ht).1
 have hnd:=Fl (labP (gTs b r wd (aw b (most+1) c).2 (aw b (most+1) c).1.toNat).2) 100;refine⟨⟨Ke (N:=(gNet b r wd most c).2) hr ?_ h1 ?_ ?_,fun t ht=>(h1 t ht).1⟩, ?_⟩
 ·show (gTs b r wd _ _).2.length≤12
  rw[h2];omega
 ·unfold gNet
  simp only;generalize (gTs b r wd (aw b (most+1) c).2 (aw b (most+1) c).1.toNat)=T at*;have hp:=jk (b:=b) T.1 (aX (labP T.2) 100) _ (Nat.le_refl _);have hs:=td (b:=b) (xs:=(bf b T.1 (aX (labP T.2) 100) (aX (labP T.2) 100).length).2) (c:=(bf b T.1 (aX (labP T.2) 100) (aX (labP T.2) 100).length).1) _ (Nat.le_refl _);rw[List.take_length]at hs
  exact(hp.nodup_iff.2 hnd).sublist hs
 ·unfold gNet
  simp only;generalize (gTs b r wd (aw b (most+1) c).2 (aw b (most+1) c).1.toNat)=T at*;intro x hx;have hp:=jk (b:=b) T.1 (aX (labP T.2) 100) _ (Nat.le_refl _);have hs:=td (b:=b) (xs:=(bf b T.1 (aX (labP T.2) 100) (aX (labP T.2) 100).length).2) (c:=(bf b T.1 (aX (labP T.2) 100) (aX (labP T.2) 100).length).1) _ (Nat.le_refl _);rw[List.take_length]at hs;have h3:=hp.mem_iff.1 (hs.subset hx);exact oF ((Cd hax).1 h3)
 ·show ((gTs b r wd _ _).2.length:Int)≤most
  rw[h2];omega
theorem qy{r:Rg}{ls ds xs:List Int}(h:al r ls ds xs=true):fits r xs:=by
 simp only[al,Bool.and_eq_true,jm,decide_eq_true_eq]at h;exact h.2
theorem jf{r:Rg}(h:ai r=true):I64 r.k∧I64 r.p∧I64 r.n:=by
 have hp:∀{p:Int},bZ p=true→2≤p∧p≤1000003:=fun h=>bU h
 unfold ai at h;unfold I64;split at h
 ·simp at h;omega
 ·split at h
  ·simp only[Bool.and_eq_true,decide_eq_true_eq]at h;have:=hp h.1;omega
  ·split at h
   ·simp only[decide_eq_true_eq]at h;omega
   ·split at h
    ·simp only[decide_eq_true_eq]at h;omega
    ·split at h
     ·simp only[Bool.and_eq_true,decide_eq_true_eq]at h;have:=hp h.1;omega
     ·split at h
      ·simp only[Bool.and_eq_true,decide_eq_true_eq]at h;have:=hp h.1;omega
      ·cases h
theorem Nat6.sz{r:Rg}{t:Ten}(h:Nat6 t)(ht:al r t.labels t.dims t.data=true):TSz 1048576 t:=by
 have hfa:=bI ht;have hr:=hfa.1;have hp:=hfa.2.2.1;have hl:=hfa.2.2.2.2.2;have hf:=qy ht;have hw:=cm hr;have htp:=dA hr;have h3:=h.len;have hlen:(t.data.length:Int)≤4096*6:=by
  rw[hl];exact Int.mul_le_mul (by omega) hw.2 (by omega) (by omega)
 refine⟨⟨by omega,fun x hx=> ?_⟩,⟨by rw[h.dims,j6];omega,fun x hx=> ?_⟩,⟨by omega,fun x hx=> ?_⟩⟩
 ·have:=h.bd x hx;unfold I64;omega
 ·rw[h.dims]at hx
  obtain⟨y,hy,rfl⟩:=List.mem_map.1 hx;have:=kM (x:=y);unfold I64;omega
 ·have:=fA hf x hx
  unfold I64;omega
theorem Gen6.ots{N:Net}(h:Gen6 N):∀x∈N.os,∃t∈N.ts,x∈t.labels:=fun x hx=>by
 have h0:=(ae.1 h.ok).2.2.2.2;have hax:axOk N.os (N.os.map (dimN N.ts)):=by
  false_or_by_contra
  rename_i hc;exact h0 (if_neg fun hc'=>hc hc'.1)
 have:=hax.dim (dimN N.ts x) (List.mem_map.2 ⟨x,hx,rfl⟩);exact oF (by omega)
theorem Gen6.sz{N:Net}(h:Gen6 N):NSz 1048576 N:=by
 obtain⟨h1,h2,h3,_,h5⟩:=ae.1 h.ok;obtain⟨k1,k2,k3⟩:=jf h1;have hb:∀x∈N.os,0≤x∧x<6:=fun x hx=>by
  obtain⟨t,h1,h2⟩:=h.ots x hx
  exact(h.six t h1).bd x h2
 have hax:axOk N.os (N.os.map (dimN N.ts)):=by
  false_or_by_contra
  rename_i hc;exact h5 (if_neg fun hc'=>hc hc'.1)
 have hl:=len6 (bE hax) hb;exact⟨k1,k2,k3,by omega,fun t ht=>(h.six t ht).sz (h3 t ht),⟨by omega,fun x hx=>by have:=hb x hx;unfold I64;omega⟩⟩
theorem AI{ts:List Ten}(h:ts.length≤1048576)(ht:∀t∈ts,TSz 1048576 t)(hax:cQ ts):Does Tryz.prog 58 [.d (tens ts)] [] (.own 0 0 (aX (labP ts) 100).length) [some ⟨1,true,iv (aX (labP ts) 100)⟩]:=oG h ht hax
set_option maxHeartbeats 3200000 in
theorem I4{b:List Int}(hb:CodeOk b){c:Cur}(hi:c.i≤b.length){kk pp nn most:Int}{wd:Nat}(hr:ai ⟨kk,pp,nn⟩=true)(hw:af ⟨kk,pp,nn⟩=wd)(h1:1≤wd∧wd≤6)(hm:0≤most∧most≤11):
  Does Tryz.prog 22 [.ptr 0 0,aY kk pp nn,.d (.int most)] [curS b c] (ownN 1 (gNet b ⟨kk,pp,nn⟩ wd most c).2)
   [curS b (gNet b ⟨kk,pp,nn⟩ wd most c).1,some ⟨3,true,tcA (gNet b ⟨kk,pp,nn⟩ wd most c).2.ts⟩,some ⟨1,true,iv (gNet b ⟨kk,pp,nn⟩ wd most c).2.os⟩]:=by
 have h0:=gF hb hi (n:=most+1) (by omega);have hr0:=cF (b:=b) (n:=most+1) (by omega) c;have hc0:=d4 (n:=most+1) hi;unfold gNet;simp only;generalize aw b (most+1) c=T0 at h0 hr0 hc0;obtain⟨m0,c0⟩:=T0;simp only at h0 hr0 hc0;obtain⟨m,rfl⟩:=Int.eq_ofNat_of_zero_le hr0.1;simp only[Int.toNat_natCast];have hTok:=DB (r:=⟨kk,pp,nn⟩) (wd:=wd) hc0 m;have hTlen:=w8 (b:=b) (r:=⟨kk,pp,nn⟩) (wd:=wd) (c:=c0) m;have hT6:=Iw (b:=b) (c:=c0) hr hw m;generalize hT:gTs b ⟨kk,pp,nn⟩ wd c0 m=T at hTok hTlen hT6;obtain⟨cT,ts⟩:=T;simp only at hTok hTlen hT6 ⊢;have hLlen:=fQ (labP ts) 100
 have hlab:=AI (ts:=ts) (by omega) (fun t ht=>(hT6 t ht).1.sz (hT6 t ht).2) (Es fun t ht=>(hT6 t ht).1);generalize aX (labP ts) 100=L at hLlen hlab;have hshd:=sE hb hTok (xs:=L) (by omega);have hsl:=eX b cT L L.length;have hsc:=oQ hTok L L.length;generalize bf b cT L L.length=S at hshd hsl hsc;obtain⟨cS,M⟩:=S;simp only at hshd hsl hsc ⊢;have hOl:=Cx (b:=b) (xs:=M) (c:=cS) M.length (Nat.le_refl _);generalize hO:gSel b M cS M.length=O at hOl;obtain⟨cO,os⟩:=O;simp only at hOl ⊢;unfold ownN;simp only;(refine spec_ofW _ (by kernel_rfl) Tryz.func22 yc (fnOk (nb rfl) ?_);unfold qM)
 unfold curS curR curC at h0 ⊢;have hwr:IntKind.i64.wrap (most+1)=most+1:=IntWalk.i64_in _ (by omega);refine zT ?_;simp only[go_sem,seval,reduceCtorEq,hwr];(refine am [0] [] false (zd rfl) ?_ _ ?_ (h0) ?_ ?_;(focus (simp only[go_sem,seval,reduceCtorEq];done));(focus (simp only[go_sem,seval,reduceCtorEq];done));(focus (first|rfl|(simp only[go_sem,seval,reduceCtorEq];done))));refine zV ?_;(refine bC (Wk.nilS 3 3 3 _ _ _ rfl rfl) ?_;simp only[go_sem,seval,reduceCtorEq]);have e0:(gTs b ⟨kk,pp,nn⟩ wd c0 0)=(c0,[]):=rfl
 refine aA (m) (mkB 49 536739840) (fun k=>[(8,.d (.int ((m:Int)-k)))]) (fun k=>[(0,curC b (gTs b ⟨kk,pp,nn⟩ wd c0 k).1.i (gTs b ⟨kk,pp,nn⟩ wd c0 k).1.h),(3,[.d (.int kk),.d (.int pp),.d (.int nn),.own 4 0 k,.nil]),(4,tcA (gTs b ⟨kk,pp,nn⟩ wd c0 k).2)]) (h1:=by first|(simp only[go_sem,seval,reduceCtorEq,nz,na,n1,e0,mO,curC,Int.sub_zero];first|done|rfl)|rfl) (h2:=by first|(simp only[go_sem,seval,reduceCtorEq,nz,na,n1,e0,mO,curC,Int.sub_zero];first|done|rfl)|rfl) (hr:=fun k hk=> ?_);unfold pd;by_cases hlt:k<m
 ·have d1:(m:Int)-k>0:=by omega
  have hs:gTs b ⟨kk,pp,nn⟩ wd c0 (k+1)=((gTen b ⟨kk,pp,nn⟩ wd (gTs b ⟨kk,pp,nn⟩ wd c0 k).1).1,(gTs b ⟨kk,pp,nn⟩ wd c0 k).2++[(gTen b ⟨kk,pp,nn⟩ wd (gTs b ⟨kk,pp,nn⟩ wd c0 k).1).2]):=rfl;have hl:=w8 (b:=b) (r:=⟨kk,pp,nn⟩) (wd:=wd) (c:=c0) k;have hck:=DB (r:=⟨kk,pp,nn⟩) (wd:=wd) hc0 k;generalize gTs b ⟨kk,pp,nn⟩ wd c0 k=S at hs hl hck;obtain⟨c1,l⟩:=S;simp only at hl hck hs;have hd:=FI hb hck hr hw h1;generalize gTen b ⟨kk,pp,nn⟩ wd c1=U at hd hs;obtain⟨c2,t⟩:=U;simp only at hd hs;have e1:(gTs b ⟨kk,pp,nn⟩ wd c0 (k+1)).1=c2:=by rw[hs]
  have e2:(gTs b ⟨kk,pp,nn⟩ wd c0 (k+1)).2=l++[t]:=by rw[hs]
  have d5:(m:Int)-k-1=(m:Int)-((k+1:Nat):Int):=by omega
  unfold curS curR curC ownT at hd;simp(disch:=omega) only[go_sem,seval,reduceCtorEq,d1,curC];(refine am [0] [] false (zd rfl) ?_ _ ?_ (hd) ?_ ?_;(focus (simp only[go_sem,seval,reduceCtorEq];done));(focus (simp only[go_sem,seval,reduceCtorEq];done));(focus (first|rfl|(simp only[go_sem,seval,reduceCtorEq];done))));refine zV ?_;refine And.intro (by omega) (And.intro (by omega) ?_)
  (refine Next.mk (by omega) (Wk.trans (Wk.drG [5,6,7] 5 (nb rfl) (nb rfl) (zd rfl) (zd rfl)) ?_));(simp only[go_sem,seval,reduceCtorEq,nz,na,n1,e1,e2,kw,kv,curC,d5]);(refine Wk.eq (Wk.ad3s (mkB 49 536739840) 4 3 (k*3) true (τ:=[_,_,_,_,_]) (nb rfl) rfl (by rw[pZ,hl]) rfl (eI _) (eI _) (eI _) (by simp only[go_sem,seval,reduceCtorEq]) (by simp only[go_sem,seval,reduceCtorEq]) (by simp only[go_sem,seval,reduceCtorEq]) (fun _=>lF _) (fun _=>lF _)) ?_ ?_<;>first|(simp only[go_sem,seval,reduceCtorEq,nz,na,n1,e1,e2,kw,kv,curC,d5];first|done|rfl)|rfl|skip)
 ·have d1:¬(m:Int)-k>0:=by omega
  obtain rfl:m=k:=by omega
  simp(disch:=omega) only[go_sem,seval,reduceCtorEq,d1,hT];have ht3:List.take (m*3) (tcA ts)=tcA ts:=by rw[← hTlen];exact Bu
  (refine zC (hlab) ?_ (by simp only[go_sem,seval,reduceCtorEq,ht3,hTlen,nh]));simp(disch:=omega) only[go_sem,seval,reduceCtorEq,curC];unfold curS curR curC at hshd;(refine am [0,5] [] false (zd rfl) ?_ _ ?_ (hshd) ?_ ?_;(focus (simp only[go_sem,seval,reduceCtorEq];done));(focus (simp only[go_sem,seval,reduceCtorEq];done));(focus (first|rfl|(simp only[go_sem,seval,reduceCtorEq];done))));refine zV ?_;(refine bC (Wk.nilS 3 4 1 _ _ _ rfl rfl) ?_;simp only[go_sem,seval,reduceCtorEq]);have f0:(gSel b M cS 0)=(cS,[]):=rfl
  refine aA (L.length) (mkB 49 281406257234944) (fun k=>[(35,.d (.int k))]) (fun k=>[(0,curC b (gSel b M cS k).1.i (gSel b M cS k).1.h),(3,[.d (.int kk),.d (.int pp),.d (.int nn),.own 4 0 m,.own 7 0 (gSel b M cS k).2.length]),(7,iv (gSel b M cS k).2)]) (h1:=by first|(simp only[go_sem,seval,reduceCtorEq,nz,na,n1,f0,br,curC];first|done|rfl)|rfl) (h2:=by first|(simp only[go_sem,seval,reduceCtorEq,nz,na,n1,f0,br,curC];first|done|rfl)|rfl) (hr:=fun k hk=> ?_);unfold pg;by_cases hlt:k<L.length
  ·have d1:(k:Int)<L.length:=by omega
   have hs:gSel b M cS (k+1)=((kF b 3 (gSel b M cS k).1).2,if (kF b 3 (gSel b M cS k).1).1=true then (gSel b M cS k).2++[M.getD k 0] else (gSel b M cS k).2):=rfl;have hl:=Cx (b:=b) (xs:=M) (c:=cS) k (by omega);have hck:=EB (xs:=M) hsc k;generalize gSel b M cS k=S at hs hl hck;obtain⟨c1,l⟩:=S;simp only at hl hck hs;have hd:=ED hb hck (n:=3) (by omega);generalize kF b 3 c1=U at hd hs;obtain⟨o,c2⟩:=U;simp only at hd hs;have e1:(gSel b M cS (k+1)).1=c2:=by rw[hs]
   have hkM:k<M.length:=by omega
   have g:M[k]? =some M[k]:=zg hkM;unfold curS curR curC at hd;simp(disch:=omega) only[go_sem,seval,reduceCtorEq,d1,g,curC,Option.map_some];(refine am [0] [] false (zd rfl) ?_ _ ?_ (hd) ?_ ?_;(focus (simp only[go_sem,seval,reduceCtorEq];done));(focus (simp only[go_sem,seval,reduceCtorEq];done));(focus (first|rfl|(simp only[go_sem,seval,reduceCtorEq];done))));simp(disch:=omega) only[go_sem,seval,reduceCtorEq];cases o with
   |true=>
    have e2:(gSel b M cS (k+1)).2=l++[M[k]]:=by rw[hs,ac hkM];rfl
    have el:(l++[M[k]]).length=l.length+1:=by simp
    refine zV ?_
    (repeat (refine And.intro (by omega) ?_))
    (refine Next.drop (mkB 49 281406257234944) (by omega) (h1:= ?_) (h2:= ?_)<;>first|(simp only[go_sem,seval,reduceCtorEq,nz,na,n1,e1,e2,el,curC];first|done|rfl)|rfl|skip)
   |false=>
    have e2:(gSel b M cS (k+1)).2=l:=by rw[hs];rfl
    refine zV ?_;(refine Next.drop (mkB 49 281406257234944) (by omega) (h1:= ?_) (h2:= ?_)<;>first|(simp only[go_sem,seval,reduceCtorEq,nz,na,n1,e1,e2,curC];first|done|rfl)|rfl|skip)
  ·have d1:¬(k:Int)<L.length:=by omega
   obtain rfl:k=L.length:=by omega
   rw[hsl]at hO;simp(disch:=omega) only[go_sem,seval,reduceCtorEq,d1,hO,curC];rw[← hTlen];exact zX
end Go.Proofs.YtobhmajhachnaaaGreatDoor
