/-
 Contracts: networks drawn. No condition.
-/
import Derived.Test.YtjfmckhbmdjnpaaGreatGenD
import Derived.Test.YtjfmckhbmdjnpaaGreatNetC
import Derived.Test.YtjfmckhbmdjnpaaGreatNetG
import Derived.Test.YtjfmckhbmdjnpaaGreatPlD
import Derived.Test.YtjfmckhbmdjnpaaGreatLiftI
set_option linter.unusedSimpArgs false
set_option linter.unusedVariables false
namespace Go.Proofs.YtjfmckhbmdjnpaaGreat
open Go.RowKit Go.Lift Plain
set_option maxRecDepth 100000
theorem KY {b:List Int} {r:Rg} {wd:Nat} {c:Cur} (hr:ah r=true) (hw:ai r=wd):Nat6 (gTen b r wd c).2∧aE r (gTen b r wd c).2.labels (gTen b r wd c).2.dims (gTen b r wd c).2.data=true:=by
 have hm:=cR (b:=b) (n:=4) (by omega) c
 have hl:=sn b 6 (aw b 4 c).2 (aw b 4 c).1.toNat
 have hi:=v8 (b:=b) (n:=6) (by omega) (aw b 4 c).2 (aw b 4 c).1.toNat
 have hn:=mR b 6 (aw b 4 c).2 (aw b 4 c).1.toNat
 have h6:Nat6 (gTen b r wd c).2:=⟨rfl,hn,hi,by show (bV b c).2.length≤3;unfold bV;omega⟩
 have hp:=h6.prod
 refine⟨h6,h6.ok hr ?_ ?_⟩
 ·have h2:=q3 (b:=b) (r:=r) (wd:=wd) (n:=(aa (bu (bV b c).2)).toNat) (c:=(bV b c).1) (aa (bu (bV b c).2)).toNat (Nat.le_refl _)
  have hp':1≤aa (bu (bV b c).2)∧aa (bu (bV b c).2)≤729:=hp
  show ((dg b r wd (aa (bu (bV b c).2)).toNat (bV b c).1 (aa (bu (bV b c).2)).toNat).2.length:Int)=aa (bu (bV b c).2)*ai r
  rw[h2,hw,Int.natCast_mul]
  congr 1
  omega
 ·have key:∀ n k c,fits r (dg b r wd n c k).2:=by
   intro n k c
   induction k with
   | zero=>
    refine ge fun x hx=> ?_
    have hz:∀ n,∀ x∈repE (az r.k r.p wd) n,x∈az r.k r.p wd:=by
     intro n
     induction n with
     | zero=>intro x hx;cases hx
     | succ n ih=>
      intro x hx
      rcases List.mem_append.1 hx with h | h
      ·exact ih x h
      ·exact h
    exact jm (j4 hr) x (hz n x hx)
   | succ k ih=>exact sY ih (C5 hr)
  exact key _ _ _
def gTs (b:List Int) (r:Rg) (wd:Nat) (c:Cur):Nat→Cur × List Ten
 | 0=>(c,[])
 | k+1=>((gTen b r wd (gTs b r wd c k).1).1,(gTs b r wd c k).2++[(gTen b r wd (gTs b r wd c k).1).2])
theorem C2 {b:List Int} {r:Rg} {wd:Nat} {c:Cur} (h:c.i≤b.length):∀ k,(gTs b r wd c k).1.i≤b.length
 | 0=>h
 | k+1=>IW (C2 h k)
theorem v7 {b:List Int} {r:Rg} {wd:Nat} {c:Cur}:∀ k,(gTs b r wd c k).2.length=k
 | 0=>rfl
 | k+1=>by
  show (_++[_]).length=_
  rw[List.length_append,v7 k]
  rfl
theorem GP {b:List Int} {r:Rg} {wd:Nat} {c:Cur} (hr:ah r=true) (hw:ai r=wd):∀ k,∀ t∈(gTs b r wd c k).2,Nat6 t∧aE r t.labels t.dims t.data=true
 | 0,t,h=>by cases h
 | k+1,t,h=>by
  rcases List.mem_append.1 h with h | h
  ·exact GP hr hw k t h
  ·rw[List.mem_singleton.1 h]
   exact KY hr hw
def gSel (b:List Int) (xs:List Int) (c:Cur):Nat→Cur × List Int
 | 0=>(c,[])
 | k+1=>((kx b 3 (gSel b xs c k).1).2,if (kx b 3 (gSel b xs c k).1).1=true then (gSel b xs c k).2++[xs.getD k 0] else (gSel b xs c k).2)
theorem D6 {b:List Int} {xs:List Int} {c:Cur} (h:c.i≤b.length):∀ k,(gSel b xs c k).1.i≤b.length
 | 0=>h
 | k+1=>B5 (n:=3) (D6 h k)
theorem si {b:List Int} {xs:List Int} {c:Cur}:∀ k,k≤xs.length→(gSel b xs c k).2.Sublist (xs.take k)
 | 0,_=>by simp [gSel]
 | k+1,h=>by
  have ih:=si (b:=b) (xs:=xs) (c:=c) k (by omega)
  rw[bb (show k<xs.length by omega)]
  simp only[gSel]
  split
  ·rw[ae (show k<xs.length by omega)]
   exact ih.append (List.Sublist.refl _)
  ·exact ih.trans (List.sublist_append_left _ _)
theorem B2 {b:List Int} {xs:List Int} {c:Cur} (k:Nat) (h:k≤xs.length):(gSel b xs c k).2.length≤k:=by
 have:=(si (b:=b) (c:=c) k h).length_le
 rw[List.length_take]at this
 omega
theorem DT (p:Nat→Bool) (n:Nat):(bg p n).Nodup:=by
 unfold bg
 refine List.Pairwise.map _ (fun a b h=> ?_) (List.nodup_range.filter _)
 intro e
 exact h (by exact_mod_cast e)
def gNet (b:List Int) (r:Rg) (wd:Nat) (most:Int) (c:Cur):Cur × Net:=
 let T:=gTs b r wd (aw b (most+1) c).2 (aw b (most+1) c).1.toNat
 let L:=bg (labP T.2) 100
 let S:=bC b T.1 L L.length
 let O:=gSel b S.2 S.1 S.2.length
 (O.1,⟨r.k,r.p,r.n,T.2,O.2⟩)
theorem CT {ts:List Ten} (h:∀ t∈ts,Nat6 t):d7 ts:=fun t ht=>(h t ht).ax
structure Gen6 (N:Net):Prop where
 ok:bp N=true
 six:∀ t∈N.ts,Nat6 t
theorem KZ {b:List Int} {r:Rg} {wd:Nat} {most:Int} {c:Cur} (hr:ah r=true) (hw:ai r=wd) (hm:0≤most∧most≤11):Gen6 (gNet b r wd most c).2∧((gNet b r wd most c).2.ts.length:Int)≤most:=by
 have hb:=cR (b:=b) (n:=most+1) (by omega) c
 have h1:=GP (b:=b) (c:=(aw b (most+1) c).2) hr hw (aw b (most+1) c).1.toNat
 have h2:=v7 (b:=b) (r:=r) (wd:=wd) (c:=(aw b (most+1) c).2) (aw b (most+1) c).1.toNat
 have hax:=CT fun t ht=>(h1 t ht).1
 have hnd:=DT (labP (gTs b r wd (aw b (most+1) c).2 (aw b (most+1) c).1.toNat).2) 100
 refine⟨⟨Iy (N:=(gNet b r wd most c).2) hr ?_ h1 ?_ ?_,fun t ht=>(h1 t ht).1⟩, ?_⟩
 ·show (gTs b r wd _ _).2.length≤12
  rw[h2];omega
 ·unfold gNet
  simp only
  generalize (gTs b r wd (aw b (most+1) c).2 (aw b (most+1) c).1.toNat)=T at*
  have hp:=mQ (b:=b) T.1 (bg (labP T.2) 100) _ (Nat.le_refl _)
  have hs:=si (b:=b) (xs:=(bC b T.1 (bg (labP T.2) 100) (bg (labP T.2) 100).length).2) (c:=(bC b T.1 (bg (labP T.2) 100) (bg (labP T.2) 100).length).1) _ (Nat.le_refl _)
  rw[List.take_length]at hs
  exact(hp.nodup_iff.2 hnd).sublist hs
 ·unfold gNet
  simp only
  generalize (gTs b r wd (aw b (most+1) c).2 (aw b (most+1) c).1.toNat)=T at*
  intro x hx
  have hp:=mQ (b:=b) T.1 (bg (labP T.2) 100) _ (Nat.le_refl _)
  have hs:=si (b:=b) (xs:=(bC b T.1 (bg (labP T.2) 100) (bg (labP T.2) 100).length).2) (c:=(bC b T.1 (bg (labP T.2) 100) (bg (labP T.2) 100).length).1) _ (Nat.le_refl _)
  rw[List.take_length]at hs
  have h3:=hp.mem_iff.1 (hs.subset hx)
  exact ou ((AP hax).1 h3)
 ·show ((gTs b r wd _ _).2.length:Int)≤most
  rw[h2];omega
theorem x5 {r:Rg} {ls ds xs:List Int} (h:aE r ls ds xs=true):fits r xs:=by
 simp only[aE,Bool.and_eq_true,nj,decide_eq_true_eq]at h
 exact h.2
theorem vr {r:Rg} (h:ah r=true):I64 r.k∧I64 r.p∧I64 r.n:=by
 have hp:∀ {p:Int},bW p=true→2≤p∧p≤1000003:=fun h=>bS h
 unfold ah at h
 unfold I64
 split at h
 ·simp at h;omega
 ·split at h
  ·simp only[Bool.and_eq_true,decide_eq_true_eq]at h;have:=hp h.1;omega
  ·split at h
   ·simp only[decide_eq_true_eq]at h;omega
   ·split at h
    ·simp only[decide_eq_true_eq]at h;omega
    ·split at h
     ·simp only[Bool.and_eq_true,decide_eq_true_eq]at h;have:=hp h.1;omega
     ·split at h
      ·simp only[Bool.and_eq_true,decide_eq_true_eq]at h;have:=hp h.1;omega
      ·cases h
theorem Nat6.sz {r:Rg} {t:Ten} (h:Nat6 t) (ht:aE r t.labels t.dims t.data=true):TSz 1048576 t:=by
 have hfa:=dy ht
 have hr:=hfa.1
 have hp:=hfa.2.2.1
 have hl:=hfa.2.2.2.2.2
 have hf:=x5 ht
 have hw:=cr hr
 have htp:=dS hr
 have h3:=h.len
 have hlen:(t.data.length:Int)≤4096*6:=by
  rw[hl]
  exact Int.mul_le_mul (by omega) hw.2 (by omega) (by omega)
 refine⟨⟨by omega,fun x hx=> ?_⟩,⟨by rw[h.dims,iY];omega,fun x hx=> ?_⟩,⟨by omega,fun x hx=> ?_⟩⟩
 ·have:=h.bd x hx;unfold I64;omega
 ·rw[h.dims]at hx
  obtain⟨y,hy,rfl⟩:=List.mem_map.1 hx
  have:=gf (x:=y)
  unfold I64;omega
 ·have:=jm hf x hx
  unfold I64;omega
theorem Gen6.ots {N:Net} (h:Gen6 N):∀ x∈N.os,∃ t∈N.ts,x∈t.labels:=fun x hx=>by
 have h0:=(an.1 h.ok).2.2.2.2
 have hax:axOk N.os (N.os.map (dimN N.ts)):=by
  false_or_by_contra
  rename_i hc
  exact h0 (if_neg fun hc'=>hc hc'.1)
 have:=hax.dim (dimN N.ts x) (List.mem_map.2 ⟨x,hx,rfl⟩)
 exact ou (by omega)
theorem Gen6.sz {N:Net} (h:Gen6 N):NSz 1048576 N:=by
 obtain⟨h1,h2,h3,_,h5⟩:=an.1 h.ok
 obtain⟨k1,k2,k3⟩:=vr h1
 have hb:∀ x∈N.os,0≤x∧x<6:=fun x hx=>by
  obtain⟨t,h1,h2⟩:=h.ots x hx
  exact(h.six t h1).bd x h2
 have hax:axOk N.os (N.os.map (dimN N.ts)):=by
  false_or_by_contra
  rename_i hc
  exact h5 (if_neg fun hc'=>hc hc'.1)
 have hl:=len6 (bI hax) hb
 exact⟨k1,k2,k3,by omega,fun t ht=>(h.six t ht).sz (h3 t ht),⟨by omega,fun x hx=>by have:=hb x hx;unfold I64;omega⟩⟩
theorem z8 {ts:List Ten} (h:ts.length≤1048576) (ht:∀ t∈ts,TSz 1048576 t) (hax:d7 ts):Does Tryz.prog 70 [.d (tens ts)] [] (.own 0 0 (bg (labP ts) 100).length) [some ⟨1,true,iv (bg (labP ts) 100)⟩]:=uf h ht hax
set_option maxHeartbeats 3200000 in
theorem Gp {b:List Int} (hb:CodeOk b) {c:Cur} (hi:c.i≤b.length) {kk pp nn most:Int} {wd:Nat} (hr:ah ⟨kk,pp,nn⟩=true) (hw:ai ⟨kk,pp,nn⟩=wd) (h1:1≤wd∧wd≤6) (hm:0≤most∧most≤11):
  Does Tryz.prog 25 [.ptr 0 0,bo kk pp nn,.d (.int most)] [curS b c] (ownN 1 (gNet b ⟨kk,pp,nn⟩ wd most c).2)
   [curS b (gNet b ⟨kk,pp,nn⟩ wd most c).1,some ⟨3,true,tcA (gNet b ⟨kk,pp,nn⟩ wd most c).2.ts⟩,some ⟨1,true,iv (gNet b ⟨kk,pp,nn⟩ wd most c).2.os⟩]:=by
 have h0:=jj hb hi (n:=most+1) (by omega)
 have hr0:=cR (b:=b) (n:=most+1) (by omega) c
 have hc0:=cQ (n:=most+1) hi
 unfold gNet
 simp only
 generalize aw b (most+1) c=T0 at h0 hr0 hc0
 obtain⟨m0,c0⟩:=T0
 simp only at h0 hr0 hc0
 obtain⟨m,rfl⟩:=Int.eq_ofNat_of_zero_le hr0.1
 simp only[Int.toNat_natCast]
 have hTok:=C2 (r:=⟨kk,pp,nn⟩) (wd:=wd) hc0 m
 have hTlen:=v7 (b:=b) (r:=⟨kk,pp,nn⟩) (wd:=wd) (c:=c0) m
 have hT6:=GP (b:=b) (c:=c0) hr hw m
 generalize hT:gTs b ⟨kk,pp,nn⟩ wd c0 m=T at hTok hTlen hT6
 obtain⟨cT,ts⟩:=T
 simp only at hTok hTlen hT6 ⊢
 have hLlen:=mD (labP ts) 100
 have hlab:=z8 (ts:=ts) (by omega) (fun t ht=>(hT6 t ht).1.sz (hT6 t ht).2) (CT fun t ht=>(hT6 t ht).1)
 generalize bg (labP ts) 100=L at hLlen hlab
 have hshd:=rM hb hTok (xs:=L) (by omega)
 have hsl:=fU b cT L L.length
 have hsc:=sg hTok L L.length
 generalize bC b cT L L.length=S at hshd hsl hsc
 obtain⟨cS,M⟩:=S
 simp only at hshd hsl hsc ⊢
 have hOl:=B2 (b:=b) (xs:=M) (c:=cS) M.length (Nat.le_refl _)
 generalize hO:gSel b M cS M.length=O at hOl
 obtain⟨cO,os⟩:=O
 simp only at hOl ⊢
 unfold ownN
 simp only
 (refine spec_ofW _ (by kernel_rfl) Tryz.func25 x9 (fnOk (nb rfl) ?_);unfold ql)
 unfold curS curR curC at h0 ⊢
 have hwr:IntKind.i64.wrap (most+1)=most+1:=IntWalk.i64_in _ (by omega)
 (simp only[Nat.reduceSub,Zl,zn,Nat.reduceAdd,zF];try simp only[af]);(simp only[go_sem,seval,reduceCtorEq,List.replicate])
 simp only[go_sem,seval,reduceCtorEq,hwr]
 (refine am [0] [] false (zd rfl) ?_ _ ?_ (h0) ?_ ?_;(focus (simp only[go_sem,seval,reduceCtorEq];done));(focus (simp only[go_sem,seval,reduceCtorEq];done));(focus (first | rfl | (simp only[go_sem,seval,reduceCtorEq];done))))
 simp(disch:=omega) only[go_sem,seval,reduceCtorEq]
 (refine ir (Wk.nilS 3 3 3 _ _ _ rfl rfl) ?_;simp only[go_sem,seval,reduceCtorEq])
 have e0:(gTs b ⟨kk,pp,nn⟩ wd c0 0)=(c0,[]):=rfl
 refine aP (m) (mkB 49 536739840) (fun k=>[(8,.d (.int ((m:Int)-k)))]) (fun k=>[(0,curC b (gTs b ⟨kk,pp,nn⟩ wd c0 k).1.i (gTs b ⟨kk,pp,nn⟩ wd c0 k).1.h),(3,[.d (.int kk),.d (.int pp),.d (.int nn),.own 4 0 k,.nil]),(4,tcA (gTs b ⟨kk,pp,nn⟩ wd c0 k).2)]) (h1:=by first | (simp only[go_sem,seval,reduceCtorEq,nz,na,n1,e0,yB,curC,Int.sub_zero];first | done | rfl) | rfl) (h2:=by first | (simp only[go_sem,seval,reduceCtorEq,nz,na,n1,e0,yB,curC,Int.sub_zero];first | done | rfl) | rfl) (hr:=fun k hk=> ?_)
 unfold oZ
 by_cases hlt:k<m
 ·have d1:(m:Int)-k>0:=by omega
  have hs:gTs b ⟨kk,pp,nn⟩ wd c0 (k+1)=((gTen b ⟨kk,pp,nn⟩ wd (gTs b ⟨kk,pp,nn⟩ wd c0 k).1).1,(gTs b ⟨kk,pp,nn⟩ wd c0 k).2++[(gTen b ⟨kk,pp,nn⟩ wd (gTs b ⟨kk,pp,nn⟩ wd c0 k).1).2]):=rfl
  have hl:=v7 (b:=b) (r:=⟨kk,pp,nn⟩) (wd:=wd) (c:=c0) k
  have hck:=C2 (r:=⟨kk,pp,nn⟩) (wd:=wd) hc0 k
  generalize gTs b ⟨kk,pp,nn⟩ wd c0 k=S at hs hl hck
  obtain⟨c1,l⟩:=S
  simp only at hl hck hs
  have hd:=Ef hb hck hr hw h1
  generalize gTen b ⟨kk,pp,nn⟩ wd c1=U at hd hs
  obtain⟨c2,t⟩:=U
  simp only at hd hs
  have e1:(gTs b ⟨kk,pp,nn⟩ wd c0 (k+1)).1=c2:=by rw[hs]
  have e2:(gTs b ⟨kk,pp,nn⟩ wd c0 (k+1)).2=l++[t]:=by rw[hs]
  have d5:(m:Int)-k-1=(m:Int)-((k+1:Nat):Int):=by omega
  unfold curS curR curC ownT at hd
  simp(disch:=omega) only[go_sem,seval,reduceCtorEq,d1,curC]
  (refine am [0] [] false (zd rfl) ?_ _ ?_ (hd) ?_ ?_;(focus (simp only[go_sem,seval,reduceCtorEq];done));(focus (simp only[go_sem,seval,reduceCtorEq];done));(focus (first | rfl | (simp only[go_sem,seval,reduceCtorEq];done))))
  simp(disch:=omega) only[go_sem,seval,reduceCtorEq]
  refine And.intro (by omega) (And.intro (by omega) ?_)
  (refine Next.mk (by omega) (Wk.trans (Wk.drG [5,6,7] 5 (nb rfl) (nb rfl) (zd rfl) (zd rfl)) ?_));(simp only[go_sem,seval,reduceCtorEq,nz,na,n1,e1,e2,Cr,Cq,curC,d5]);(refine Wk.eq (Wk.ad3s (mkB 49 536739840) 4 3 (k*3) true (τ:=[_,_,_,_,_]) (nb rfl) rfl (by rw[yC,hl]) rfl (yz _) (yz _) (yz _) (by simp only[go_sem,seval,reduceCtorEq]) (by simp only[go_sem,seval,reduceCtorEq]) (by simp only[go_sem,seval,reduceCtorEq]) (fun _=>yJ _) (fun _=>yJ _)) ?_ ?_<;>first | (simp only[go_sem,seval,reduceCtorEq,nz,na,n1,e1,e2,Cr,Cq,curC,d5];first | done | rfl) | rfl | skip)
 ·have d1:¬ (m:Int)-k>0:=by omega
  obtain rfl:m=k:=by omega
  simp(disch:=omega) only[go_sem,seval,reduceCtorEq,d1,hT]
  have ht3:List.take (m*3) (tcA ts)=tcA ts:=by rw[← hTlen];exact A9
  (refine aA (hlab) ?_ ?_ ?_;(focus (simp only[go_sem,seval,reduceCtorEq,ht3,hTlen,r7];done));(first | rfl | (focus (simp only[go_sem];done))))
  simp(disch:=omega) only[go_sem,seval,reduceCtorEq,curC]
  unfold curS curR curC at hshd
  (refine am [0,5] [] false (zd rfl) ?_ _ ?_ (hshd) ?_ ?_;(focus (simp only[go_sem,seval,reduceCtorEq];done));(focus (simp only[go_sem,seval,reduceCtorEq];done));(focus (first | rfl | (simp only[go_sem,seval,reduceCtorEq];done))))
  simp(disch:=omega) only[go_sem,seval,reduceCtorEq]
  (refine ir (Wk.nilS 3 4 1 _ _ _ rfl rfl) ?_;simp only[go_sem,seval,reduceCtorEq])
  have f0:(gSel b M cS 0)=(cS,[]):=rfl
  refine aP (L.length) (mkB 49 281406257234944) (fun k=>[(35,.d (.int k))]) (fun k=>[(0,curC b (gSel b M cS k).1.i (gSel b M cS k).1.h),(3,[.d (.int kk),.d (.int pp),.d (.int nn),.own 4 0 m,.own 7 0 (gSel b M cS k).2.length]),(7,iv (gSel b M cS k).2)]) (h1:=by first | (simp only[go_sem,seval,reduceCtorEq,nz,na,n1,f0,cj,curC];first | done | rfl) | rfl) (h2:=by first | (simp only[go_sem,seval,reduceCtorEq,nz,na,n1,f0,cj,curC];first | done | rfl) | rfl) (hr:=fun k hk=> ?_)
  unfold p7
  by_cases hlt:k<L.length
  ·have d1:(k:Int)<L.length:=by omega
   have hs:gSel b M cS (k+1)=((kx b 3 (gSel b M cS k).1).2,if (kx b 3 (gSel b M cS k).1).1=true then (gSel b M cS k).2++[M.getD k 0] else (gSel b M cS k).2):=rfl
   have hl:=B2 (b:=b) (xs:=M) (c:=cS) k (by omega)
   have hck:=D6 (xs:=M) hsc k
   generalize gSel b M cS k=S at hs hl hck
   obtain⟨c1,l⟩:=S
   simp only at hl hck hs
   have hd:=D8 hb hck (n:=3) (by omega)
   generalize kx b 3 c1=U at hd hs
   obtain⟨o,c2⟩:=U
   simp only at hd hs
   have e1:(gSel b M cS (k+1)).1=c2:=by rw[hs]
   have hkM:k<M.length:=by omega
   have g:M[k]? =some M[k]:=zg hkM
   unfold curS curR curC at hd
   simp(disch:=omega) only[go_sem,seval,reduceCtorEq,d1,g,curC,Option.map_some]
   (refine am [0] [] false (zd rfl) ?_ _ ?_ (hd) ?_ ?_;(focus (simp only[go_sem,seval,reduceCtorEq];done));(focus (simp only[go_sem,seval,reduceCtorEq];done));(focus (first | rfl | (simp only[go_sem,seval,reduceCtorEq];done))))
   simp(disch:=omega) only[go_sem,seval,reduceCtorEq]
   cases o with
   | true=>
    have e2:(gSel b M cS (k+1)).2=l++[M[k]]:=by rw[hs,ae hkM];rfl
    have el:(l++[M[k]]).length=l.length+1:=by simp
    simp(disch:=omega) only[go_sem,seval,reduceCtorEq]
    (repeat (refine And.intro (by omega) ?_))
    (refine Next.drop (mkB 49 281406257234944) (by omega) (h1:= ?_) (h2:= ?_)<;>first | (simp only[go_sem,seval,reduceCtorEq,nz,na,n1,e1,e2,el,curC];first | done | rfl) | rfl | skip)
   | false=>
    have e2:(gSel b M cS (k+1)).2=l:=by rw[hs];rfl
    simp(disch:=omega) only[go_sem,seval,reduceCtorEq]
    (refine Next.drop (mkB 49 281406257234944) (by omega) (h1:= ?_) (h2:= ?_)<;>first | (simp only[go_sem,seval,reduceCtorEq,nz,na,n1,e1,e2,curC];first | done | rfl) | rfl | skip)
  ·have d1:¬ (k:Int)<L.length:=by omega
   obtain rfl:k=L.length:=by omega
   rw[hsl]at hO
   simp(disch:=omega) only[go_sem,seval,reduceCtorEq,d1,hO,curC]
   rw[← hTlen]
   (refine zE ?_ ?_<;>try simp only[go_sem,seval,reduceCtorEq])
end Go.Proofs.YtjfmckhbmdjnpaaGreat
