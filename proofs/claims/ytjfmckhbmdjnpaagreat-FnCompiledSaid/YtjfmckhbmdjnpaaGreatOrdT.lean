/-
 Plain: all labels of a state have dimensions. No condition.
-/
import Derived.Test.YtjfmckhbmdjnpaaGreatOrdB
import Derived.Test.YtjfmckhbmdjnpaaGreatOrdC
set_option linter.unusedSimpArgs false
set_option linter.unusedVariables false
namespace Go.Proofs.YtjfmckhbmdjnpaaGreat
open Go.RowKit Go.Lift Plain
set_option maxRecDepth 100000
def OsT (T:List Int) (s:Osd):Prop:=∀ i,∀ x∈s.lab i,1≤atT T x∧atT T x≤8
section
variable {T os : List Int} {s : Osd} {m a b : Nat}
theorem OsT.res (h:OsT T s):∀ x∈s.res os a b,1≤atT T x∧atT T x≤8:=fun x hx=>
 (bc.1 (List.mem_filter.1 hx).1).elim (h a x) (h b x)
theorem OsT.step (hs:OsOk s m) (h:OsT T s):OsT T (s.step os a b):=fun i x hx=>by
 rcases Nat.lt_trichotomy i m with hi | rfl | hi
 ·rw[ot hs hi]at hx;exact h i x hx
 ·rw[dP hs]at hx;exact h.res x hx
 ·have:(s.step os a b).lab i=[]:=by
   have:=(hs.step os a b).n
   unfold Osd.lab
   rw[zq,List.getElem?_eq_none (by omega)];rfl
  rw[this]at hx;cases hx
theorem FO {N:Net} (h:bp N=true):OsT (aK N.ts).1 (aC N.ts):=fun i x hx=>by
 by_cases hi:i<N.ts.length
 ·rw[vD hi]at hx
  have hd:=H3 h (List.getElem_mem hi)
  have:atT (aK N.ts).1 x∈N.ts[i].dims:=by rw[← hd];exact List.mem_map_of_mem hx
  have:=(bZ h _ (List.getElem_mem hi)).dim _ this
  omega
 ·have:(aC N.ts).lab i=[]:=by
   unfold Osd.lab
   rw[zq,List.getElem?_eq_none (by simp [aC];omega)];rfl
  rw[this]at hx;cases hx
end
set_option maxRecDepth 100000
section
variable {N : Net} {n : Nat} {F : List Int}
def stA (F:List Int) (k:Nat):Nat:=(F.getD (k*2) 0).toNat
def stB (F:List Int) (k:Nat):Nat:=(F.getD (k*2+1) 0).toNat
structure OrdOk (N:Net) (F:List Int) (k:Nat):Prop where
 ok:OsOk (ordS N F k) (N.ts.length+k)
 t:OsT (aK N.ts).1 (ordS N F k)
theorem FY (N:Net) (F:List Int):ordS N F 0=aC N.ts:=rfl
structure OrdStep (N:Net) (F:List Int) (k:Nat):Prop where
 a:F.getD (k*2) 0=stA F k
 b:F.getD (k*2+1) 0=stB F k
 ma:stA F k∈(ordS N F k).nums
 mb:stB F k∈(ordS N F k).nums
 lt:stA F k<stB F k
 nx:ordS N F (k+1)=(ordS N F k).step N.os (stA F k) (stB F k)
 fol:dQ (ordS N F k) (F.getD (k*2) 0) (F.getD (k*2+1) 0)=true
theorem dN (h:aX N n F=true) {k:Nat} (hk:k<n):OrdStep N F k:=by
 have h2:=(aR.1 h).2.2
 have hf:=lK h2 hk
 obtain⟨a,b,e1,e2,ha,hb,hab⟩:=oH hf
 have ea:stA F k=a:=by rw[stA,e1];rfl
 have eb:stB F k=b:=by rw[stB,e2];rfl
 have hy:=congrArg Prod.fst (pW (j8 h2 (Nat.le_of_lt hk)) hf)
 exact⟨by rw[ea,e1],by rw[eb,e2],by rw[ea];exact ha,by rw[eb];exact hb,by rw[ea,eb];exact hab,hy,hf⟩
theorem fi (h:aX N n F=true):∀ k,k≤n→OrdOk N F k
 | 0,_=>⟨pV (bZ (aR.1 h).1),FO (aR.1 h).1⟩
 | k+1,hk=>by
  have ih:=fi h k (by omega)
  have hs:=dN h (show k<n by omega)
  exact⟨by rw[hs.nx];exact ih.ok.step _ _ _,by rw[hs.nx];exact OsT.step ih.ok ih.t⟩
theorem OrdStep.at {k:Nat} (h:OrdStep N F k) (ho:OrdOk N F k):stA F k<N.ts.length+k∧stB F k<N.ts.length+k:=by
 have hn:=ho.ok.n
 have h1:=(gM.1 h.ma).1
 have h2:=(gM.1 h.mb).1
 omega
end
set_option maxRecDepth 100000
theorem uK {ds:List Int} (h:ds.length≤1048576) (hd:∀ d∈ds,1≤d∧d≤100):Does Tryz.prog 100 [.d (ints ds),.d (.int 1000000000)] [] (.d (.int (min (aa ds) 1000000000))) []:=by
 have h1:min (aa (ds.take 0)) 1000000000=1:=by simp [aa];omega
 (refine spec_of (by kernel_rfl) Tryz.func100 oD (fnOk (nb rfl) ?_);unfold hH)
 (simp only[Nat.reduceSub,Zl,zn,Nat.reduceAdd,zF];try simp only[af]);(simp only[go_sem,seval,reduceCtorEq,List.replicate])
 refine aP (ds.length) (mkB 21 1046656) (fun k=>[(5,.d (.int (min (aa (ds.take k)) 1000000000))),(10,.d (.int k))]) (fun k=>[]) (h1:=by first | (simp only[go_sem,seval,reduceCtorEq,nz,na,n1,h1];first | done | rfl) | rfl) (h2:=by first | (simp only[go_sem,seval,reduceCtorEq,nz,na,n1,h1];first | done | rfl) | rfl) (hr:=fun k hk=> ?_)
 unfold fG
 by_cases hlt:k<ds.length
 ·have d1:(k:Int)<ds.length:=by omega
  have g:ds[k]? =some ds[k]:=zg hlt
  have hdk:=hd ds[k] (List.getElem_mem hlt)
  have hp:=bf (ds.take k) fun d hm=>(hd d (List.mem_of_mem_take hm)).1
  have hs:=cB ds k hlt
  rw[ae hlt]at hs
  have hm:=CV (aa (ds.take k)) ds[k] 1000000000 hdk.1 (by omega)
  rw[← hs]at hm
  have hb1:0≤min (aa (ds.take k)) 1000000000*ds[k]:=Int.mul_nonneg (by omega) (by omega)
  have hb2:min (aa (ds.take k)) 1000000000*ds[k]≤1000000000*100:=Int.mul_le_mul (by omega) hdk.2 (by omega) (by omega)
  simp(disch:=omega) only[go_sem,seval,reduceCtorEq,d1,g]
  (refine Next.drop (mkB 21 1046656) (by omega) (h1:= ?_) (h2:= ?_)<;>first | (simp only[go_sem,seval,reduceCtorEq,nz,na,n1,hm];first | done | rfl) | rfl | skip)
 ·have d1:¬ (k:Int)<ds.length:=by omega
  have ht:ds.take k=ds:=zt (by omega)
  simp(disch:=omega) only[go_sem,seval,reduceCtorEq,d1,ht]
  (refine zE ?_ ?_<;>try simp only[go_sem,seval,reduceCtorEq])
theorem ko {T os L:List Int} {s:Osd} (hD:T.length=100) (hl:L.length≤1048576) (hx:∀ x∈L,0≤x∧x≤99) (hT:∀ x∈L,1≤atT T x∧atT T x≤8):
  Does Tryz.prog 48 [osP T os s,.d (ints L)] [] (.d (.int (capP T L))) []:=by
 have htk:List.take 100 (dv T)=dv T:=zt (by rw[cU];omega)
 have hml:(L.map (atT T)).length=L.length:=List.length_map ..
 have htm:List.take L.length (L.map (atT T))=L.map (atT T):=zt (by omega)
 (refine spec_of (by kernel_rfl) Tryz.func48 mI (fnOk (nb rfl) ?_);unfold fw)
 simp only[osP]
 (simp only[Nat.reduceSub,Zl,zn,Nat.reduceAdd,zF];try simp only[af]);(simp only[go_sem,seval,reduceCtorEq,List.replicate])
 simp(disch:=omega) only[go_sem,seval,reduceCtorEq,htk]
 (repeat (refine And.intro (by omega) ?_))
 (refine zC (sG (D:=T) (L:=L) hD hl hx) ?_)
 simp(disch:=omega) only[go_sem,seval,reduceCtorEq]
 (refine aA (uK (ds:=L.map (atT T)) (by omega) (fun d hd=>by obtain⟨x,hx,rfl⟩:=List.mem_map.1 hd;have:=hT x hx;omega)) ?_ ?_ ?_;(focus (simp only[go_sem,seval,reduceCtorEq,hml,htm];done));(first | rfl | (focus (simp only[go_sem];done))))
 simp only[go_sem,seval,reduceCtorEq,capP]
 (refine zE ?_ ?_<;>try simp only[go_sem,seval,reduceCtorEq])
set_option maxRecDepth 100000
section
variable {N : Net} {n : Nat} {F : List Int}
end
structure Opn where
 kind:Nat
 A:Nat
 B:Nat
 C:Nat
 L:List Int
structure Mch where
 rg:List (Bool × List Int)
 ld:List Bool
namespace Mch
def full (m:Mch) (i:Nat):Bool:=(m.rg.getD i (false,[])).1
def lb (m:Mch) (i:Nat):List Int:=(m.rg.getD i (false,[])).2
end Mch
def opIn (m:Mch) (x:Nat):Bool:=decide (x<m.rg.length)
def oq (m:Mch) (o:Opn):Bool:=opIn m o.A&&decide (o.B<m.ld.length)&&decide (o.C=0)&&decide (o.L.length=0)&& !m.full o.A&& !m.ld.getD o.B true
def dE (m:Mch) (B C:Nat) (L:List Int):Nat→List Int
 | 0=>L
 | q+1=>if q≠B∧q≠C then ao (dE m B C L q) (m.lb q) else dE m B C L q
def dr (ts:List Ten) (m:Mch) (L:List Int):Nat→List Int
 | 0=>L
 | q+1=>if m.ld.getD q true=false then ao (dr ts m L q) (ts.getD q ⟨[],[],[]⟩).labels else dr ts m L q
def need (N:Net) (m:Mch) (o:Opn):List Int:=dr N.ts m (dE m o.B o.C N.os m.rg.length) N.ts.length
def subB (a b:List Int):Bool:=decide (∀ x∈a,x∈b)
def jnO (m:Mch) (o:Opn):List Int:=ao (m.lb o.B) (m.lb o.C)
def nY (N:Net) (m:Mch) (o:Opn):Bool:=opIn m o.A&&opIn m o.B&&opIn m o.C&&decide (o.B≠o.C)&& !m.full o.A&&m.full o.B&&m.full o.C&&subB o.L (jnO m o)&&subB ((jnO m o).filter (has (need N m o))) o.L
def outB (m:Mch) (o:Opn):Bool:=opIn m o.A&&decide (o.B=0)&&decide (o.C=0)&&decide (o.L.length=0)&&decide (∀ i,i<m.rg.length→m.full i=decide (i=o.A))&&m.ld.all id
def okB (N:Net) (m:Mch) (o:Opn):Bool:=if o.kind=1 then oq m o else if o.kind=2 then nY N m o else outB m o
def exL (N:Net) (m:Mch) (o:Opn):List Int:=if o.kind=1 then (N.ts.getD o.B ⟨[],[],[]⟩).labels else if o.kind=2 then (jnO m o).filter (has o.L) else []
def exec (N:Net) (m:Mch) (o:Opn):Mch:=
 if o.kind=1 then ⟨m.rg.set o.A (true,exL N m o),m.ld.set o.B true⟩
 else if o.kind=2 then ⟨((m.rg.set o.B (false,[])).set o.C (false,[])).set o.A (true,exL N m o),m.ld⟩
 else ⟨m.rg.set o.A (false,[]),m.ld⟩
def mTo (N:Net) (ops:List Opn) (m:Mch):Nat→Mch × Bool
 | 0=>(m,true)
 | k+1=>(exec N (mTo N ops m k).1 (ops.getD k ⟨3,0,0,0,[]⟩),(mTo N ops m k).2&&okB N (mTo N ops m k).1 (ops.getD k ⟨3,0,0,0,[]⟩)&&(decide ((ops.getD k ⟨3,0,0,0,[]⟩).kind=3)==decide (k+1=ops.length)))
def m0 (N:Net) (R:Nat):Mch:=⟨List.replicate R (false,[]),List.replicate N.ts.length false⟩
noncomputable def cl (N:Net) (R:Nat) (ops:List Opn):Bool:=bp N&&decide (0<N.ts.length∧1≤R∧R≤24∧0<ops.length)&&(mTo N ops (m0 N R) ops.length).2
section
variable {N : Net} {ops : List Opn} {m : Mch} {R : Nat}
theorem AN {k:Nat}:∀ d,(mTo N ops m (k+d)).2=true→(mTo N ops m k).2=true
 | 0,h=>h
 | d+1,h=>by
  rw[← Nat.add_assoc]at h
  simp only[mTo,Bool.and_eq_true]at h
  exact AN d h.1.1
theorem mH {n k:Nat} (h:(mTo N ops m n).2=true) (hk:k<n):okB N (mTo N ops m k).1 (ops.getD k ⟨3,0,0,0,[]⟩)=true∧((ops.getD k ⟨3,0,0,0,[]⟩).kind=3↔k+1=ops.length):=by
 have h1:(mTo N ops m (k+1)).2=true:=AN (n-(k+1)) (by rw[show k+1+(n-(k+1))=n by omega];exact h)
 simp only[mTo,Bool.and_eq_true,beq_iff_eq]at h1
 refine⟨h1.1.2, ?_⟩
 have:=h1.2
 by_cases e:(ops.getD k ⟨3,0,0,0,[]⟩).kind=3
 ·simp only[e,decide_true]at this
  exact⟨fun _=>zd this.symm,fun _=>e⟩
 ·rw[decide_eq_false e]at this
  exact⟨fun h=>absurd h e,fun h=>absurd h (of_decide_eq_false this.symm)⟩
theorem wF (N:Net) (m:Mch) (o:Opn):(exec N m o).rg.length=m.rg.length∧(exec N m o).ld.length=m.ld.length:=by
 unfold exec
 split
 ·simp
 ·split<;>simp
theorem iw:∀ k,(mTo N ops m k).1.rg.length=m.rg.length∧(mTo N ops m k).1.ld.length=m.ld.length
 | 0=>⟨rfl,rfl⟩
 | k+1=>by
  obtain⟨h1,h2⟩:=iw k
  obtain⟨h3,h4⟩:=wF N (mTo N ops m k).1 (ops.getD k ⟨3,0,0,0,[]⟩)
  exact⟨h3.trans h1,h4.trans h2⟩
theorem Bk (h:cl N R ops=true) {o:Opn} (ho:o∈ops):o.A<R:=by
 simp only[cl,Bool.and_eq_true]at h
 obtain⟨k,hk,rfl⟩:=List.getElem_of_mem ho
 have h1:=(mH h.2 hk).1
 have e:ops.getD k ⟨3,0,0,0,[]⟩=ops[k]:=by simp [zq,hk]
 rw[e]at h1
 have hl:=(iw (N:=N) (ops:=ops) (m:=m0 N R) k).1
 have hR:(m0 N R).rg.length=R:=by simp [m0]
 have h2:opIn (mTo N ops (m0 N R) k).1 ops[k].A=true:=by
  unfold okB oq nY outB at h1
  split at h1
  ·simp only[Bool.and_eq_true]at h1;exact h1.1.1.1.1.1
  ·split at h1
   ·simp only[Bool.and_eq_true]at h1;exact h1.1.1.1.1.1.1.1.1
   ·simp only[Bool.and_eq_true]at h1;exact h1.1.1.1.1.1
 have:=zd h2
 omega
theorem z3 {t:Nat} (ht:t<m.ld.length):∀ k,k≤ops.length→(mTo N ops m k).1.ld.getD t true=true→m.ld.getD t true=true∨∃ j,∃ hj:j<ops.length,j<k∧ops[j].kind=1∧ops[j].B=t
 | 0,_,h=>.inl h
 | k+1,hk,h=>by
  have e:ops.getD k ⟨3,0,0,0,[]⟩=ops[k]:=by simp [zq,show k<ops.length by omega]
  have hl:=(iw (N:=N) (ops:=ops) (m:=m) k).2
  simp only[mTo,e]at h
  have key:(mTo N ops m k).1.ld.getD t true=true∨(ops[k].kind=1∧ops[k].B=t):=by
   unfold exec at h
   split at h
   ·rename_i h1
    by_cases hB:ops[k].B=t
    ·exact .inr ⟨h1,hB⟩
    ·left
     simp only[zq,List.getElem?_set,if_neg hB]at h
     rw[zq];exact h
   ·split at h<;>exact .inl h
  rcases key with key | ⟨k1,k2⟩
  ·rcases z3 ht k (by omega) key with h | ⟨j,hj,h1,h2⟩
   ·exact .inl h
   ·exact .inr ⟨j,hj,by omega,h2⟩
  ·exact .inr ⟨k,by omega,by omega,k1,k2⟩
theorem EL {o:Opn} (ho:o.kind=1) (h:cl N R (o :: ops)=true):cl N R ops=false:=by
 cases hc:cl N R ops
 ·rfl
 exfalso
 have h':=h
 have hc':=hc
 simp only[cl,Bool.and_eq_true,decide_eq_true_eq]at h hc
 obtain⟨⟨_,hm,_,_,hl⟩,h2⟩:=hc
 obtain⟨_,h1⟩:=h
 have hld0:(m0 N R).ld.length=N.ts.length:=by simp [m0]
 have f1:=(mH h1 (show 0<(o :: ops).length by simp)).1
 have e0:(o :: ops).getD 0 ⟨3,0,0,0,[]⟩=o:=rfl
 rw[e0,show (mTo N (o :: ops) (m0 N R) 0).1=m0 N R from rfl]at f1
 have hB:o.B<N.ts.length:=by
  unfold okB oq at f1
  rw[if_pos ho]at f1
  simp only[Bool.and_eq_true,decide_eq_true_eq]at f1
  have:=f1.1.1.1.1.2
  omega
 have g1:=mH h2 (show ops.length-1<ops.length by omega)
 have eL:ops.getD (ops.length-1) ⟨3,0,0,0,[]⟩=ops[ops.length-1]:=by simp [zq,show ops.length-1<ops.length by omega]
 rw[eL]at g1
 have k3:ops[ops.length-1].kind=3:=g1.2.2 (by omega)
 have hall:(mTo N ops (m0 N R) (ops.length-1)).1.ld.getD o.B true=true:=by
  have:=g1.1
  unfold okB outB at this
  rw[if_neg (by omega),if_neg (by omega)]at this
  simp only[Bool.and_eq_true]at this
  have h3:=List.all_eq_true.1 this.2
  have hlen:=(iw (N:=N) (ops:=ops) (m:=m0 N R) (ops.length-1)).2
  rw[zq,zg (by omega)]
  exact h3 _ (List.getElem_mem _)
 rcases z3 (by omega) (ops.length-1) (by omega) hall with h3 | ⟨j,hj,h4,h5,h6⟩
 ·simp [m0,zq,hB]at h3
 ·-- but it was loaded before
  have f2:=(mH h1 (show j+1<(o :: ops).length by simp;omega)).1
  have e1:(o :: ops).getD (j+1) ⟨3,0,0,0,[]⟩=ops[j]:=by simp [zq,hj]
  rw[e1]at f2
  have hone:(mTo N (o :: ops) (m0 N R) 1).1.ld.getD o.B true=true:=by
   simp only[mTo,e0]
   unfold exec
   rw[if_pos ho]
   simp only[zq,List.getElem?_set,if_pos]
   split<;>simp
  have hkeep:∀ d,(mTo N (o :: ops) (m0 N R) (1+d)).1.ld.getD o.B true=true:=by
   intro d
   induction d with
   | zero=>exact hone
   | succ d ih=>
    rw[← Nat.add_assoc]
    simp only[mTo]
    unfold exec
    split
    ·simp only[zq,List.getElem?_set]at ih ⊢
     split
     ·split<;>simp
     ·exact ih
    ·split<;>exact ih
  have:=hkeep j
  rw[Nat.add_comm]at this
  unfold okB oq at f2
  rw[if_pos h5,h6,this]at f2
  simp at f2
end
set_option maxRecDepth 100000
def pk (T:List Int) (L:List (List Int)):Int:=L.foldl (fun p l=>max p (capP T l)) 1
theorem CJ (T:List Int) (L:List (List Int)) (l:List Int):pk T (L++[l])=max (pk T L) (capP T l):=by rw[pk,List.foldl_append];rfl
theorem Ij {T:List Int} {L:List (List Int)} {k:Nat} (h:k<L.length):pk T (L.take (k+1))=max (pk T (L.take k)) (capP T L[k]):=by rw[bb h,CJ]
noncomputable def eG (N:Net) (n:Nat) (F:List Int):Int:=if aX N n F=true then pk (aK N.ts).1 (ordS N F n).all else -1
theorem zo {N:Net} {n:Nat} {F:List Int} (h:NSz 1048576 N) (hF:StpSz 1048576 n F):
  Does Tryz.prog 14 [netA N,.d (stp n F)] [] (.d (.int (eG N n F))) []:=by
 have hn:=hF.n
 have hFl:=hF.l
 have hol:=h.o.len
 have hD:=eM N.ts
 (refine spec_of (by kernel_rfl) Tryz.func14 tz (fnOk (nb rfl) ?_);unfold mn)
 (simp only[Nat.reduceSub,Zl,zn,Nat.reduceAdd,zF];try simp only[af]);(simp only[go_sem,seval,reduceCtorEq,List.replicate])
 (refine zC (mO h hF) ?_)
 cases hok:aX N n F
 ·have e:eG N n F= -1:=by rw[eG,hok];rfl
  simp only[go_sem,seval,reduceCtorEq,hok,e]
  (refine zE ?_ ?_<;>try simp only[go_sem,seval,reduceCtorEq])
 have e:eG N n F=pk (aK N.ts).1 (ordS N F n).all:=by rw[eG,if_pos hok]
 obtain⟨h1,h2,_⟩:=aR.1 hok
 have h12:=(an.1 h1).2.1
 simp only[go_sem,seval,reduceCtorEq,hok]
 (refine aA (mw h h1) ?_ ?_ ?_;(focus (simp only[go_sem,seval,reduceCtorEq,osR,lvS];done));(first | rfl | (focus (simp only[go_sem];done))))
 simp(disch:=omega) only[go_sem,seval,reduceCtorEq,osR,lvS]
 have ho0t:OsT (aK N.ts).1 (aC N.ts):=(fi hok 0 (Nat.zero_le _)).t
 have ho0k:OsOk (aC N.ts) (N.ts.length+0):=(fi hok 0 (Nat.zero_le _)).ok
 have hnl0:(aC N.ts).nums.length=N.ts.length:=by rw[eF,List.length_range]
 have hal0:(aC N.ts).all.length=N.ts.length:=by simp [aC]
 have hz:pk (aK N.ts).1 ((aC N.ts).all.take 0)=1:=rfl
 refine aP (N.ts.length) (mkB 61 8581546240) (fun k=>[(6,.d (.int (pk (aK N.ts).1 ((aC N.ts).all.take k)))),(22,.d (.int k))]) (fun k=>[]) (h1:=by first | (simp only[go_sem,seval,reduceCtorEq,nz,na,n1,hz];first | done | rfl) | rfl) (h2:=by first | (simp only[go_sem,seval,reduceCtorEq,nz,na,n1,hz];first | done | rfl) | rfl) (hr:=fun k hk=> ?_)
 unfold kM
 by_cases hlt:k<N.ts.length
 ·have d1:(k:Int)<(aC N.ts).nums.length:=by omega
  have hk:k<(aC N.ts).nums.length:=by omega
  have hnk:(aC N.ts).nums[k]=k:=by simp [eF]
  have g:=uZ (f:=(aC N.ts).lab) hk
  rw[hnk]at g
  have hlab:(aC N.ts).lab k=(aC N.ts).all[k]:=by simp [Osd.lab,hal0,hlt]
  have hnx:=Ij (T:=(aK N.ts).1) (L:=(aC N.ts).all) (show k<(aC N.ts).all.length by omega)
  rw[← hlab]at hnx
  have hln:=ho0k.len k
  simp(disch:=omega) only[go_sem,seval,reduceCtorEq,d1,g]
  (repeat (refine And.intro (by omega) ?_))
  (refine aA (ko (T:=(aK N.ts).1) (os:=N.os) (s:=aC N.ts) hD (by omega) (ho0k.at k).2 (ho0t k)) ?_ ?_ ?_;(focus (simp only[go_sem,seval,reduceCtorEq,osP,lvS];done));(first | rfl | (focus (simp only[go_sem];done))))
  simp(disch:=omega) only[go_sem,seval,reduceCtorEq]
  (refine Next.drop (mkB 61 8581546240) (by omega) (h1:= ?_) (h2:= ?_)<;>first | (simp only[go_sem,seval,reduceCtorEq,nz,na,n1,hnx];first | done | rfl) | rfl | skip)
 ·have d1:¬ (k:Int)<(aC N.ts).nums.length:=by omega
  have ht:(aC N.ts).all.take k=(aC N.ts).all:=zt (by omega)
  have hz2:=FY N F
  simp(disch:=omega) only[go_sem,seval,reduceCtorEq,d1,ht]
  refine aP (n) (mkB 61 1152921435887371264) (fun q=>[(35,.d (.int q)),(6,.d (.int (pk (aK N.ts).1 (ordS N F q).all)))]) (fun q=>[(1,osB (aK N.ts).1 (.d (ints N.os)) (.d (lvS (ordS N F q))) (.d (.int (ordS N F q).all.length)))]) (h1:=by first | (simp only[go_sem,seval,reduceCtorEq,nz,na,n1,hz2,lvS];first | done | rfl) | rfl) (h2:=by first | (simp only[go_sem,seval,reduceCtorEq,nz,na,n1,hz2,lvS];first | done | rfl) | rfl) (hr:=fun q hq=> ?_)
  unfold kV
  by_cases hltq:q<n
  ·have d2:(q:Int)<n:=by omega
   have g:=uN hF hltq
   have hs:=dN hok hltq
   have ho:=fi hok q (by omega)
   have ho1:=fi hok (q+1) (by omega)
   have hnx:=hs.nx
   have hfy:=di (D:=(aK N.ts).1) (os:=N.os) hD ho.ok (by omega) (by omega) hs.fol
   rw[show (F.getD (q*2) 0).toNat=stA F q from rfl,show (F.getD (q*2+1) 0).toNat=stB F q from rfl, ← hnx]at hfy
   have hnn:=eH (os:=N.os) (a:=stA F q) (b:=stB F q) ho.ok
   rw[← hnx]at hnn
   have hlast:∃ L:Nat,(ordS N F (q+1)).nums.length=L+1∧∃ hL:L<(ordS N F (q+1)).nums.length,(ordS N F (q+1)).nums[L]=N.ts.length+q:=by
    refine⟨((ordS N F q).nums.filter (Osd.off (stA F q) (stB F q))).length,by rw[hnn];simp,by rw[hnn];simp, ?_⟩
    simp [hnn]
   obtain⟨L,hL1,hL,hL2⟩:=hlast
   have hln:=jd ho1.ok
   have gl:=rK (f:=(ordS N F (q+1)).lab) hL
   rw[hL2]at gl
   have hres:(ordS N F (q+1)).lab (N.ts.length+q)=(ordS N F q).res N.os (stA F q) (stB F q):=by rw[hnx];exact dP ho.ok
   have hpk:pk (aK N.ts).1 (ordS N F (q+1)).all=max (pk (aK N.ts).1 (ordS N F q).all) (capP (aK N.ts).1 ((ordS N F (q+1)).lab (N.ts.length+q))):=by
    rw[hres, ← CJ,hnx];rfl
   have hlk:=ho1.ok.len (N.ts.length+q)
   have eL:((ordS N F (q+1)).nums.length:Int)-1=L:=by omega
   have iL:(L:Int)<(ordS N F (q+1)).nums.length:=by omega
   simp(disch:=omega) only[go_sem,seval,reduceCtorEq,d2,g,zI]
   (repeat (refine And.intro (by omega) ?_))
   (refine am [1] [] false (zd rfl) ?_ _ ?_ (hfy) ?_ ?_;(focus (simp only[go_sem,seval,reduceCtorEq,osR,lvS];done));(focus (simp only[go_sem,seval,reduceCtorEq,osR,lvS];done));(focus (first | rfl | (simp only[go_sem,seval,reduceCtorEq,osR,lvS];done))))
   simp(disch:=omega) only[go_sem,seval,reduceCtorEq,osR,lvS,eL,iL,gl]
   (repeat (refine And.intro (by omega) ?_))
   (refine cE (ko (T:=(aK N.ts).1) (os:=N.os) (s:=ordS N F (q+1)) hD (by omega) (ho1.ok.at (N.ts.length+q)).2 (ho1.t (N.ts.length+q))) ?_ ?_ ?_;(focus (simp only[go_sem,seval,reduceCtorEq,osP,lvS];done));(first | rfl | (focus (simp only[go_sem];done))))
   simp(disch:=omega) only[go_sem,seval,reduceCtorEq]
   (refine Next.drop (mkB 61 1152921435887371264) (by omega) (h1:= ?_) (h2:= ?_)<;>first | (simp only[go_sem,seval,reduceCtorEq,nz,na,n1,hpk,lvS];first | done | rfl) | rfl | skip)
  ·have d2:¬ (q:Int)<n:=by omega
   obtain rfl:q=n:=by omega
   simp(disch:=omega) only[go_sem,seval,reduceCtorEq,d2,e]
   (refine zE ?_ ?_<;>try simp only[go_sem,seval,reduceCtorEq])
def lowE (ct:List Int):Nat:=ct.findIdx fun x=>decide (x<0)
def posE (ct:List Int) (v:Nat):Nat:=ct.findIdx fun x=>x==(v:Int)
structure Cmp where
 ct:List Int
 R:Nat
 ops:List Opn
def putS (s:Cmp) (v:Nat):Cmp:=⟨s.ct.set (lowE s.ct) v,max s.R (lowE s.ct+1),s.ops⟩
def aq (m:Nat) (s:Cmp) (v:Nat):Cmp:=if m≤v then s else ⟨(putS s v).ct,(putS s v).R,s.ops++[⟨1,lowE s.ct,v,0,[]⟩]⟩
def cN (m:Nat) (s:Cmp) (v:Nat):Nat:=if m≤v then posE s.ct v else lowE s.ct
def dq (s:Cmp) (w a b:Nat) (L:List Int):Cmp:=⟨((s.ct.set (lowE s.ct) w).set a (-1)).set b (-1),max s.R (lowE s.ct+1),s.ops++[⟨2,lowE s.ct,a,b,L⟩]⟩
structure Cst (W:Nat) (P:Nat→Prop) (s:Cmp):Prop where
 len:s.ct.length=W
 ent:∀ i,s.ct.getD i (-1)= -1∨∃ v:Nat,s.ct.getD i (-1)=v∧P v
 has:∀ v,P v→∃ i,s.ct.getD i (-1)=(v:Int)
 inj:∀ i j,0≤s.ct.getD i (-1)→s.ct.getD i (-1)=s.ct.getD j (-1)→i=j
 reg:∀ i,0≤s.ct.getD i (-1)→i<s.R
 le:s.R≤W
 bd:∀ v,P v→v+1<W
section
variable {W : Nat} {P : Nat → Prop} {s : Cmp}
theorem ji {l:List Int} {i j:Nat} {v:Int} (hi:i<l.length):(l.set i v).getD j (-1)=if i=j then v else l.getD j (-1):=by
 rw[zq,zq,List.getElem?_set]
 split
 ·simp [hi]
 ·rfl
theorem getD_in {l:List Int} {i:Nat} (h:0≤l.getD i (-1)):i<l.length:=by
 rcases Nat.lt_or_ge i l.length with h1 | h1
 ·exact h1
 ·rw[zq,List.getElem?_eq_none h1]at h
  simp at h
theorem Cst.low (h:Cst W P s) (hW:0<W):lowE s.ct<W∧s.ct.getD (lowE s.ct) (-1)= -1:=by
 have hl:=h.len
 have key:∃ x∈s.ct,x<0:=by
  false_or_by_contra
  rename_i hc
  have hpos:∀ x∈s.ct,0≤x:=fun x hx=>by
   rcases Int.lt_or_le x 0 with h1 | h1
   ·exact absurd ⟨x,hx,h1⟩ hc
   ·exact h1
  have hg:∀ i (hi:i<s.ct.length),s.ct.getD i (-1)=s.ct[i]:=fun i hi=>by simp [hi]
  have hnd:s.ct.Nodup:=by
   refine List.pairwise_iff_getElem.2 fun i j hi hj hij e=> ?_
   have h1:=h.inj i j (by rw[hg i hi];exact hpos _ (List.getElem_mem hi)) (by rw[hg i hi,hg j hj];exact e)
   omega
  have h2:=lp (M:=(List.range (W-1)).map fun (i:Nat)=>(i:Int)) hnd fun x hx=>by
   obtain⟨i,hi,rfl⟩:=List.getElem_of_mem hx
   rcases h.ent i with e | ⟨v,e,hv⟩
   ·rw[hg i hi]at e
    have:=hpos _ (List.getElem_mem hi)
    omega
   ·rw[hg i hi]at e
    have:=h.bd v hv
    exact List.mem_map.2 ⟨v,List.mem_range.2 (by omega),e.symm⟩
  simp at h2
  omega
 obtain⟨x,hx,hx0⟩:=key
 have hlt:lowE s.ct<s.ct.length:=List.findIdx_lt_length_of_exists ⟨x,hx,by simp [hx0]⟩
 have hv:s.ct[lowE s.ct]<0:=by
  have h3:(decide (s.ct[lowE s.ct]<0))=true:=List.findIdx_getElem (w:=hlt)
  exact zd h3
 refine⟨by omega, ?_⟩
 have hg:s.ct.getD (lowE s.ct) (-1)=s.ct[lowE s.ct]:=by simp [hlt]
 rcases h.ent (lowE s.ct)with e | ⟨v,e,_⟩
 ·exact e
 ·rw[hg]at e
  omega
theorem Cst.put (h:Cst W P s) {v:Nat} (hv:¬ P v) (hb:v+1<W):Cst W (fun u=>P u∨u=v) (putS s v):=by
 obtain⟨h1,h2⟩:=h.low (by omega)
 have hl:=h.len
 have hg:∀ j,(s.ct.set (lowE s.ct) (v:Int)).getD j (-1)=if lowE s.ct=j then (v:Int) else s.ct.getD j (-1):=fun j=>ji (by omega)
 have hne:∀ i,s.ct.getD i (-1)≠(v:Int):=fun i e=>by
  rcases h.ent i with e2 | ⟨u,e2,hu⟩
  ·omega
  ·have:u=v:=by omega
   exact hv (this ▸ hu)
 have hle:=h.le
 refine⟨by simp [putS,hl],fun i=> ?_,fun u hu=> ?_,fun i j hi hij=> ?_,fun i hi=> ?_, ?_,fun u hu=> ?_⟩
 ·show (s.ct.set (lowE s.ct) (v:Int)).getD i (-1)= -1∨_
  rw[hg]
  by_cases e:lowE s.ct=i
  ·exact .inr ⟨v,by show (s.ct.set (lowE s.ct) (v:Int)).getD i (-1)=_;rw[hg,if_pos e],.inr rfl⟩
  ·rw[if_neg e]
   rcases h.ent i with e2 | ⟨u,e2,hu⟩
   ·exact .inl e2
   ·exact .inr ⟨u,by show (s.ct.set (lowE s.ct) (v:Int)).getD i (-1)=_;rw[hg,if_neg e];exact e2,.inl hu⟩
 ·rcases hu with hu | rfl
  ·obtain⟨i,e⟩:=h.has u hu
   refine⟨i, ?_⟩
   show (s.ct.set (lowE s.ct) (v:Int)).getD i (-1)=_
   rw[hg,if_neg (fun e2=>by rw[← e2,h2]at e;omega)]
   exact e
  ·exact⟨lowE s.ct,by show (s.ct.set (lowE s.ct) (u:Int)).getD _ (-1)=_;rw[hg,if_pos rfl]⟩
 ·have hi':0≤(s.ct.set (lowE s.ct) (v:Int)).getD i (-1):=hi
  have hij':(s.ct.set (lowE s.ct) (v:Int)).getD i (-1)=(s.ct.set (lowE s.ct) (v:Int)).getD j (-1):=hij
  rw[hg]at hi' hij'
  rw[hg]at hij'
  by_cases e1:lowE s.ct=i
  ·rw[if_pos e1]at hij'
   by_cases e2:lowE s.ct=j
   ·omega
   ·rw[if_neg e2]at hij'
    exact absurd hij'.symm (hne j)
  ·rw[if_neg e1]at hij' hi'
   by_cases e2:lowE s.ct=j
   ·rw[if_pos e2]at hij'
    exact absurd hij' (hne i)
   ·rw[if_neg e2]at hij'
    exact h.inj i j hi' hij'
 ·have hi':0≤(s.ct.set (lowE s.ct) (v:Int)).getD i (-1):=hi
  rw[hg]at hi'
  show i<max s.R (lowE s.ct+1)
  by_cases e1:lowE s.ct=i
  ·omega
  ·rw[if_neg e1]at hi'
   have:=h.reg i hi'
   omega
 ·show max s.R (lowE s.ct+1)≤W
  omega
 ·rcases hu with hu | rfl
  ·exact h.bd u hu
  ·exact hb
theorem Cst.pos (h:Cst W P s) {v:Nat} (hv:P v):posE s.ct v<W∧s.ct.getD (posE s.ct v) (-1)=v:=by
 have hl:=h.len
 obtain⟨i,e⟩:=h.has v hv
 have hi:i<s.ct.length:=getD_in (by omega)
 have hg:∀ i (hi:i<s.ct.length),s.ct.getD i (-1)=s.ct[i]:=fun i hi=>by simp [hi]
 rw[hg i hi]at e
 have hlt:posE s.ct v<s.ct.length:=List.findIdx_lt_length_of_exists ⟨s.ct[i],List.getElem_mem hi,by simp [e]⟩
 have hx:(s.ct[posE s.ct v]==(v:Int))=true:=List.findIdx_getElem (w:=hlt)
 exact⟨by omega,by rw[hg _ hlt];simpa using hx⟩
theorem Cst.load (h:Cst W P s) {m v:Nat} (hv:if m≤v then P v else ¬ P v) (hb:v+1<W):Cst W (fun u=>P u∨u=v) (aq m s v)∧(aq m s v).ct.getD (cN m s v) (-1)=v∧cN m s v<W∧s.R≤(aq m s v).R∧
  (∀ i u:Nat,s.ct.getD i (-1)=(u:Int)→(aq m s v).ct.getD i (-1)=u):=by
 unfold aq cN
 by_cases e:m≤v
 ·rw[if_pos e]at hv
  rw[if_pos e,if_pos e]
  obtain⟨h1,h2⟩:=h.pos hv
  refine⟨⟨h.len,fun i=> ?_,fun u hu=> ?_,h.inj,h.reg,h.le,fun u hu=> ?_⟩,h2,h1,Nat.le_refl _,fun i u hu=>hu⟩
  ·rcases h.ent i with e2 | ⟨u,e2,hu⟩
   ·exact .inl e2
   ·exact .inr ⟨u,e2,.inl hu⟩
  ·rcases hu with hu | rfl
   ·exact h.has u hu
   ·exact h.has u hv
  ·rcases hu with hu | rfl
   ·exact h.bd u hu
   ·exact hb
 ·rw[if_neg e]at hv
  rw[if_neg e,if_neg e]
  obtain⟨h1,h2⟩:=h.low (by omega)
  have hl:=h.len
  have hp:=h.put hv hb
  have hg:∀ j,(s.ct.set (lowE s.ct) (v:Int)).getD j (-1)=if lowE s.ct=j then (v:Int) else s.ct.getD j (-1):=fun j=>ji (by omega)
  refine⟨⟨hp.len,hp.ent,hp.has,hp.inj,hp.reg,hp.le,hp.bd⟩, ?_,h1, ?_,fun i u hu=> ?_⟩
  ·show (s.ct.set (lowE s.ct) (v:Int)).getD _ (-1)=_
   rw[hg,if_pos rfl]
  ·show s.R≤max s.R (lowE s.ct+1)
   omega
  ·show (s.ct.set (lowE s.ct) (v:Int)).getD i (-1)=_
   rw[hg,if_neg (fun e2=> ?_)]
   ·exact hu
   ·rw[← e2,h2]at hu;omega
theorem Cst.pair (h:Cst W P s) {w a b A B:Nat} (L:List Int) (hw:¬ P w) (hwb:w+1<W) (ha:s.ct.getD a (-1)=A) (hb:s.ct.getD b (-1)=B):
  Cst W (fun u=>(P u∧u≠A∧u≠B)∨u=w) (dq s w a b L)∧(∀ j,(dq s w a b L).ct.getD j (-1)=if b=j then -1 else if a=j then -1 else if lowE s.ct=j then (w:Int) else s.ct.getD j (-1)):=by
 obtain⟨h1,h2⟩:=h.low (by omega)
 have hl:=h.len
 have hp:=h.put hw hwb
 have la:a<W:=by rw[← hl];exact getD_in (by omega)
 have lb:b<W:=by rw[← hl];exact getD_in (by omega)
 have hg:∀ j,(((s.ct.set (lowE s.ct) (w:Int)).set a (-1)).set b (-1)).getD j (-1)=if b=j then -1 else if a=j then -1 else if lowE s.ct=j then (w:Int) else s.ct.getD j (-1):=fun j=>by
  rw[ji (by simp;omega),ji (by simp;omega),ji (by omega)]
 have na:lowE s.ct≠a:=fun e=>by rw[← e,h2]at ha;omega
 have nb':lowE s.ct≠b:=fun e=>by rw[← e,h2]at hb;omega
 have hpe:=hp.ent
 have hpg:∀ j,(putS s w).ct.getD j (-1)=if lowE s.ct=j then (w:Int) else s.ct.getD j (-1):=fun j=>ji (by omega)
 have hnn:∀ j,0≤(dq s w a b L).ct.getD j (-1)→(dq s w a b L).ct.getD j (-1)=(putS s w).ct.getD j (-1)∧j≠a∧j≠b:=fun j hj=>by
  have hj':0≤(((s.ct.set (lowE s.ct) (w:Int)).set a (-1)).set b (-1)).getD j (-1):=hj
  show (((s.ct.set (lowE s.ct) (w:Int)).set a (-1)).set b (-1)).getD j (-1)=_∧_
  rw[hg]at hj' ⊢
  rw[hpg]
  by_cases e1:b=j
  ·rw[if_pos e1]at hj';omega
  rw[if_neg e1]at hj' ⊢
  by_cases e2:a=j
  ·rw[if_pos e2]at hj';omega
  rw[if_neg e2]at hj' ⊢
  exact⟨rfl,fun e=>e2 e.symm,fun e=>e1 e.symm⟩
 refine⟨⟨by simp [dq,hl],fun i=> ?_,fun u hu=> ?_,fun i j hi hij=> ?_,fun i hi=> ?_, ?_,fun u hu=> ?_⟩,hg⟩
 ·by_cases hi:0≤(dq s w a b L).ct.getD i (-1)
  ·obtain⟨g1,g2,g3⟩:=hnn i hi
   rcases hp.ent i with e | ⟨u,e,hu⟩
   ·omega
   ·refine .inr ⟨u,g1.trans e, ?_⟩
    rcases hu with hu | hu
    ·left
     rw[hpg]at e
     by_cases e3:lowE s.ct=i
     ·rw[if_pos e3]at e
      have huw:u=w:=by omega
      exact absurd hu (by rw[huw];exact hw)
     ·rw[if_neg e3]at e
      refine⟨hu,fun e4=>g2 (h.inj i a (by omega) (by rw[e,ha,e4])),fun e4=>g3 (h.inj i b (by omega) (by rw[e,hb,e4]))⟩
    ·exact .inr hu
  ·left
   have hi':¬ 0≤(((s.ct.set (lowE s.ct) (w:Int)).set a (-1)).set b (-1)).getD i (-1):=hi
   show (((s.ct.set (lowE s.ct) (w:Int)).set a (-1)).set b (-1)).getD i (-1)= -1
   rw[hg]at hi' ⊢
   by_cases e1:b=i
   ·rw[if_pos e1]
   rw[if_neg e1]at hi' ⊢
   by_cases e2:a=i
   ·rw[if_pos e2]
   rw[if_neg e2]at hi' ⊢
   by_cases e3:lowE s.ct=i
   ·rw[if_pos e3]at hi';omega
   rw[if_neg e3]at hi' ⊢
   rcases h.ent i with e | ⟨u,e,_⟩
   ·exact e
   ·omega
 ·rcases hu with ⟨hu,n1',n2⟩ | rfl
  ·obtain⟨i,e⟩:=h.has u hu
   refine⟨i, ?_⟩
   show (((s.ct.set (lowE s.ct) (w:Int)).set a (-1)).set b (-1)).getD i (-1)=_
   rw[hg,if_neg (fun e2=>by rw[← e2,hb]at e;exact n2 (by omega)),if_neg (fun e2=>by rw[← e2,ha]at e;exact n1' (by omega)),if_neg (fun e2=>by rw[← e2,h2]at e;omega)]
   exact e
  ·refine⟨lowE s.ct, ?_⟩
   show (((s.ct.set (lowE s.ct) (u:Int)).set a (-1)).set b (-1)).getD _ (-1)=_
   rw[hg,if_neg (fun e=>nb' e.symm),if_neg (fun e=>na e.symm),if_pos rfl]
 ·obtain⟨g1,_⟩:=hnn i hi
  have hj:0≤(dq s w a b L).ct.getD j (-1):=by rw[← hij];exact hi
  obtain⟨k1,_⟩:=hnn j hj
  exact hp.inj i j (by rw[← g1];exact hi) (by rw[← g1, ← k1];exact hij)
 ·obtain⟨g1,_⟩:=hnn i hi
  exact hp.reg i (by rw[← g1];exact hi)
 ·exact hp.le
 ·rcases hu with ⟨hu,_⟩ | rfl
  ·exact h.bd u hu
  ·exact hwb
end
end Go.Proofs.YtjfmckhbmdjnpaaGreat
