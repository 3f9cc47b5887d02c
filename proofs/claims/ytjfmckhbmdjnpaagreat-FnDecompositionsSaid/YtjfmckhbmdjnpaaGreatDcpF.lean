/-
 Contracts: a shuffled order of the closed labels; what the law of Decompositions asks of it. No condition.
-/
import Derived.Test.YtjfmckhbmdjnpaaGreatDcpC
import Derived.Test.YtjfmckhbmdjnpaaGreatEnvA
set_option linter.unusedSimpArgs false
set_option linter.unusedVariables false
namespace Go.Proofs.YtjfmckhbmdjnpaaGreat
open Go.RowKit Go.Lift Plain
set_option maxRecDepth 100000
theorem MakeClosed_d {b:List Int} (hb:CodeOk b) {m:Nat} (hm:m≤1000) {N:Net} (hN:Gen6 N):
  ∃ xs:List Int,xs.Perm (aX N)∧Does Tryz.prog 15 [.d (bytes b),.d (.int m),netA N] [] (.d (ints xs)) []:=by
 obtain⟨i,h,hi,hd⟩:=ti hb hm
 have hcl:=(vf N).len
 have hlc:=(yP hN.sz hN.ok).fzI
 have hx:=vt hb (c:=⟨i,h⟩) hi (xs:=aX N) (by omega)
 have hp:=lD (b:=b) ⟨i,h⟩ (aX N) (aX N).length (Nat.le_refl _)
 refine⟨_,hp, ?_⟩
 have hl:=hp.length_eq
 generalize aX N=C at*
 generalize bp b ⟨i,h⟩ C C.length=T at hx hl
 obtain⟨c2,xs⟩:=T
 simp only at hx hl ⊢
 rw[← hl]at hx
 refine Does.fzI (g:=true) ?_
 unfold curS curR curC at hx
 unfold curR curC at hd
 (refine spec_of (by kernel_rfl) Tryz.func15 qm (fnOk (nb rfl) ?_);unfold jQ)
 simp only[netA]
 (simp only[Nat.reduceSub,Zl,zn,Nat.reduceAdd,zF];try simp only[af]);(simp only[go_sem,seval,reduceCtorEq,List.replicate])
 (refine zD (hd) ?_)
 simp only[go_sem,seval,reduceCtorEq]
 (refine aV (hlc) ?_ ?_ ?_;(focus (simp only[go_sem,seval,reduceCtorEq,netA];done));(first | rfl | (focus (simp only[go_sem];done))))
 simp only[go_sem,seval,reduceCtorEq]
 (refine an [1] [] false (zd rfl) ?_ _ ?_ (hx) ?_ ?_;(focus (simp only[go_sem,seval,reduceCtorEq];done));(focus (simp only[go_sem,seval,reduceCtorEq];done));(focus (first | rfl | (simp only[go_sem,seval,reduceCtorEq];done))))
 simp(disch:=omega) only[go_sem,seval,reduceCtorEq]
 (refine zE ?_ ?_<;>try simp only[go_sem,seval,reduceCtorEq])
section
variable {N : Net} {xs : List Int}
theorem wU (hN:Gen6 N) (hp:xs.Perm (aX N)):eM N xs=true∧xs.Nodup∧xs.length≤6∧(∀ x,x∈xs↔dimN N.ts x≠0∧x∉N.os)∧Sz 1048576 xs:=by
 have hok:=hN.ok
 have hax:=bS hok
 have hll:aj N=am (labP N.ts) 100:=by simp [aj,hok]
 have hmem:∀ x,x∈aX N↔dimN N.ts x≠0∧x∉N.os:=fun x=>by
  rw[show aX N=wol (aj N) N.os from rfl,AS,hll,dK hax]
 have hnd:(aX N).Nodup:=by
  rw[show aX N=wol (aj N) N.os from rfl,hll]
  exact(Sem.fH N).filter _
 have h1:xs.Nodup:=hp.nodup_iff.2 hnd
 have h2:∀ x,x∈xs↔dimN N.ts x≠0∧x∉N.os:=fun x=>by rw[hp.mem_iff,hmem]
 have h6:∀ x∈xs,0≤x∧x<6:=fun x hx=>Sem.wl hN x ((Sem.cf hok).2 ((h2 x).1 hx).1)
 refine⟨?_,h1,len6 h1 h6,h2,sz6 h1 h6⟩
 unfold eM
 rw[hok,Bool.true_and]
 exact decide_eq_true ⟨hp.length_eq,fun k hk=>⟨hp.mem_iff.1 (List.getElem_mem hk),gU h1 hk⟩⟩
theorem AO (hN:Gen6 N) (hp:xs.Perm (aX N)):DecOk N (cE N.os (labL N.ts) xs) (dQ (labL N.ts) xs):=by
 obtain⟨h1,h2,h3,h4,_⟩:=wU hN hp
 exact Jl hN.ok (fun t ht x hx=>(Sem.cf hN.ok).1 (Sem.dA hN.ok ht hx)) (Sem.yD hN.ok) (fun x hx=>(Sem.cf hN.ok).1 (Sem.sf hN.ok x hx)) h2 h4 (by omega)
theorem AK {B:List (List Int)} {P:List Int} (hN:Gen6 N) (h:DecOk N B P):DSz 1048576 B P:=by
 obtain⟨_,⟨⟨hB1,hB2⟩,hP,hb⟩,_⟩:=h
 refine⟨by omega,fun b hb'=> ?_,⟨by omega,fun x hx=> ?_⟩⟩
 ·obtain⟨i,hi,rfl⟩:=List.getElem_of_mem hb'
  have h1:=(hb i hi).2
  have hm:∀ x∈B[i],0≤x∧x<6:=fun x hx=>by
   obtain⟨j,hj,rfl⟩:=List.getElem_of_mem hx
   exact Sem.wl hN _ ((Sem.cf hN.ok).2 (h1 j hj).1)
  have hlt:∀ j d (hj:j+d+1<B[i].length),B[i][j]<B[i][j+d+1]:=fun j d=>by
   induction d with
   | zero=>intro hj;have:=(h1 (j+1) hj).2 (by omega);rwa [show j+1-1=j by omega,ab (by omega)]at this
   | succ d ih=>
    intro hj
    have a:=ih (by omega)
    have c:=(h1 (j+d+1+1) (by omega)).2 (by omega)
    rw[show j+d+1+1-1=j+d+1 by omega,ab (by omega)]at c
    exact Int.lt_trans a c
  have hnd:B[i].Nodup:=List.pairwise_iff_getElem.2 fun a c ha hc hac e=>by
   have:=hlt a (c-a-1) (by omega)
   have e2:a+(c-a-1)+1=c:=by omega
   simp only[e2]at this
   omega
  exact sz6 hnd hm
 ·obtain⟨i,hi,rfl⟩:=List.getElem_of_mem hx
  have h1:=(hb i (by omega)).1
  have e:=ab hi
  by_cases h0:i=0
  ·subst h0
   have:=h1.1 rfl
   rw[e]at this
   rw[this];unfold I64;omega
  ·have:=h1.2 (by omega)
   rw[e]at this
   unfold I64;omega
end
set_option maxRecDepth 100000
theorem EP (B:List (List Int)):idsL (lsA B)=[]:=by
 induction B with
 | nil=>rfl
 | cons x l ih=>simpa [lsA,idsL,idsA]using ih
theorem Cu {z:Int} {W:List Int} {k:Nat} (h:k<W.length):maxL z (W.take (k+1))=max (maxL z (W.take k)) W[k]:=by
 rw[bb h]
 unfold maxL
 rw[List.foldl_append]
 rfl
set_option maxHeartbeats 3200000 in
theorem oC {b:List Int} (hl:b.length≤9223372036854775807) (hwf:∀ x∈b,0≤x∧x≤255):
  Does Tryz.prog 4 [.d (bytes b)] [] (.d (.bool true)) []:=by
 by_cases h0:(b.length:Int)>1048576
 ·(refine spec_ofK (by kernel_rfl) Tryz.func4 ea (fnOk (nb rfl) ?_);unfold cP)
  unfold bytes
  (simp only[Nat.reduceSub,Zl,zn,Nat.reduceAdd,zF];try simp only[af]);(simp only[go_sem,seval,reduceCtorEq,List.replicate])
  simp(disch:=omega) only[go_sem,seval,reduceCtorEq,h0]
  (refine zE ?_ ?_<;>try simp only[go_sem,seval,reduceCtorEq])
 have hb:CodeOk b:=⟨by omega,hwf⟩
 obtain⟨kk,pp,nn,hr,hring⟩:=MakeRing_d hb (m:=0) (by omega)
 obtain⟨N,⟨hN,hm5,hrg⟩,hnet⟩:=MakeNetwork_d hb (m:=10) (by omega) hr (most:=5) (by omega)
 obtain⟨xs,hperm,hmc⟩:=MakeClosed_d hb (m:=100) (by omega) hN
 have hz:=hN.sz
 have hwb:=ci hr
 obtain⟨wd,hw⟩:=Int.eq_ofNat_of_zero_le (a:=ah ⟨kk,pp,nn⟩) (by omega)
 rw[← hrg]at hw
 obtain⟨e1,e2,e3,e4,e5⟩:=wU hN hperm
 have hdec:=AO hN hperm
 have hDo:=DecompositionOf_o hz e5 e1
 have hEW:=(n3 hz e5).fzI
 have hwl:iy N xs=bP (labL N.ts) xs xs.length:=by simp [iy,e1]
 rw[hwl]at hEW
 have hwd:=D6 (os:=N.os) (xs:=xs) (L:=labL N.ts)
 have hwn:=lc (labL N.ts) xs xs.length
 have hbl:(cE N.os (labL N.ts) xs).length=xs.length+1:=cz
 have hpl:(dQ (labL N.ts) xs).length=xs.length+1:=sA
 generalize cE N.os (labL N.ts) xs=B at*
 generalize dQ (labL N.ts) xs=P at*
 generalize bP (labL N.ts) xs xs.length=W at*
 have hDz:=AK hN hdec
 have hok1:=gS hz hDz
 rw[vb hdec]at hok1
 have hWd:=WidthOf_d hDz
 rw[hwd]at hWd
 obtain⟨s,⟨hs0,hs1⟩,hms⟩:=MakeSize_d hb (n:=110) (by omega) (lo:=0) (hi:=(xs.length:Int)) (by omega)
 obtain⟨q,rfl⟩:=Int.eq_ofNat_of_zero_le hs0
 have hqb:q<B.length:=by omega
 have hdup:=Hi hdec (by omega) hqb
 have hv1:=DecompositionValue_d hN hw hdup (AK hN hdup)
 have hsing:=AL hN.ok (fun t ht x hx=>(Sem.cf hN.ok).1 (Sem.dA hN.ok ht hx)) (fun x hx=>(Sem.cf hN.ok).1 (Sem.sf hN.ok x hx))
 have hv2:=DecompositionValue_o hN hw hsing (AK hN hsing)
 have hLo:=mZ hz
 have hW:=FT hN hw
 have hsm:=C1 (JX hN hw)
 have hol:=hz.o.len
 generalize Sem.nvR N wd=V at*
 unfold bytes at*
 (refine spec_ofK (by kernel_rfl) Tryz.func4 ea (fnOk (nb rfl) ?_);unfold cP)
 (simp only[Nat.reduceSub,Zl,zn,Nat.reduceAdd,zF];try simp only[af]);(simp only[go_sem,seval,reduceCtorEq,List.replicate])
 simp(disch:=omega) only[go_sem,seval,reduceCtorEq,h0]
 (refine zC (hring) ?_)
 simp only[go_sem,seval,reduceCtorEq]
 (refine zC (hnet) ?_)
 simp only[go_sem,seval,reduceCtorEq,netA]
 (refine aV (hmc) ?_ ?_ ?_;(focus (simp only[go_sem,seval,reduceCtorEq,netA];done));(first | rfl | (focus (simp only[go_sem];done))))
 simp only[go_sem,seval,reduceCtorEq]
 (refine aV (hDo) ?_ ?_ ?_;(focus (simp only[go_sem,seval,reduceCtorEq,netA];done));(first | rfl | (focus (simp only[go_sem];done))))
 simp only[go_sem,seval,reduceCtorEq]
 (refine aV (hEW) ?_ ?_ ?_;(focus (simp only[go_sem,seval,reduceCtorEq,netA];done));(first | rfl | (focus (simp only[go_sem];done))))
 simp only[go_sem,seval,reduceCtorEq]
 have hz0:maxL (N.os.length:Int) (W.take 0)=(N.os.length:Int):=rfl
 refine aN (W.length) (mkB 126 279275953456128) (fun k=>[(8,.d (.int (maxL (N.os.length:Int) (W.take k)))),(40,.d (.int k))]) (fun k=>[]) (h1:=by first | (simp only[go_sem,seval,reduceCtorEq,nz,na,n1,hz0];first | done | rfl) | rfl) (h2:=by first | (simp only[go_sem,seval,reduceCtorEq,nz,na,n1,hz0];first | done | rfl) | rfl) (hr:=fun k hk=> ?_)
 unfold dN
 by_cases hlt:k<W.length
 ·have d1:(k:Int)<W.length:=by omega
  have g:W[k]? =some W[k]:=zg hlt
  have e:=Cu (z:=(N.os.length:Int)) hlt
  simp(disch:=omega) only[go_sem,seval,reduceCtorEq,d1,g]
  (refine Next.drop (mkB 126 279275953456128) (by omega) (h1:= ?_) (h2:= ?_)<;>first | (simp only[go_sem,seval,reduceCtorEq,nz,na,n1,e];first | done | rfl) | rfl | skip)
 have d1:¬ (k:Int)<W.length:=by omega
 have etk:W.take k=W:=zt (by omega)
 simp(disch:=omega) only[go_sem,seval,reduceCtorEq,d1,etk]
 have tkB:List.take (xs.length+1) (lsA B)=lsA B:=zt (by rw[Bl];omega)
 have tkB2:List.take (xs.length+1) (ldv B)=ldv B:=zt (by rw[qi];omega)
 have tkP:List.take (xs.length+1) P=P:=zt (by omega)
 have bl1:((B.length:Nat):Int)=(xs.length:Int)+1:=by omega
 have c1:(maxL (N.os.length:Int) W !=maxL (N.os.length:Int) W)=false:=by simp
 have c2:(((xs.length+1:Nat):Int) !=(xs.length:Int)+1)=false:=by simp
 have c3:((xs.length+1:Nat):Int)-1=(xs.length:Int):=by omega
 (refine aV (hok1) ?_ ?_ ?_;(focus (simp only[go_sem,seval,reduceCtorEq,netA,decA,lists,tkB,tkB2,tkP,hbl,hpl,ff];done));(first | rfl | (focus (simp only[go_sem];done))))
 simp(disch:=omega) only[go_sem,seval,reduceCtorEq]
 (refine aV (hWd) ?_ ?_ ?_;(focus (simp only[go_sem,seval,reduceCtorEq,decA,lists,tkB,tkB2,tkP,hbl,hpl,ff];done));(first | rfl | (focus (simp only[go_sem];done))))
 simp(disch:=omega) only[go_sem,seval,reduceCtorEq,c1,c2,c3]
 have gq:(lsA B)[q]? =some (.d (ints B[q])):=by simp [lsA,hqb]
 have d2:(q:Int)<((xs.length+1:Nat):Int):=by omega
 have hBq:=(hDz.e B[q] (List.getElem_mem hqb)).len
 have tkq:List.take B[q].length B[q]=B[q]:=List.take_length
 (refine zC (hms) ?_)
 simp(disch:=omega) only[go_sem,seval,reduceCtorEq,gq,d2]
 refine⟨by omega,by rw[EP];rfl,hbl,by omega,hpl,by omega, ?_⟩
 have hbl2:(B++[B[q]]).length=xs.length+1+1:=by rw[List.length_append,hbl];rfl
 have hpl2:(P++[(q:Int)]).length=xs.length+1+1:=by rw[List.length_append,hpl];rfl
 have t1:List.take (xs.length+1+1) (ldv (B++[B[q]]))=ldv (B++[B[q]]):=zt (by rw[qi,hbl2];omega)
 have t2:List.take (xs.length+1+1) (P++[(q:Int)])=P++[(q:Int)]:=zt (by rw[hpl2];omega)
 refine GH.mk (Wk.freeze 6 (nb rfl) rfl cJ rfl rfl) ?_
 simp only[go_sem,seval,reduceCtorEq,tkq]
 refine GH.mk (Wk.freeze 2 (nb rfl) rfl ff rfl rfl) ?_
 simp only[go_sem,seval,reduceCtorEq,t1]
 refine GH.mk (Wk.freeze 3 (nb rfl) rfl cJ rfl rfl) ?_
 simp only[go_sem,seval,reduceCtorEq,t2]
 (refine aV (hv1) ?_ ?_ ?_;(focus (simp only[go_sem,seval,reduceCtorEq,netA,decA,lists,hbl2,hpl2];done));(first | rfl | (focus (simp only[go_sem];done))))
 simp only[go_sem,seval,reduceCtorEq]
 (refine dP (hLo) ?_ ?_ ?_;(focus (simp only[go_sem,seval,reduceCtorEq,netA];done));(first | rfl | (focus (simp only[go_sem];done))))
 simp only[go_sem,seval,reduceCtorEq]
 have hs1:ldv [aj N]=[.sl (aj N).length (dv (aj N))]:=rfl
 have hs2:dv [-1]=[D.int (-1)]:=rfl
 (refine dP (hv2) ?_ ?_ ?_;(focus (simp only[go_sem,seval,reduceCtorEq,netA,decA,lists,hs1,hs2];done));(first | rfl | (focus (simp only[go_sem];done))))
 simp only[go_sem,seval,reduceCtorEq]
 (refine dP (hW) ?_ ?_ ?_;(focus (simp only[go_sem,seval,reduceCtorEq,netA];done));(first | rfl | (focus (simp only[go_sem];done))))
 simp only[go_sem,seval,reduceCtorEq]
 (refine zD (hsm) ?_)
 simp only[go_sem,seval,reduceCtorEq]
 (refine zC (hsm) ?_)
 simp only[go_sem,seval,reduceCtorEq]
 (refine zE ?_ ?_<;>try simp only[go_sem,seval,reduceCtorEq])
theorem pv (W:World) {v0:Value} {b:List Int} (w0:BytIn W v0 b):
  Calls Tryz.prog 4 #[v0] W (RetV W (.bool true)):=by
 refine Does.calls (oC w0.len w0.wf) W [_] ?_
 simp only[RelL]
 exact⟨_,_,rfl,w0.rel,rfl⟩
end Go.Proofs.YtjfmckhbmdjnpaaGreat
