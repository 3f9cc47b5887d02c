/-
 Contracts: the first state of an order, whether an order is valid, by the program. No condition.
-/
import Derived.Test.YtjfmckhbmdjnpaaGreatOrdL
import Derived.Test.YtjfmckhbmdjnpaaGreatStp
import Derived.Test.YtjfmckhbmdjnpaaGreatBoolA
set_option linter.unusedSimpArgs false
set_option linter.unusedVariables false
namespace Go.Proofs.YtjfmckhbmdjnpaaGreat
open Go.RowKit Go.Lift Plain
set_option maxRecDepth 100000
theorem FX {T:List Int} {x y z:AV} (h:T.length=100):(osB T x y z).drop 100=[x,y,z]:=by
 have h1:(iv T).length=100:=by simp [cA,h]
 rw[osB,List.drop_left' h1]
theorem FU (T:List Int) (x y z:AV):iv T++[x,y,z]=osB T x y z:=nr rfl
theorem FR {T:List Int} {x y z:AV} (h:T.length=100) (u:AV):iv T++[u]++(osB T x y z).drop 101=osB T u y z:=by rw[← AF h u,vE h]
theorem FQ {T:List Int} {x y z:AV} (h:T.length=100) (u:AV):(osB T x y z).set 101 u=osB T x u z:=by
 have h1:(iv T++[x]).length=101:=by simp [cA,h]
 rw[osB,show iv T++[x,y,z]=(iv T++[x])++[y,z]by simp,List.set_append_right _ _ (by omega),h1]
 simp [osB]
theorem eF (ts:List Ten):(aC ts).nums=List.range ts.length:=by
 unfold Osd.nums
 rw[show (aC ts).all.length=ts.length by simp [aC]]
 refine List.filter_eq_self.2 fun i hi=> ?_
 have hi:i<ts.length:=by simpa using hi
 simp [Osd.alive,aC,hi]
theorem vD {ts:List Ten} {i:Nat} (h:i<ts.length):(aC ts).lab i=ts[i].labels:=by simp [Osd.lab,aC,h]
theorem mw {N:Net} (h:NSz 1048576 N) (hok:bp N=true):
  Does Tryz.prog 47 [netA N] [] (.ptr 0 0) [osR (aK N.ts).1 N.os (aC N.ts)]:=by
 have hD:=eM N.ts
 have hnl:=h.l
 have hax:=bZ hok
 have htD:List.take 100 (aK N.ts).1=(aK N.ts).1:=zt (by omega)
 have hal:(aC N.ts).all.length=N.ts.length:=by simp [aC]
 (refine spec_ofK (by kernel_rfl) Tryz.func47 rS (fnOk (nb rfl) ?_);unfold l4)
 simp only[osR,lvS]
 (simp only[Nat.reduceSub,Zl,zn,Nat.reduceAdd,zF];try simp only[af]);(simp only[go_sem,seval,reduceCtorEq,List.replicate])
 (refine zC (wL (ts:=N.ts) h.l h.t hax) ?_)
 generalize hT:(aK N.ts).1=T at*
 have hrl:(repI 100 0).length=100:=lG 100 0
 have hdr:List.drop 100 (repI 100 0)=[]:=List.drop_of_length_le (by omega)
 simp(disch:=omega) only[go_sem,seval,reduceCtorEq,htD,hdr,hrl,FX,FU,FR,hD]
 refine ir (Wk.nilS 2 101 2 _ _ _ rfl (CM hD)) ?_
 simp(disch:=omega) only[go_sem,seval,reduceCtorEq,FQ]
 have hr0:lvA (aC N.ts).lab (List.range 0)=[]:=rfl
 refine aP (N.ts.length) (mkB 46 35184304980160) (fun k=>[(25,.d (.int k))]) (fun k=>[(2,osB T (.d (ints N.os)) (.own 3 0 k) (.d (.int N.ts.length))),(3,lvA (aC N.ts).lab (List.range k))]) (h1:=by first | (simp only[go_sem,seval,reduceCtorEq,nz,na,n1,hr0];first | done | rfl) | rfl) (h2:=by first | (simp only[go_sem,seval,reduceCtorEq,nz,na,n1,hr0];first | done | rfl) | rfl) (hr:=fun k hk=> ?_)
 unfold jv
 by_cases hlt:k<N.ts.length
 ·have d1:(k:Int)<N.ts.length:=by omega
  have g3:=iu (zg hlt)
  have hst:=h.t N.ts[k] (List.getElem_mem hlt)
  simp(disch:=omega) only[go_sem,seval,reduceCtorEq,d1,g3]
  (repeat (refine And.intro (by omega) ?_))
  (refine zD (r5 (xs:=N.ts[k].labels) hst.l.up.len) ?_)
  have hrl:(List.range k).length=k:=List.length_range
  have hrow:lvA (aC N.ts).lab (List.range k)++[.d (.int k),.d (.sl N.ts[k].labels.length (dv N.ts[k].labels))]=lvA (aC N.ts).lab (List.range (k+1)):=by
   rw[List.range_succ,D0]
   simp only[lvA,List.flatMap_cons,List.flatMap_nil,List.append_nil,vD hlt,ints]
  simp(disch:=omega) only[go_sem,seval,reduceCtorEq,hrl]
  (repeat (refine And.intro (by omega) ?_))
  (refine Next.drop (mkB 46 35184304980160) (by omega) (h1:= ?_) (h2:= ?_)<;>first | (simp only[go_sem,seval,reduceCtorEq,nz,na,n1,hrow];first | done | rfl) | rfl | skip)
 ·have d1:¬ (k:Int)<N.ts.length:=by omega
  obtain rfl:k=N.ts.length:=by omega
  have hln:lvS (aC N.ts)=.sl N.ts.length (lvD (aC N.ts).lab (List.range N.ts.length)):=by rw[lvS,eF,List.length_range]
  have htk:List.take (N.ts.length*2) (lvD (aC N.ts).lab (List.range N.ts.length))=lvD (aC N.ts).lab (List.range N.ts.length):=zt (by rw[yX,List.length_range];exact Nat.le_refl _)
  simp(disch:=omega) only[go_sem,seval,reduceCtorEq,d1]
  (refine FnEnd.wk (Wk.freeze 3 (nb rfl) rfl (r9) rfl rfl) ?_);(simp only[go_sem,seval,reduceCtorEq,htk])
  (refine zE ?_ ?_<;>try simp only[go_sem,seval,reduceCtorEq])
  all_goals simp only[eF,List.length_range,hal]
theorem uN {n k:Nat} {m:Nat} {F:List Int} (h:StpSz m n F) (hk:k<n):(F.drop (k*2)).take 2=[F.getD (k*2) 0,F.getD (k*2+1) 0]:=by
 have hl:=h.l
 rw[Dz (by omega),ae (by omega),ae (by omega)]
theorem mO {N:Net} {n:Nat} {F:List Int} (h:NSz 1048576 N) (hF:StpSz 1048576 n F):
  Does Tryz.prog 26 [netA N,.d (stp n F)] [] (.d (.bool (aX N n F))) []:=by
 have hD:=eM N.ts
 have hn:=hF.n
 have hFl:=hF.l
 have hol:=h.o.len
 have hnl:=h.l
 (refine spec_of (by kernel_rfl) Tryz.func26 wi (fnOk (nb rfl) ?_);unfold pL)
 (simp only[Nat.reduceSub,Zl,zn,Nat.reduceAdd,zF];try simp only[af]);(simp only[go_sem,seval,reduceCtorEq,List.replicate])
 (refine zC (mP h) ?_)
 cases h1:bp N
 ·have e:aX N n F=false:=by simp only[aX,h1,Bool.false_and]
  simp only[go_sem,seval,reduceCtorEq,h1,e]
  (refine zE ?_ ?_<;>try simp only[go_sem,seval,reduceCtorEq])
 have h12:=(an.1 h1).2.1
 by_cases h2:n=N.ts.length-1
 rotate_left
 ·have e:aX N n F=false:=by simp only[aX,decide_eq_false h2,Bool.and_false,Bool.false_and]
  have c:((n:Int) !=max ((N.ts.length:Int)-1) 0)=true:=by simp;omega
  simp(disch:=omega) only[go_sem,seval,reduceCtorEq,h1,c,e]
  (refine zE ?_ ?_<;>try simp only[go_sem,seval,reduceCtorEq])
 have c:((n:Int) !=max ((N.ts.length:Int)-1) 0)=false:=by simp;omega
 simp(disch:=omega) only[go_sem,seval,reduceCtorEq,h1,c]
 (refine aA (mw h h1) ?_ ?_ ?_;(focus (simp only[go_sem,seval,reduceCtorEq,osR,lvS];done));(first | rfl | (focus (simp only[go_sem];done))))
 have hs0:=pV (bZ h1)
 simp only[go_sem,seval,reduceCtorEq,osR,lvS]
 generalize hT:(aK N.ts).1=T at*
 have hz1:(bL N.os F (aC N.ts) 0).1=aC N.ts:=rfl
 refine bG (n) (mkB 34 17112760464) (fun k=>(bL N.os F (aC N.ts) k).2=true) (fun k=>[(25,.d (.int k))]) (fun k=>[(1,osB T (.d (ints N.os)) (.d (lvS (bL N.os F (aC N.ts) k).1)) (.d (.int (bL N.os F (aC N.ts) k).1.all.length)))]) (hi:=rfl) (h1:=by first | (simp only[go_sem,seval,reduceCtorEq,nz,na,n1,hz1,lvS];first | done | rfl) | rfl) (h2:=by first | (simp only[go_sem,seval,reduceCtorEq,nz,na,n1,hz1,lvS];first | done | rfl) | rfl) (hr:=fun k hk hi=> ?_)
 unfold nB
 by_cases hlt:k<n
 ·have d1:(k:Int)<n:=by omega
  have g:=uN hF hlt
  have hok:=rC hs0 k hi
  simp(disch:=omega) only[go_sem,seval,reduceCtorEq,d1,g,zI]
  refine⟨by omega, ?_⟩
  cases hf:dQ (bL N.os F (aC N.ts) k).1 (F.getD (k*2) 0) (F.getD (k*2+1) 0)
  ·have e:aX N n F=false:=by
    cases e:aX N n F
    ·rfl
    ·have:=lK (aR.1 e).2.2 hlt
     rw[hf]at this;cases this
   (refine am [1] [] false (zd rfl) ?_ _ ?_ (o5 (D:=T) (os:=N.os) hD hok (by omega) (by omega) hf) ?_ ?_;(focus (simp only[go_sem,seval,reduceCtorEq,osR];done));(focus (simp only[go_sem,seval,reduceCtorEq,osR];done));(focus (first | rfl | (simp only[go_sem,seval,reduceCtorEq,osR];done))))
   simp only[go_sem,seval,reduceCtorEq,e]
   (refine zE ?_ ?_<;>try simp only[go_sem,seval,reduceCtorEq])
  ·have hy:=pW hi hf
   (refine am [1] [] false (zd rfl) ?_ _ ?_ (di (D:=T) (os:=N.os) hD hok (by omega) (by omega) hf) ?_ ?_;(focus (simp only[go_sem,seval,reduceCtorEq,osR];done));(focus (simp only[go_sem,seval,reduceCtorEq,osR];done));(focus (first | rfl | (simp only[go_sem,seval,reduceCtorEq,osR];done))))
   have hy1:=congrArg Prod.fst hy
   simp only at hy1
   simp(disch:=omega) only[go_sem,seval,reduceCtorEq,osR]
   (refine NextI.drop (mkB 34 17112760464) (by omega) (by rw[hy]) (h1:= ?_) (h2:= ?_)<;>first | (simp only[go_sem,seval,reduceCtorEq,nz,na,n1,hy1,lvS];first | done | rfl) | rfl | skip)
 ·have d1:¬ (k:Int)<n:=by omega
  obtain rfl:k=n:=by omega
  have e:aX N k F=true:=aR.2 ⟨h1,h2,hi⟩
  simp(disch:=omega) only[go_sem,seval,reduceCtorEq,d1,e]
  (refine zE ?_ ?_<;>try simp only[go_sem,seval,reduceCtorEq])
end Go.Proofs.YtjfmckhbmdjnpaaGreat
