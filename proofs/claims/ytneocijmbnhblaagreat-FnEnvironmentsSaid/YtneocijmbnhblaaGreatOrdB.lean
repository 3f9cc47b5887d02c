/-
 Contracts: the first state of an order, whether an order is valid, by the program. No condition.
-/
import Derived.Test.YtneocijmbnhblaaGreatOrdL
import Derived.Test.YtneocijmbnhblaaGreatStp
import Derived.Test.YtneocijmbnhblaaGreatArrA
set_option linter.unusedSimpArgs false
set_option linter.unusedVariables false
namespace Go.Proofs.YtneocijmbnhblaaGreat
open Go.RowKit Go.Lift Plain
set_option maxRecDepth 100000
theorem zY {T:List Int} {x y z:AV} (h:T.length=100):(osB T x y z).drop 100=[x,y,z]:=by
 have h1:(iv T).length=100:=by simp [cW,h]
 rw[osB,List.drop_left' h1]
theorem zV (T:List Int) (x y z:AV):iv T++[x,y,z]=osB T x y z:=nr rfl
theorem zS {T:List Int} {x y z:AV} (h:T.length=100) (u:AV):iv T++[u]++(osB T x y z).drop 101=osB T u y z:=by rw[← uM h u,pX h]
theorem zR {T:List Int} {x y z:AV} (h:T.length=100) (u:AV):(osB T x y z).set 101 u=osB T x u z:=by
 have h1:(iv T++[x]).length=101:=by simp [cW,h]
 rw[osB,show iv T++[x,y,z]=(iv T++[x])++[y,z]by simp,List.set_append_right _ _ (by omega),h1]
 simp [osB]
theorem gN (ts:List Ten):(bc ts).nums=List.range ts.length:=by
 unfold Osd.nums
 rw[show (bc ts).all.length=ts.length by simp [bc]]
 refine List.filter_eq_self.2 fun i hi=> ?_
 have hi:i<ts.length:=by simpa using hi
 simp [Osd.alive,bc,hi]
theorem pW {ts:List Ten} {i:Nat} (h:i<ts.length):(bc ts).lab i=ts[i].labels:=by simp [Osd.lab,bc,h]
theorem lM {N:Net} (h:NSz 1048576 N) (hok:br N=true):
  Does Tryz.prog 50 [netA N] [] (.ptr 0 0) [osR (cC N.ts).1 N.os (bc N.ts)]:=by
 have hD:=iJ N.ts
 have hnl:=h.l
 have hax:=cR hok
 have htD:List.take 100 (cC N.ts).1=(cC N.ts).1:=List.take_of_length_le (by omega)
 have hal:(bc N.ts).all.length=N.ts.length:=by simp [bc]
 (refine spec_ofK (by kernel_rfl) Tryz.func50 mq (fnOk (nb rfl) ?_);unfold C_impl_startState)
 simp only[osR,lvS]
 (simp only[Nat.reduceSub,List.length_cons,List.length_nil,Nat.reduceAdd,am,al,aj,ai,ah,af,ae,ac];try simp only[au]);(simp only[go_sem,seval,reduceCtorEq,List.replicate])
 (refine aa (vz (ts:=N.ts) h.l h.t hax) ?_ ?_ ?_;(focus (simp only[go_sem,seval,reduceCtorEq];done));(first | rfl | (focus (simp only[go_sem];done))))
 generalize hT:(cC N.ts).1=T at*
 have hrl:(repI 100 0).length=100:=ij 100 0
 have hdr:List.drop 100 (repI 100 0)=[]:=List.drop_of_length_le (by omega)
 simp(disch:=omega) only[go_sem,seval,reduceCtorEq,htD,hdr,hrl,zY,zV,zS,hD]
 refine cN (Wk.nilS 2 101 2 _ _ _ rfl (x9 hD)) ?_
 simp(disch:=omega) only[go_sem,seval,reduceCtorEq,zR]
 have hr0:lvA (bc N.ts).lab (List.range 0)=[]:=rfl
 refine aZ (N.ts.length) (mkB 46 35184304980160) (fun k=>[(25,.d (.int k))]) (fun k=>[(2,osB T (.d (ints N.os)) (.own 3 0 k) (.d (.int N.ts.length))),(3,lvA (bc N.ts).lab (List.range k))]) (h1:=by first | (simp only[go_sem,seval,reduceCtorEq,nz,na,n1,hr0];first | done | rfl) | rfl) (h2:=by first | (simp only[go_sem,seval,reduceCtorEq,nz,na,n1,hr0];first | done | rfl) | rfl) (hr:=fun k hk=> ?_)
 unfold L0_impl_startState
 by_cases hlt:k<N.ts.length
 ·have d1:(k:Int)<N.ts.length:=by omega
  have g3:=dd (List.getElem?_eq_getElem hlt)
  have hst:=h.t N.ts[k] (List.getElem_mem hlt)
  simp(disch:=omega) only[go_sem,seval,reduceCtorEq,d1,g3]
  (repeat (refine And.intro (by omega) ?_))
  (refine aC (wI (xs:=N.ts[k].labels) hst.l.up.len) ?_ ?_ ?_;(focus (simp only[go_sem,seval,reduceCtorEq];done));(first | rfl | (focus (simp only[go_sem];done))))
  have hrl:(List.range k).length=k:=List.length_range
  have hrow:lvA (bc N.ts).lab (List.range k)++[.d (.int k),.d (.sl N.ts[k].labels.length (dv N.ts[k].labels))]=lvA (bc N.ts).lab (List.range (k+1)):=by
   rw[List.range_succ,xm]
   simp only[lvA,List.flatMap_cons,List.flatMap_nil,List.append_nil,pW hlt,ints]
  simp(disch:=omega) only[go_sem,seval,reduceCtorEq,hrl]
  (repeat (refine And.intro (by omega) ?_))
  (refine Next.drop (mkB 46 35184304980160) (by omega) (h1:= ?_) (h2:= ?_)<;>first | (simp only[go_sem,seval,reduceCtorEq,nz,na,n1,hrow];first | done | rfl) | rfl | skip)
 ·have d1:¬ (k:Int)<N.ts.length:=by omega
  obtain rfl:k=N.ts.length:=by omega
  have hln:lvS (bc N.ts)=.sl N.ts.length (lvD (bc N.ts).lab (List.range N.ts.length)):=by rw[lvS,gN,List.length_range]
  have htk:List.take (N.ts.length*2) (lvD (bc N.ts).lab (List.range N.ts.length))=lvD (bc N.ts).lab (List.range N.ts.length):=List.take_of_length_le (by rw[t5,List.length_range];exact Nat.le_refl _)
  simp(disch:=omega) only[go_sem,seval,reduceCtorEq,d1]
  (refine FnEnd.wk (Wk.freeze 3 (nb rfl) rfl (lr) rfl rfl) ?_);(simp only[go_sem,seval,reduceCtorEq,htk])
  (refine FnEnd.mk (nb rfl) rfl (of_decide_eq_true rfl) ?_ ?_<;>try simp only[go_sem,seval,reduceCtorEq])
  all_goals simp only[gN,List.length_range,hal]
theorem wQ {n k:Nat} {m:Nat} {F:List Int} (h:StpSz m n F) (hk:k<n):(F.drop (k*2)).take 2=[F.getD (k*2) 0,F.getD (k*2+1) 0]:=by
 have hl:=h.l
 rw[xR (by omega),ao (by omega),ao (by omega)]
theorem wl {N:Net} {n:Nat} {F:List Int} (h:NSz 1048576 N) (hF:StpSz 1048576 n F):
  Does Tryz.prog 25 [netA N,.d (stp n F)] [] (.d (.bool (cn N n F))) []:=by
 have hD:=iJ N.ts
 have hn:=hF.n
 have hFl:=hF.l
 have hol:=h.o.len
 have hnl:=h.l
 (refine spec_of (by kernel_rfl) Tryz.func25 qx (fnOk (nb rfl) ?_);unfold C_impl_OrderOk)
 (simp only[Nat.reduceSub,List.length_cons,List.length_nil,Nat.reduceAdd,am,al,aj,ai,ah,af,ae,ac];try simp only[au]);(simp only[go_sem,seval,reduceCtorEq,List.replicate])
 (refine aa (df h) ?_ ?_ ?_;(focus (simp only[go_sem,seval,reduceCtorEq];done));(first | rfl | (focus (simp only[go_sem];done))))
 cases h1:br N
 ·have e:cn N n F=false:=by simp only[cn,h1,Bool.false_and]
  simp only[go_sem,seval,reduceCtorEq,h1,e]
  (refine FnEnd.mk (nb rfl) rfl (of_decide_eq_true rfl) ?_ ?_<;>try simp only[go_sem,seval,reduceCtorEq])
 have h12:=(ay.1 h1).2.1
 by_cases h2:n=N.ts.length-1
 rotate_left
 ·have e:cn N n F=false:=by simp only[cn,decide_eq_false h2,Bool.and_false,Bool.false_and]
  have c:((n:Int) !=max ((N.ts.length:Int)-1) 0)=true:=by simp;omega
  simp(disch:=omega) only[go_sem,seval,reduceCtorEq,h1,c,e]
  (refine FnEnd.mk (nb rfl) rfl (of_decide_eq_true rfl) ?_ ?_<;>try simp only[go_sem,seval,reduceCtorEq])
 have c:((n:Int) !=max ((N.ts.length:Int)-1) 0)=false:=by simp;omega
 simp(disch:=omega) only[go_sem,seval,reduceCtorEq,h1,c]
 (refine aa (lM h h1) ?_ ?_ ?_;(focus (simp only[go_sem,seval,reduceCtorEq,osR,lvS];done));(first | rfl | (focus (simp only[go_sem];done))))
 have hs0:=nl (cR h1)
 simp only[go_sem,seval,reduceCtorEq,osR,lvS]
 generalize hT:(cC N.ts).1=T at*
 have hz1:(cf N.os F (bc N.ts) 0).1=bc N.ts:=rfl
 refine cP (n) (mkB 34 17112760464) (fun k=>(cf N.os F (bc N.ts) k).2=true) (fun k=>[(25,.d (.int k))]) (fun k=>[(1,osB T (.d (ints N.os)) (.d (lvS (cf N.os F (bc N.ts) k).1)) (.d (.int (cf N.os F (bc N.ts) k).1.all.length)))]) (hi:=rfl) (h1:=by first | (simp only[go_sem,seval,reduceCtorEq,nz,na,n1,hz1,lvS];first | done | rfl) | rfl) (h2:=by first | (simp only[go_sem,seval,reduceCtorEq,nz,na,n1,hz1,lvS];first | done | rfl) | rfl) (hr:=fun k hk hi=> ?_)
 unfold L0_impl_OrderOk
 by_cases hlt:k<n
 ·have d1:(k:Int)<n:=by omega
  have g:=wQ hF hlt
  have hok:=pY hs0 k hi
  simp(disch:=omega) only[go_sem,seval,reduceCtorEq,d1,g,AZ]
  refine⟨by omega, ?_⟩
  cases hf:dN (cf N.os F (bc N.ts) k).1 (F.getD (k*2) 0) (F.getD (k*2+1) 0)
  ·have e:cn N n F=false:=by
    cases e:cn N n F
    ·rfl
    ·have:=nm (bC.1 e).2.2 hlt
     rw[hf]at this;cases this
   (refine aB [1] [] false (of_decide_eq_true rfl) ?_ _ ?_ (jK (D:=T) (os:=N.os) hD hok (by omega) (by omega) hf) ?_ ?_;(focus (simp only[go_sem,seval,reduceCtorEq,osR];done));(focus (simp only[go_sem,seval,reduceCtorEq,osR];done));(focus (first | rfl | (simp only[go_sem,seval,reduceCtorEq,osR];done))))
   simp only[go_sem,seval,reduceCtorEq,e]
   (refine FnEnd.mk (nb rfl) rfl (of_decide_eq_true rfl) ?_ ?_<;>try simp only[go_sem,seval,reduceCtorEq])
  ·have hy:=kC hi hf
   (refine aB [1] [] false (of_decide_eq_true rfl) ?_ _ ?_ (jw (D:=T) (os:=N.os) hD hok (by omega) (by omega) hf) ?_ ?_;(focus (simp only[go_sem,seval,reduceCtorEq,osR];done));(focus (simp only[go_sem,seval,reduceCtorEq,osR];done));(focus (first | rfl | (simp only[go_sem,seval,reduceCtorEq,osR];done))))
   have hy1:=congrArg Prod.fst hy
   simp only at hy1
   simp(disch:=omega) only[go_sem,seval,reduceCtorEq,osR]
   (refine NextI.drop (mkB 34 17112760464) (by omega) (by rw[hy]) (h1:= ?_) (h2:= ?_)<;>first | (simp only[go_sem,seval,reduceCtorEq,nz,na,n1,hy1,lvS];first | done | rfl) | rfl | skip)
 ·have d1:¬ (k:Int)<n:=by omega
  obtain rfl:k=n:=by omega
  have e:cn N k F=true:=bC.2 ⟨h1,h2,hi⟩
  simp(disch:=omega) only[go_sem,seval,reduceCtorEq,d1,e]
  (refine FnEnd.mk (nb rfl) rfl (of_decide_eq_true rfl) ?_ ?_<;>try simp only[go_sem,seval,reduceCtorEq])
end Go.Proofs.YtneocijmbnhblaaGreat
