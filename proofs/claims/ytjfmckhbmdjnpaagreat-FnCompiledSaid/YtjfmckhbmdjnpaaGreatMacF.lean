/-
 Contracts: an order is compiled. No condition.
-/
import Derived.Test.YtjfmckhbmdjnpaaGreatMacD
import Derived.Test.YtjfmckhbmdjnpaaGreatMacE
set_option linter.unusedSimpArgs false
set_option linter.unusedVariables false
namespace Go.Proofs.YtjfmckhbmdjnpaaGreat
open Go.RowKit Go.Lift Plain
set_option maxRecDepth 100000
set_option maxHeartbeats 3200000 in
theorem StepLabels_d {N:Net} (hN:Gen6 N) {n:Nat} {F:List Int} (hok:aX N n F=true) (hF:StpSz 1048576 n F) {p:Nat} (hp:p<n):
  Does Tryz.prog 30 [netA N,.d (stp n F),.d (.int p)] [] (.d (ints ((ordS N F (p+1)).lab (N.ts.length+p)))) []:=by
 have hz:=hN.sz
 have hD:=eM N.ts
 have hn:=hF.n
 have hFl:=hF.l
 have hol:=hz.o.len
 have h12:=(an.1 hN.ok).2.1
 have hnN:=(aR.1 hok).2.1
 have hz0:ordS N F 0=aC N.ts:=rfl
 (refine spec_of (by kernel_rfl) Tryz.func30 s7 (fnOk (nb rfl) ?_);unfold lh)
 (simp only[Nat.reduceSub,Zl,zn,Nat.reduceAdd,zF];try simp only[af]);(simp only[go_sem,seval,reduceCtorEq,List.replicate])
 (refine zC (mO hz hF) ?_)
 have c1:¬ (p:Int)<0:=by omega
 have c2:¬ (p:Int)≥n:=by omega
 simp(disch:=omega) only[go_sem,seval,reduceCtorEq,hok,c1,c2]
 (refine aA (mw hz hN.ok) ?_ ?_ ?_;(focus (simp only[go_sem,seval,reduceCtorEq,osR,lvS];done));(first | rfl | (focus (simp only[go_sem];done))))
 simp only[go_sem,seval,reduceCtorEq,osR,lvS]
 generalize hT:(aK N.ts).1=T at*
 have ep:(p:Int)+1=((p+1:Nat):Int):=by omega
 simp(disch:=omega) only[go_sem,seval,reduceCtorEq,ep]
 (repeat (refine And.intro (by omega) ?_))
 simp only[Int.sub_zero,Int.toNat_natCast]
 have htkm:(F.take ((p+1)*2)).length=(p+1)*2:=by rw[List.length_take];omega
 refine aP (p+1) (mkB 53 545460847104) (fun k=>[(31,.d (.int k))]) (fun k=>[(1,osB T (.d (ints N.os)) (.d (lvS (ordS N F k))) (.d (.int (ordS N F k).all.length)))]) (h1:=by first | (simp only[go_sem,seval,reduceCtorEq,nz,na,n1,hz0,lvS];first | done | rfl) | rfl) (h2:=by first | (simp only[go_sem,seval,reduceCtorEq,nz,na,n1,hz0,lvS];first | done | rfl) | rfl) (hr:=fun k hk=> ?_)
 unfold jU
 by_cases hlt:k<p+1
 ·have d1:(k:Int)<((p+1:Nat):Int):=by omega
  have hs:=dN hok (show k<n by omega)
  have ho:=(fi hok k (by omega)).ok
  have hnx:=hs.nx
  have g:List.take 2 (List.drop (k*2) (List.take ((p+1)*2) F))=[F.getD (k*2) 0,F.getD (k*2+1) 0]:=by
   rw[List.drop_take,List.take_take,Nat.min_eq_left (by omega)]
   exact uN hF (show k<n by omega)
  have hfo:dQ (ordS N F k) (F.getD (k*2) 0) (F.getD (k*2+1) 0)=true:=by
   have h2:=(aR.1 hok).2.2
   exact lK h2 (show k<n by omega)
  simp(disch:=omega) only[go_sem,seval,reduceCtorEq,d1,g,zI]
  (repeat (refine And.intro (by omega) ?_))
  (refine am [1] [] false (zd rfl) ?_ _ ?_ (di (D:=T) (os:=N.os) (s:=ordS N F k) hD ho (by omega) hol hfo) ?_ ?_;(focus (simp only[go_sem,seval,reduceCtorEq,osR,lvS];done));(focus (simp only[go_sem,seval,reduceCtorEq,osR,lvS];done));(focus (first | rfl | (simp only[go_sem,seval,reduceCtorEq,osR,lvS];done))))
  simp(disch:=omega) only[go_sem,seval,reduceCtorEq,osR,lvS]
  (refine Next.drop (mkB 53 545460847104) (by omega) (h1:= ?_) (h2:= ?_)<;>first | (simp only[go_sem,seval,reduceCtorEq,nz,na,n1,hnx,stA,stB];first | done | rfl) | rfl | skip)
 ·have d1:¬ (k:Int)<((p+1:Nat):Int):=by omega
  obtain rfl:k=p+1:=by omega
  have ho:=(fi hok p (by omega)).ok
  have hs:=dN hok hp
  have hnum:(ordS N F (p+1)).nums=(ordS N F p).nums.filter (Osd.off (stA F p) (stB F p))++[N.ts.length+p]:=by rw[hs.nx];exact eH ho
  have hlen:0<(ordS N F (p+1)).nums.length:=by rw[hnum];simp
  have hlast:(ordS N F (p+1)).nums[(ordS N F (p+1)).nums.length-1]=N.ts.length+p:=by
   have:(ordS N F (p+1)).nums[(ordS N F (p+1)).nums.length-1]? =some (N.ts.length+p):=by rw[hnum];simp
   rw[zg (by omega)]at this
   exact Option.some.inj this
  have gl:=rK (f:=(ordS N F (p+1)).lab) (l:=(ordS N F (p+1)).nums) (k:=(ordS N F (p+1)).nums.length-1) (by omega)
  rw[hlast]at gl
  have hq:((ordS N F (p+1)).nums.length:Int)-1=(((ordS N F (p+1)).nums.length-1:Nat):Int):=by omega
  have ho1:=(fi hok (p+1) (by omega)).ok
  have hnl:=jd ho1
  have hll:=ho1.len (N.ts.length+p)
  simp(disch:=omega) only[go_sem,seval,reduceCtorEq,d1,hq,lvS,gl]
  (repeat (refine And.intro (by omega) ?_))
  (refine zC (r5 (xs:=(ordS N F (p+1)).lab (N.ts.length+p)) (by omega)) ?_)
  simp(disch:=omega) only[go_sem,seval,reduceCtorEq]
  (refine zE ?_ ?_<;>try simp only[go_sem,seval,reduceCtorEq])
set_option maxRecDepth 100000
def csK (N:Net) (n:Nat) (F:List Int) (k:Nat):Cmp:=if n=0 then aq N.ts.length (cmpS N n F 0) 0 else cmpS N n F k
def laK (N:Net) (n:Nat) (F:List Int) (k:Nat):Nat:=if n=0 then cN N.ts.length (cmpS N n F 0) 0 else if k=0 then 0 else cmpL N n F (k-1)
theorem EC {W k:Nat} (h:k<W):(List.replicate k (-1:Int)++List.replicate (W-k) 0).take k++[-1]++(List.replicate k (-1:Int)++List.replicate (W-k) 0).drop (k+1)=List.replicate (k+1) (-1)++List.replicate (W-(k+1)) 0:=by
 have h1:(List.replicate k (-1:Int)).length=k:=List.length_replicate
 rw[List.take_left' h1,List.drop_append,List.length_replicate,List.drop_replicate,List.drop_replicate,List.replicate_succ',show k-(k+1)=0 by omega,show W-k-(k+1-k)=W-(k+1)by omega]
 simp
set_option maxHeartbeats 6400000 in
theorem CompileOrder_d {N:Net} (hN:Gen6 N) {n:Nat} {F:List Int} {wd:Nat} (hw:ai N.rg=wd) (hok:aX N n F=true) (hF:StpSz 1048576 n F) (hm:0<N.ts.length) (hm2:N.ts.length≤11):
  Does Tryz.prog 7 [netA N,.d (stp n F)] [] (.tup [ii (cmpZ N n F).R (aV N n F),.d (.bool true)]) []:=by
 have hz:=hN.sz
 have hn:=hF.n
 have hFl:=hF.l
 have h1:=(aR.1 hok).2.1
 obtain⟨_,_,hR24⟩:=sy hN hok hw hm hm2
 have e0:((N.ts.length:Int)==0)=false:=by rw[beq_eq_false_iff_ne];omega
 have hWi:(N.ts.length:Int)+n+1=((N.ts.length+n+1:Nat):Int):=by omega
 (refine spec_of (by kernel_rfl) Tryz.func7 ig (fnOk (nb rfl) ?_);unfold dX)
 simp only[netA,ii,stp]
 (simp only[Nat.reduceSub,Zl,zn,Nat.reduceAdd,zF];try simp only[af]);(simp only[go_sem,seval,reduceCtorEq,List.replicate])
 (refine aA (mO hz hF) ?_ ?_ ?_;(focus (simp only[go_sem,seval,reduceCtorEq,netA,stp];done));(first | rfl | (focus (simp only[go_sem];done))))
 simp(disch:=omega) only[go_sem,seval,reduceCtorEq,hok,e0,tens,hWi]
 (repeat (refine And.intro (by omega) ?_))
 generalize hWd:N.ts.length+n+1=W at*
 have hf0:List.replicate W (0:Int)=List.replicate 0 (-1)++List.replicate (W-0) 0:=rfl
 simp(disch:=omega) only[go_sem,seval,reduceCtorEq,hf0]
 refine aP (W) (mkB 106 17317308137600) (fun k=>[(37,.d (.int k))]) (fun k=>[(2,iv (List.replicate k (-1)++List.replicate (W-k) 0))]) (h1:=by first | (simp only[go_sem,seval,reduceCtorEq,nz,na,n1];first | done | rfl) | rfl) (h2:=by first | (simp only[go_sem,seval,reduceCtorEq,nz,na,n1];first | done | rfl) | rfl) (hr:=fun k hk=> ?_)
 unfold gV
 by_cases hlt:k<W
 ·have d1:(k:Int)<W:=by omega
  have hst:=EC hlt
  have hlk:(List.replicate k (-1:Int)++List.replicate (W-k) 0).length=W:=by rw[List.length_append,List.length_replicate,List.length_replicate];omega
  simp(disch:=omega) only[go_sem,seval,reduceCtorEq,d1,hst]
  (repeat (refine And.intro (by omega) ?_))
  (refine Next.drop (mkB 106 17317308137600) (by omega) (h1:= ?_) (h2:= ?_)<;>first | (simp only[go_sem,seval,reduceCtorEq,nz,na,n1];first | done | rfl) | rfl | skip)
 ·have d1:¬ (k:Int)<W:=by omega
  obtain rfl:k=W:=by omega
  have hfe:List.replicate k (-1:Int)++List.replicate (k-k) 0=(cmpS N n F 0).ct:=by
   rw[Nat.sub_self,List.replicate_zero,List.append_nil, ← hWd];rfl
  simp(disch:=omega) only[go_sem,seval,reduceCtorEq,d1,hfe]
  clear hfe hf0
  have n24:¬ ((cmpZ N n F).R:Int)>24:=by omega
  have hsn:opR (cmpZ N n F).ops++[.d (.int 3),.d (.int (cmpA N n F)),.d (.int 0),.d (.int 0),.d (.sl 0 [])]=opR (aV N n F):=vG (l:=(cmpZ N n F).ops) ⟨3,cmpA N n F,0,0,[]⟩
  have f3:(cmpZ N n F).ops.length+1=(aV N n F).length:=by unfold aV;simp
  have hlen:=wP hN hok hw hm
  have oz:(cmpS N n F 0).ops=[]:=rfl
  have rz:((cmpS N n F 0).R:Int)=0:=rfl
  have onil:opR []=[]:=rfl
  have oT:List.take ((aV N n F).length*5) (opD (aV N n F))=opD (aV N n F):=zt (by rw[uX];omega)
  refine GH.mk (Wk.trans Wk.nogA (Wk.nilS 4 1 5 ⟨0,false,[.d (.int 0),.nil]⟩ _ _ rfl rfl)) ?_
  simp only[go_sem,seval,reduceCtorEq,nogA,Option.map_some]
  by_cases hn0:n=0
  ·have c0:((n:Int)==0)=true:=by simp [hn0]
   have hc0:(cmpS N n F 0).ct.length=k:=by show (List.replicate _ _).length=_;rw[List.length_replicate];omega
   have hlow:lowE (cmpS N n F 0).ct<(cmpS N n F 0).ct.length:=by
    rw[hc0]
    obtain⟨h,_⟩:=sA hN hok hw (ops:=(cmpS N n F 0).ops++[⟨3,0,0,0,[]⟩]) (R0:=(cmpS N n F 0).R) 0 (by omega) [⟨3,0,0,0,[]⟩] (by simp) rfl (Nat.le_refl _)
    have:=(h.cst.low (by omega)).1
    omega
   have hld:=BO (N:=N) (s:=cmpS N n F 0) (v:=0) (by omega) (by omega) (by omega) (by show 0≤1000;omega) (by rw[oz];simp) (by rw[if_neg (by omega)];exact hlow)
   have q0:((0:Nat):Int)=0:=rfl
   have eZ:aq N.ts.length (cmpS N n F 0) 0=cmpZ N n F:=(if_pos hn0).symm
   have eA:cN N.ts.length (cmpS N n F 0) 0=cmpA N n F:=(if_pos hn0).symm
   rw[eZ,eA]at hld
   have lZ:(cmpZ N n F).ct.length=k:=by rw[← eZ,aq,if_neg (by omega)];show (List.set _ _ _).length=_;rw[List.length_set,hc0]
   simp(disch:=omega) only[go_sem,seval,reduceCtorEq,c0]
   (refine gp [0,3,2,5,4,6] [6] true (by first | rfl | (simp only[go_sem,seval,reduceCtorEq];done)) (by kernel_rfl) (zd rfl) ?_ _ ?_ (hld) ?_ ?_;(focus (simp only[go_sem,seval,reduceCtorEq,cmpT,tens,q0,oz,rz,onil,hc0,zn,or_true,true_or,or_self,if_true];done));(focus (simp only[go_sem,seval,reduceCtorEq,cmpT,tens,q0,oz,rz,onil,hc0,zn,or_true,true_or,or_self,if_true];done));(focus (first | rfl | (simp only[go_sem,seval,reduceCtorEq,cmpT,tens,q0,oz,rz,onil,hc0,zn,or_true,true_or,or_self,if_true];done))))
   simp(disch:=omega) only[go_sem,seval,reduceCtorEq,cmpT,or_true,true_or,or_self,if_true,lZ]
   have hq0:csK N n F 0=cmpZ N n F:=by unfold csK;rw[if_pos hn0,eZ]
   have hl0:laK N n F 0=cmpA N n F:=by unfold laK;rw[if_pos hn0,eA]
   refine aP (n) (mkB 106 19807040628530055601367085056) (fun q=>[(54,.d (.int q)),(11,.d (.int (laK N n F q)))]) (fun q=>[(2,iv (csK N n F q).ct),(4,[.d (.int (csK N n F q).R),.own 6 0 (csK N n F q).ops.length]),(6,opR (csK N n F q).ops)]) (h1:=by first | (simp only[go_sem,seval,reduceCtorEq,nz,na,n1,hq0,hl0];first | done | rfl) | rfl) (h2:=by first | (simp only[go_sem,seval,reduceCtorEq,nz,na,n1,hq0,hl0];first | done | rfl) | rfl) (hr:=fun q hq=> ?_)
   unfold dG
   have hqz:q=0:=by omega
   have hcN:csK N n F q=cmpZ N n F:=by rw[hqz];exact hq0
   have hlN:laK N n F q=cmpA N n F:=by rw[hqz];exact hl0
   have d2:¬ (q:Int)<n:=by omega
   simp(disch:=omega) only[go_sem,seval,reduceCtorEq,d2,n24,hcN,hlN]
   (repeat (refine And.intro (by omega) ?_))
   refine FnEnd.wk (Wk.nilR 6 rfl) ?_
   simp only[go_sem,seval,reduceCtorEq,nilK,List.modify_succ_cons,List.modify_zero_cons,Option.map_some,List.map_append,yS,List.map_cons,List.map_nil,o9,yT,hsn]
   refine FnEnd.wk (Wk.freeze 6 (nb rfl) rfl r8 rfl rfl) ?_
   simp only[go_sem,seval,reduceCtorEq,f3,oT]
   (refine zE ?_ ?_<;>try simp only[go_sem,seval,reduceCtorEq])
  ·have c0:((n:Int)==0)=false:=by rw[beq_eq_false_iff_ne];omega
   simp(disch:=omega) only[go_sem,seval,reduceCtorEq,c0]
   have hq0:csK N n F 0=cmpS N n F 0:=by unfold csK;rw[if_neg hn0]
   have hl0:laK N n F 0=0:=by unfold laK;rw[if_neg hn0,if_pos rfl]
   have q0:((0:Nat):Int)=0:=rfl
   refine aP (n) (mkB 106 19807040628530055601367085056) (fun q=>[(54,.d (.int q)),(11,.d (.int (laK N n F q)))]) (fun q=>[(2,iv (csK N n F q).ct),(4,[.d (.int (csK N n F q).R),.own 6 0 (csK N n F q).ops.length]),(6,opR (csK N n F q).ops)]) (h1:=by first | (simp only[go_sem,seval,reduceCtorEq,nz,na,n1,hq0,hl0,oz,rz,onil,q0,zn];first | done | rfl) | rfl) (h2:=by first | (simp only[go_sem,seval,reduceCtorEq,nz,na,n1,hq0,hl0,oz,rz,onil,q0,zn];first | done | rfl) | rfl) (hr:=fun q hq=> ?_)
   unfold dG
   by_cases hlq:q<n
   ·have d2:(q:Int)<n:=by omega
    have ca:=L8 hN hok hw hlq
    rw[hWd]at ca
    have hs:=dN hok hlq
    have g:=uN hF hlq
    rw[hs.a,hs.b]at g
    have hSL:=StepLabels_d hN hok hF hlq
    have eC:csK N n F q=cmpS N n F q:=by unfold csK;rw[if_neg hn0]
    have eC1:csK N n F (q+1)=dq (aq N.ts.length (aq N.ts.length (cmpS N n F q) (stA F q)) (stB F q)) (N.ts.length+q) (cN N.ts.length (cmpS N n F q) (stA F q)) (cN N.ts.length (aq N.ts.length (cmpS N n F q) (stA F q)) (stB F q)) ((ordS N F (q+1)).lab (N.ts.length+q)):=by unfold csK;rw[if_neg hn0];rfl
    have eL1:laK N n F (q+1)=lowE (aq N.ts.length (aq N.ts.length (cmpS N n F q) (stA F q)) (stB F q)).ct:=by unfold laK;rw[if_neg hn0,if_neg (by omega)];rfl
    have hvA:stA F q≤1000∧stB F q≤1000:=by
     have h2:=((bF hok (show q≤n by omega)).1 hs.ma).1
     have h3:=((bF hok (show q≤n by omega)).1 hs.mb).1
     omega
    have hol:(cmpS N n F q).ops.length≤500:=by
     have:=BP hok q (by omega)
     omega
    have ol1:=ol N.ts.length (cmpS N n F q) (stA F q)
    have ol2:=ol N.ts.length (aq N.ts.length (cmpS N n F q) (stA F q)) (stB F q)
    have i1:(if N.ts.length≤stA F q then 0 else 1)≤1:=by split<;>omega
    have i2:(if N.ts.length≤stB F q then 0 else 1)≤1:=by split<;>omega
    obtain⟨l0,l1,l2,pa,pb,lo,ra,rb,r0,r1,r2⟩:=ca
    have hA:=BO (N:=N) (s:=cmpS N n F q) (v:=stA F q) (by omega) (by omega) (by omega) (by omega) (by omega) (by rw[l0];exact pa)
    have hB:=BO (N:=N) (s:=aq N.ts.length (cmpS N n F q) (stA F q)) (v:=stB F q) (by omega) (by omega) (by omega) (by omega) (by omega) (by rw[l1];exact pb)
    have hP:=Jt (ct:=(aq N.ts.length (aq N.ts.length (cmpS N n F q) (stA F q)) (stB F q)).ct) (R:=(aq N.ts.length (aq N.ts.length (cmpS N n F q) (stA F q)) (stB F q)).R) (v:=((N.ts.length+q:Nat):Int)) (n:=(aq N.ts.length (aq N.ts.length (cmpS N n F q) (stA F q)) (stB F q)).ops.length) (ops:=(aq N.ts.length (aq N.ts.length (cmpS N n F q) (stA F q)) (stB F q)).ops) (by omega) (by omega) (by omega)
    generalize (ordS N F (q+1)).lab (N.ts.length+q)=L at*
    generalize cN N.ts.length (aq N.ts.length (cmpS N n F q) (stA F q)) (stB F q)=b at*
    generalize aq N.ts.length (aq N.ts.length (cmpS N n F q) (stA F q)) (stB F q)=s2 at*
    generalize cN N.ts.length (cmpS N n F q) (stA F q)=a at*
    generalize aq N.ts.length (cmpS N n F q) (stA F q)=s1 at*
    rw[eC]
    generalize cmpS N n F q=s at*
    have wq:(N.ts.length:Int)+q=((N.ts.length+q:Nat):Int):=by omega
    simp(disch:=omega) only[go_sem,seval,reduceCtorEq,d2,g,zI]
    (repeat (refine And.intro (by omega) ?_))
    (refine gp [0,3,2,5,4,6] [6] true (by first | rfl | (simp only[go_sem,seval,reduceCtorEq];done)) (by kernel_rfl) (zd rfl) ?_ _ ?_ (hA) ?_ ?_;(focus (simp only[go_sem,seval,reduceCtorEq,cmpT,tens,l0,or_true,true_or,or_self,if_true];done));(focus (simp only[go_sem,seval,reduceCtorEq,cmpT,tens,l0,or_true,true_or,or_self,if_true];done));(focus (first | rfl | (simp only[go_sem,seval,reduceCtorEq,cmpT,tens,l0,or_true,true_or,or_self,if_true];done))))
    simp(disch:=omega) only[go_sem,seval,reduceCtorEq,cmpT,or_true,true_or,or_self,if_true,l1]
    (repeat (refine And.intro (by omega) ?_))
    (refine gp [0,3,2,5,4,6] [6] true (by first | rfl | (simp only[go_sem,seval,reduceCtorEq];done)) (by kernel_rfl) (zd rfl) ?_ _ ?_ (hB) ?_ ?_;(focus (simp only[go_sem,seval,reduceCtorEq,cmpT,tens,l1,or_true,true_or,or_self,if_true];done));(focus (simp only[go_sem,seval,reduceCtorEq,cmpT,tens,l1,or_true,true_or,or_self,if_true];done));(focus (first | rfl | (simp only[go_sem,seval,reduceCtorEq,cmpT,tens,l1,or_true,true_or,or_self,if_true];done))))
    simp(disch:=omega) only[go_sem,seval,reduceCtorEq,cmpT,or_true,true_or,or_self,if_true,l2,wq,tens]
    (repeat (refine And.intro (by omega) ?_))
    (refine gp [3,2,4,6] [6] true (by first | rfl | (simp only[go_sem,seval,reduceCtorEq];done)) (by kernel_rfl) (zd rfl) ?_ _ ?_ (hP) ?_ ?_;(focus (simp only[go_sem,seval,reduceCtorEq,l2,or_true,true_or,or_self,if_true];done));(focus (simp only[go_sem,seval,reduceCtorEq,l2,or_true,true_or,or_self,if_true];done));(focus (first | rfl | (simp only[go_sem,seval,reduceCtorEq,l2,or_true,true_or,or_self,if_true];done))))
    simp(disch:=omega) only[go_sem,seval,reduceCtorEq,or_true,true_or,or_self,if_true,l2,tens]
    (repeat (refine And.intro (by omega) ?_))
    (refine cE (hSL) ?_ ?_ ?_;(focus (simp only[go_sem,seval,reduceCtorEq,netA,stp,tens];done));(first | rfl | (focus (simp only[go_sem];done))))
    have hp1:=putG (xs:=s2.ct.set (lowE s2.ct) ((N.ts.length+q:Nat):Int)) (i:=a) (v:= -1) (by rw[List.length_set];omega)
    have hp2:=putG (xs:=(s2.ct.set (lowE s2.ct) ((N.ts.length+q:Nat):Int)).set a (-1)) (i:=b) (v:= -1) (by rw[List.length_set,List.length_set];omega)
    have hs2:opR s2.ops++[.d (.int 2),.d (.int (lowE s2.ct)),.d (.int a),.d (.int b),.d (.sl L.length (dv L))]=opR (s2.ops++[⟨2,lowE s2.ct,a,b,L⟩]):=vG (l:=s2.ops) ⟨2,lowE s2.ct,a,b,L⟩
    have g1:(dq s2 (N.ts.length+q) a b L).ct=((s2.ct.set (lowE s2.ct) ((N.ts.length+q:Nat):Int)).set a (-1)).set b (-1):=rfl
    have g2:((dq s2 (N.ts.length+q) a b L).R:Int)=max (s2.R:Int) (lowE s2.ct+1):=by show ((max s2.R (lowE s2.ct+1):Nat):Int)=_;omega
    have g3:(dq s2 (N.ts.length+q) a b L).ops=s2.ops++[⟨2,lowE s2.ct,a,b,L⟩]:=rfl
    have g4:(s2.ops++[(⟨2,lowE s2.ct,a,b,L⟩:Opn)]).length=s2.ops.length+1:=by simp
    simp(disch:=omega) only[go_sem,seval,reduceCtorEq,hp1,hp2,hs2,List.length_set]
    (repeat (refine And.intro (by omega) ?_))
    (refine Next.drop (mkB 106 19807040628530055601367085056) (by omega) (h1:= ?_) (h2:= ?_)<;>first | (simp only[go_sem,seval,reduceCtorEq,nz,na,n1,eC1,eL1,g1,g2,g3,g4];first | done | rfl) | rfl | skip)
   ·have hqn:q=n:=by omega
    have hcN:csK N n F q=cmpZ N n F:=by rw[hqn];unfold csK cmpZ;rw[if_neg hn0]
    have hlN:laK N n F q=cmpA N n F:=by rw[hqn];unfold laK cmpA;rw[if_neg hn0,if_neg hn0,if_neg hn0]
    have d2:¬ (q:Int)<n:=by omega
    simp(disch:=omega) only[go_sem,seval,reduceCtorEq,d2,n24,hcN,hlN]
    (repeat (refine And.intro (by omega) ?_))
    refine FnEnd.wk (Wk.nilR 6 rfl) ?_
    simp only[go_sem,seval,reduceCtorEq,nilK,List.modify_succ_cons,List.modify_zero_cons,Option.map_some,List.map_append,yS,List.map_cons,List.map_nil,o9,yT,hsn]
    refine FnEnd.wk (Wk.freeze 6 (nb rfl) rfl r8 rfl rfl) ?_
    simp only[go_sem,seval,reduceCtorEq,f3,oT]
    (refine zE ?_ ?_<;>try simp only[go_sem,seval,reduceCtorEq])
end Go.Proofs.YtjfmckhbmdjnpaaGreat
