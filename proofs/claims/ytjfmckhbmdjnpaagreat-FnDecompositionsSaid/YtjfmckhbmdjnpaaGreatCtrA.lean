/-
 Contracts: sums over labels, what is left of a network. No condition.
-/
import Derived.Test.YtjfmckhbmdjnpaaGreatMgDecompositionsA
import Derived.Test.YtjfmckhbmdjnpaaGreatConW
import Derived.Test.YtjfmckhbmdjnpaaGreatStkA
import Derived.Test.YtjfmckhbmdjnpaaGreatSemK
set_option linter.unusedSimpArgs false
set_option linter.unusedVariables false
namespace Go.Proofs.YtjfmckhbmdjnpaaGreat
open Go.RowKit Go.Lift Plain
set_option maxRecDepth 100000
theorem Fe {P:Program} {f:FuncId} {args:List AV} {t:Ten} {g0 g1 g2:Bool} (h:Does P f args [] (ownT 0 t) [some ⟨1,g0,iv t.labels⟩,some ⟨1,g1,iv t.dims⟩,some ⟨1,g2,iv t.data⟩]):Does P f args [] (tenA t) []:=by
 have tk:∀ xs:List Int,List.take xs.length (dv xs)=dv xs:=fun xs=>zt (by rw[uU];exact Nat.le_refl _)
 have h1:Wk 0 [ownT 0 t] [some ⟨1,g0,iv t.labels⟩,some ⟨1,g1,iv t.dims⟩,some ⟨1,g2,iv t.data⟩] [tenA t] [none,none,none]:=by
  refine(Wk.freeze 0 (R:=⟨1,g0,iv t.labels⟩) (ls:=dv t.labels) (Nat.le_refl _) rfl cJ (e':=[.agg [.d (ints t.labels),.own 1 0 t.dims.length,.own 2 0 t.data.length]]) (σ':=[none,some ⟨1,g1,iv t.dims⟩,some ⟨1,g2,iv t.data⟩]) ?_ ?_).trans ?_
  ·simp [mapL,mapA,fzG,ownT,ints,tk]
  ·simp [frz,wC,fzG]
  refine(Wk.freeze 1 (R:=⟨1,g1,iv t.dims⟩) (ls:=dv t.dims) (Nat.zero_le _) rfl cJ (e':=[.agg [.d (ints t.labels),.d (ints t.dims),.own 2 0 t.data.length]]) (σ':=[none,none,some ⟨1,g2,iv t.data⟩]) ?_ ?_).trans ?_
  ·simp [mapL,mapA,fzG,ints,tk]
  ·simp [frz,wC,fzG]
  refine Wk.freeze 2 (R:=⟨1,g2,iv t.data⟩) (ls:=dv t.data) (Nat.zero_le _) rfl cJ ?_ ?_
  ·simp [mapL,mapA,fzG,ints,tk,tenA]
  ·simp [frz,wC,fzG]
 have h2:=h.wk0 h1
 have:at_ [none,none,none]=at_ []:=by
  funext k
  match k with
  | 0=>rfl
  | 1=>rfl
  | 2=>rfl
  | k+3=>simp [at_]
 unfold Does at*
 rw[this]at h2
 exact h2
theorem C8 {kk pp nn:Int} {wd:Nat} (hr:ae ⟨kk,pp,nn⟩=true) (hw:ah ⟨kk,pp,nn⟩=wd) (h1:1≤wd∧wd≤6):Does Tryz.prog 109 [bm kk pp nn] [] (.own 0 0 wd) [some ⟨1,true,iv (oneE ⟨kk,pp,nn⟩ wd)⟩]:=by
 have hlr:(List.replicate wd (0:Int)).length=wd:=List.length_replicate
 (refine spec_of (by kernel_rfl) Tryz.func109 vF (fnOk (nb rfl) ?_);unfold p8)
 (simp only[Nat.reduceSub,Zl,zn,Nat.reduceAdd,zF];try simp only[af]);(simp only[go_sem,seval,reduceCtorEq,List.replicate])
 (refine aV (eX kk pp nn) ?_ ?_ ?_;(focus (simp only[go_sem,seval,reduceCtorEq,hw];done));(first | rfl | (focus (simp only[go_sem];done))))
 simp(disch:=omega) only[go_sem,seval,reduceCtorEq,hw]
 refine And.intro ⟨by omega,by omega⟩ ?_
 by_cases h4:kk=4
 ·have c:(kk==4)=true:=by simp [h4]
  have e:oneE ⟨kk,pp,nn⟩ wd=(List.replicate wd 0).set 0 0:=by unfold oneE;rw[if_neg (by simp only;omega),if_pos h4]
  have e2:=fD h1.1 0
  simp(disch:=omega) only[go_sem,seval,reduceCtorEq,c]
  refine⟨by omega,by rw[hlr];omega, ?_⟩
  rw[e2, ← e]
  (refine zE ?_ ?_<;>try simp only[go_sem,seval,reduceCtorEq])
 have c4:(kk==4)=false:=by simp [h4]
 by_cases h5:kk=5
 ·have c:(kk==5)=true:=by simp [h5]
  have ht:top ⟨kk,pp,nn⟩=pp:=by simp [top,h5]
  have e:oneE ⟨kk,pp,nn⟩ wd=(List.replicate wd 0).set 0 pp:=by unfold oneE;rw[if_pos (.inl h5),ht]
  have e2:=fD h1.1 pp
  simp(disch:=omega) only[go_sem,seval,reduceCtorEq,c4,c]
  refine⟨by omega,by rw[hlr];omega, ?_⟩
  rw[e2, ← e]
  (refine zE ?_ ?_<;>try simp only[go_sem,seval,reduceCtorEq])
 have c5:(kk==5)=false:=by simp [h5]
 by_cases h6:kk=6
 ·have c:(kk==6)=true:=by simp [h6]
  have e:oneE ⟨kk,pp,nn⟩ wd=(List.replicate wd 0).set 0 (top ⟨kk,pp,nn⟩):=by unfold oneE;rw[if_pos (.inr h6)]
  have e2:=fD h1.1 (top ⟨kk,pp,nn⟩)
  simp(disch:=omega) only[go_sem,seval,reduceCtorEq,c4,c5,c]
  (refine zC (yv kk pp nn hr) ?_)
  simp(disch:=omega) only[go_sem,seval,reduceCtorEq]
  refine⟨by omega,by rw[hlr];omega, ?_⟩
  rw[e2, ← e]
  (refine zE ?_ ?_<;>try simp only[go_sem,seval,reduceCtorEq])
 have c6:(kk==6)=false:=by simp [h6]
 have e:oneE ⟨kk,pp,nn⟩ wd=(List.replicate wd 0).set 0 1:=by unfold oneE;rw[if_neg (fun h=>h.elim h5 h6),if_neg h4]
 have e2:=fD h1.1 1
 simp(disch:=omega) only[go_sem,seval,reduceCtorEq,c4,c5,c6]
 refine⟨by omega,by rw[hlr];omega, ?_⟩
 rw[e2, ← e]
 (refine zE ?_ ?_<;>try simp only[go_sem,seval,reduceCtorEq])
theorem s9 {kk pp nn:Int} {wd:Nat} (hr:ae ⟨kk,pp,nn⟩=true) (hw:ah ⟨kk,pp,nn⟩=wd) (h1:1≤wd∧wd≤6):Does Tryz.prog 62 [bm kk pp nn] [] (tenA (Sem.bB ⟨kk,pp,nn⟩ wd)) []:=by
 have hol:=fE ⟨kk,pp,nn⟩ wd
 refine Fe (g0:=true) (g1:=true) (g2:=true) ?_
 unfold Sem.bB
 simp only[ownT,hol]
 (refine spec_of (by kernel_rfl) Tryz.func62 ru (fnOk (nb rfl) ?_);unfold l3)
 (simp only[Nat.reduceSub,Zl,zn,Nat.reduceAdd,zF];try simp only[af]);(simp only[go_sem,seval,reduceCtorEq,List.replicate])
 (refine zC (C8 hr hw h1) ?_)
 simp(disch:=omega) only[go_sem,seval,reduceCtorEq]
 refine FnEnd.wk (Wk.trans (Wk.nilS 1 0 1 _ _ _ rfl rfl) (Wk.nilS 1 1 1 _ _ _ rfl rfl)) ?_
 (refine zE ?_ ?_<;>try simp only[go_sem,seval,reduceCtorEq])
theorem Jo {kk pp nn:Int} {a b:Ten} {keep:List Int} {wd:Nat} (hr:ae ⟨kk,pp,nn⟩=true) (hw:ah ⟨kk,pp,nn⟩=wd) (ha:TSz 1048576 a) (hb:TSz 1048576 b) (hk:Sz 1048576 keep) (hc:conB ⟨kk,pp,nn⟩ a b keep=true):
  Does Tryz.prog 32 [bm kk pp nn,tenA a,tenA b,.d (ints keep)] [] (.tup [ownT 0 (conR ⟨kk,pp,nn⟩ wd a b keep),.d (.bool true)]) (stoF (conR ⟨kk,pp,nn⟩ wd a b keep)):=by
 obtain⟨k1,k2,k3⟩:=tR hr
 have h:=sS k1 k2 k3 ha hb hk
 have e:conT ⟨kk,pp,nn⟩ a b keep=conR ⟨kk,pp,nn⟩ wd a b keep:=by
  unfold conT
  rw[hc,hw]
  rfl
 rw[e,hc]at h
 exact h
theorem Fp {kk pp nn:Int} {a b:Ten} {keep:List Int} {wd:Nat} (hr:ae ⟨kk,pp,nn⟩=true) (hw:ah ⟨kk,pp,nn⟩=wd) (ha:TSz 1048576 a) (hb:TSz 1048576 b) (hk:Sz 1048576 keep) (hc:conB ⟨kk,pp,nn⟩ a b keep=true):
  Does Tryz.prog 32 [bm kk pp nn,tenA a,tenA b,.d (ints keep)] [] (.tup [tenA (conR ⟨kk,pp,nn⟩ wd a b keep),.d (.bool true)]) []:=uX (Jo hr hw ha hb hk hc)
theorem SumLabels_d {kk pp nn:Int} {t:Ten} {keep:List Int} {wd:Nat} (hr:ae ⟨kk,pp,nn⟩=true) (hw:ah ⟨kk,pp,nn⟩=wd) (ht:TSz 1048576 t) (hs:TSz 1048576 (Sem.bB ⟨kk,pp,nn⟩ wd)) (hk:Sz 1048576 keep) (hc:conB ⟨kk,pp,nn⟩ t (Sem.bB ⟨kk,pp,nn⟩ wd) keep=true):
  Does Tryz.prog 64 [bm kk pp nn,tenA t,.d (ints keep)] [] (tenA (conR ⟨kk,pp,nn⟩ wd t (Sem.bB ⟨kk,pp,nn⟩ wd) keep)) []:=by
 obtain⟨k1,k2,k3⟩:=tR hr
 have hok:aD ⟨kk,pp,nn⟩ t.labels t.dims t.data=true:=by
  simp only[conB,Bool.and_eq_true]at hc
  exact hc.1.1.1.1
 have hwb:=wd6 hr hw
 (refine spec_of (by kernel_rfl) Tryz.func64 rA (fnOk (nb rfl) ?_);unfold l7)
 (simp only[Nat.reduceSub,Zl,zn,Nat.reduceAdd,zF];try simp only[af]);(simp only[go_sem,seval,reduceCtorEq,List.replicate])
 (refine zC (eg (t:=t) k1 k2 k3 ht.up) ?_)
 simp only[go_sem,seval,reduceCtorEq,hok]
 (refine zD (s9 hr hw hwb) ?_)
 simp only[go_sem,seval,reduceCtorEq]
 (refine zD (Fp hr hw ht hs hk hc) ?_)
 simp only[go_sem,seval,reduceCtorEq]
 (refine zE ?_ ?_<;>try simp only[go_sem,seval,reduceCtorEq])
end Go.Proofs.YtjfmckhbmdjnpaaGreat
