/-
 Contracts: elements drawn. No condition.
-/
import Derived.Test.YtneocijmbnhblaaGreatGenA
import Derived.Test.YtneocijmbnhblaaGreatConK
set_option linter.unusedSimpArgs false
set_option linter.unusedVariables false
namespace Go.Proofs.YtneocijmbnhblaaGreat
open Go.RowKit Go.Lift Plain
set_option maxRecDepth 100000
def oneE (r:Rg) (wd:Nat):List Int:=(List.replicate wd 0).set 0 (if r.k=5∨r.k=6 then top r else if r.k=4 then 0 else 1)
theorem dF (r:Rg) (wd:Nat):(oneE r wd).length=wd:=by simp [oneE]
theorem fF {wd:Nat} (h:1≤wd) (x:Int):AV.d (.int x) :: iv (List.drop 1 (List.replicate wd 0))=iv ((List.replicate wd 0).set 0 x):=by
 obtain⟨n,rfl⟩:∃ n,wd=n+1:=⟨wd-1,by omega⟩
 simp [iv,List.replicate_succ]
theorem s8 {kk pp nn:Int} {wd:Nat} (hr:aq ⟨kk,pp,nn⟩=true) (hw:ar ⟨kk,pp,nn⟩=wd) (h1:1≤wd∧wd≤6):Does Tryz.prog 111 [bn kk pp nn] [] (.own 0 0 wd) [some ⟨1,true,iv (oneE ⟨kk,pp,nn⟩ wd)⟩]:=by
 have hlr:(List.replicate wd (0:Int)).length=wd:=List.length_replicate
 (refine spec_of (by kernel_rfl) Tryz.func111 ri (fnOk (nb rfl) ?_);unfold C_spec_l02One)
 (simp only[Nat.reduceSub,List.length_cons,List.length_nil,Nat.reduceAdd,am,al,aj,ai,ah,af,ae,ac];try simp only[au]);(simp only[go_sem,seval,reduceCtorEq,List.replicate])
 (refine aa (fj kk pp nn) ?_ ?_ ?_;(focus (simp only[go_sem,seval,reduceCtorEq,hw];done));(first | rfl | (focus (simp only[go_sem];done))))
 simp(disch:=omega) only[go_sem,seval,reduceCtorEq,hw]
 refine And.intro ⟨by omega,by omega⟩ ?_
 by_cases h5:kk=5
 ·have c:(kk==5)=true:=by simp [h5]
  have e:oneE ⟨kk,pp,nn⟩ wd=(List.replicate wd 0).set 0 (top ⟨kk,pp,nn⟩):=by unfold oneE;rw[if_pos (.inl h5)]
  have e2:=fF h1.1 (top ⟨kk,pp,nn⟩)
  simp(disch:=omega) only[go_sem,seval,reduceCtorEq,c]
  (refine aa (jQ kk pp nn hr) ?_ ?_ ?_;(focus (simp only[go_sem,seval,reduceCtorEq];done));(first | rfl | (focus (simp only[go_sem];done))))
  simp(disch:=omega) only[go_sem,seval,reduceCtorEq]
  refine⟨by omega,by rw[hlr];omega, ?_⟩
  rw[e2, ← e]
  (refine FnEnd.mk (nb rfl) rfl (of_decide_eq_true rfl) ?_ ?_<;>try simp only[go_sem,seval,reduceCtorEq])
 have c5:(kk==5)=false:=by simp [h5]
 by_cases h6:kk=6
 ·have c:(kk==6)=true:=by simp [h6]
  have e:oneE ⟨kk,pp,nn⟩ wd=(List.replicate wd 0).set 0 (top ⟨kk,pp,nn⟩):=by unfold oneE;rw[if_pos (.inr h6)]
  have e2:=fF h1.1 (top ⟨kk,pp,nn⟩)
  simp(disch:=omega) only[go_sem,seval,reduceCtorEq,c5,c]
  (refine aa (jQ kk pp nn hr) ?_ ?_ ?_;(focus (simp only[go_sem,seval,reduceCtorEq];done));(first | rfl | (focus (simp only[go_sem];done))))
  simp(disch:=omega) only[go_sem,seval,reduceCtorEq]
  refine⟨by omega,by rw[hlr];omega, ?_⟩
  rw[e2, ← e]
  (refine FnEnd.mk (nb rfl) rfl (of_decide_eq_true rfl) ?_ ?_<;>try simp only[go_sem,seval,reduceCtorEq])
 have c6:(kk==6)=false:=by simp [h6]
 by_cases h4:kk=4
 ·have c:(kk==4)=true:=by simp [h4]
  have e:oneE ⟨kk,pp,nn⟩ wd=(List.replicate wd 0).set 0 0:=by unfold oneE;rw[if_neg (fun h=>h.elim h5 h6),if_pos h4]
  have e2:=fF h1.1 0
  simp(disch:=omega) only[go_sem,seval,reduceCtorEq,c5,c6,c]
  refine⟨by omega,by rw[hlr];omega, ?_⟩
  rw[e2, ← e]
  (refine FnEnd.mk (nb rfl) rfl (of_decide_eq_true rfl) ?_ ?_<;>try simp only[go_sem,seval,reduceCtorEq])
 ·have c:(kk==4)=false:=by simp [h4]
  have e:oneE ⟨kk,pp,nn⟩ wd=(List.replicate wd 0).set 0 1:=by unfold oneE;rw[if_neg (fun h=>h.elim h5 h6),if_neg h4]
  have e2:=fF h1.1 1
  simp(disch:=omega) only[go_sem,seval,reduceCtorEq,c5,c6,c]
  refine⟨by omega,by rw[hlr];omega, ?_⟩
  rw[e2, ← e]
  (refine FnEnd.mk (nb rfl) rfl (of_decide_eq_true rfl) ?_ ?_<;>try simp only[go_sem,seval,reduceCtorEq])
def gEl (b:List Int) (T:Int) (wd:Nat) (c:Cur):Nat→Cur × List Int
 | 0=>(c,List.replicate wd 0)
 | k+1=>((gT b 12 (aD b (min 256 (T+1)) (gEl b T wd c k).1).2).2,
   (gEl b T wd c k).2.set k (if (gT b 12 (aD b (min 256 (T+1)) (gEl b T wd c k).1).2).1=true then T else (aD b (min 256 (T+1)) (gEl b T wd c k).1).1))
theorem tz (b:List Int) (T:Int) (wd:Nat) (c:Cur):∀ k,(gEl b T wd c k).2.length=wd
 | 0=>by simp [gEl]
 | k+1=>by simp only[gEl,List.length_set];exact tz b T wd c k
theorem wv {b:List Int} {T:Int} {wd:Nat} {c:Cur} (h:c.i≤b.length):∀ k,(gEl b T wd c k).1.i≤b.length
 | 0=>h
 | k+1=>vj (n:=12) (cX (n:=min 256 (T+1)) (wv h k))
def fL (b:List Int) (r:Rg) (wd:Nat) (c:Cur):Cur × List Int:=
 if (aD b 6 c).1=0 then ((aD b 6 c).2,aJ r.k r.p wd) else if (aD b 6 c).1=1 then ((aD b 6 c).2,oneE r wd) else gEl b (top r) wd (aD b 6 c).2 wd
theorem AR {b:List Int} {r:Rg} {wd:Nat} {c:Cur} (h:c.i≤b.length):(fL b r wd c).1.i≤b.length:=by
 unfold fL
 split
 ·exact cX (n:=6) h
 ·split
  ·exact cX (n:=6) h
  ·exact wv (cX (n:=6) h) _
theorem nT {b:List Int} {r:Rg} {wd:Nat} {c:Cur}:(fL b r wd c).2.length=wd:=by
 unfold fL
 split
 ·exact bO _ _ _
 ·split
  ·exact dF _ _
  ·exact tz _ _ _ _ _
set_option maxHeartbeats 800000 in
theorem s9 {b:List Int} (hb:CodeOk b) {c:Cur} (hi:c.i≤b.length) {kk pp nn:Int} {wd:Nat} (hr:aq ⟨kk,pp,nn⟩=true) (hw:ar ⟨kk,pp,nn⟩=wd) (h1:1≤wd∧wd≤6):
  Does Tryz.prog 79 [.ptr 0 0,bn kk pp nn] [curS b c] (.own 1 0 wd) [curS b (fL b ⟨kk,pp,nn⟩ wd c).1,some ⟨1,true,iv (fL b ⟨kk,pp,nn⟩ wd c).2⟩]:=by
 have h0:=fM hb hi (n:=6) (by omega)
 have hr0:=cF (b:=b) (n:=6) (by omega) c
 have hc0:=cX (n:=6) hi
 have ht:=dP hr
 have hg:fL b ⟨kk,pp,nn⟩ wd c=if (aD b 6 c).1=0 then ((aD b 6 c).2,aJ kk pp wd) else if (aD b 6 c).1=1 then ((aD b 6 c).2,oneE ⟨kk,pp,nn⟩ wd) else gEl b (top ⟨kk,pp,nn⟩) wd (aD b 6 c).2 wd:=rfl
 rw[hg]
 generalize aD b 6 c=T0 at h0 hr0 hc0
 obtain⟨x,c0⟩:=T0
 simp only at h0 hr0 hc0 ⊢
 (refine spec_of (by kernel_rfl) Tryz.func79 qo (fnOk (nb rfl) ?_);unfold C_spec_l02Draw)
 unfold curS curR curC at h0 ⊢
 (simp only[Nat.reduceSub,List.length_cons,List.length_nil,Nat.reduceAdd,am,al,aj,ai,ah,af,ae,ac];try simp only[au]);(simp only[go_sem,seval,reduceCtorEq,List.replicate])
 (refine aB [0] [] false (of_decide_eq_true rfl) ?_ _ ?_ (h0) ?_ ?_;(focus (simp only[go_sem,seval,reduceCtorEq];done));(focus (simp only[go_sem,seval,reduceCtorEq];done));(focus (first | rfl | (simp only[go_sem,seval,reduceCtorEq];done))))
 simp(disch:=omega) only[go_sem,seval,reduceCtorEq]
 by_cases hx0:x=0
 ·have d:(x==0)=true:=by simp [hx0]
  simp only[if_pos hx0]
  simp(disch:=omega) only[go_sem,seval,reduceCtorEq,d]
  (refine aa (s7 (kk:=kk) (pp:=pp) (nn:=nn) hw h1) ?_ ?_ ?_;(focus (simp only[go_sem,seval,reduceCtorEq];done));(first | rfl | (focus (simp only[go_sem];done))))
  simp(disch:=omega) only[go_sem,seval,reduceCtorEq]
  (refine FnEnd.mk (nb rfl) rfl (of_decide_eq_true rfl) ?_ ?_<;>try simp only[go_sem,seval,reduceCtorEq])
 have d0:(x==0)=false:=by simp [hx0]
 by_cases hx1:x=1
 ·have d:(x==1)=true:=by simp [hx1]
  simp only[if_neg hx0,if_pos hx1]
  simp(disch:=omega) only[go_sem,seval,reduceCtorEq,d0,d]
  (refine aa (s8 (kk:=kk) (pp:=pp) (nn:=nn) hr hw h1) ?_ ?_ ?_;(focus (simp only[go_sem,seval,reduceCtorEq];done));(first | rfl | (focus (simp only[go_sem];done))))
  simp(disch:=omega) only[go_sem,seval,reduceCtorEq]
  (refine FnEnd.mk (nb rfl) rfl (of_decide_eq_true rfl) ?_ ?_<;>try simp only[go_sem,seval,reduceCtorEq])
 have d1:(x==1)=false:=by simp [hx1]
 simp only[if_neg hx0,if_neg hx1]
 simp(disch:=omega) only[go_sem,seval,reduceCtorEq,d0,d1]
 (refine aa (fj kk pp nn) ?_ ?_ ?_;(focus (simp only[go_sem,seval,reduceCtorEq,hw];done));(first | rfl | (focus (simp only[go_sem];done))))
 simp(disch:=omega) only[go_sem,seval,reduceCtorEq,hw]
 refine And.intro ⟨by omega,by omega⟩ ?_
 have e0:gEl b (top ⟨kk,pp,nn⟩) wd c0 0=(c0,List.replicate wd 0):=rfl
 refine aZ (wd) (mkB 43 4398038122560) (fun k=>[(22,.d (.int k))]) (fun k=>[(0,curC b (gEl b (top ⟨kk,pp,nn⟩) wd c0 k).1.i (gEl b (top ⟨kk,pp,nn⟩) wd c0 k).1.h),(2,iv (gEl b (top ⟨kk,pp,nn⟩) wd c0 k).2)]) (h1:=by first | (simp only[go_sem,seval,reduceCtorEq,nz,na,n1,e0,curC];first | done | rfl) | rfl) (h2:=by first | (simp only[go_sem,seval,reduceCtorEq,nz,na,n1,e0,curC];first | done | rfl) | rfl) (hr:=fun k hk=> ?_)
 unfold L0_spec_l02Draw
 by_cases hlt:k<wd
 ·have q1:(k:Int)<wd:=by omega
  have hs:gEl b (top ⟨kk,pp,nn⟩) wd c0 (k+1)=((gT b 12 (aD b (min 256 (top ⟨kk,pp,nn⟩+1)) (gEl b (top ⟨kk,pp,nn⟩) wd c0 k).1).2).2,
   (gEl b (top ⟨kk,pp,nn⟩) wd c0 k).2.set k (if (gT b 12 (aD b (min 256 (top ⟨kk,pp,nn⟩+1)) (gEl b (top ⟨kk,pp,nn⟩) wd c0 k).1).2).1=true then top ⟨kk,pp,nn⟩ else (aD b (min 256 (top ⟨kk,pp,nn⟩+1)) (gEl b (top ⟨kk,pp,nn⟩) wd c0 k).1).1)):=rfl
  have hl:=tz b (top ⟨kk,pp,nn⟩) wd c0 k
  have hck:=wv (T:=top ⟨kk,pp,nn⟩) (wd:=wd) hc0 k
  generalize gEl b (top ⟨kk,pp,nn⟩) wd c0 k=S at hs hl hck
  obtain⟨c1,L⟩:=S
  simp only at hl hck hs
  have hd1:=fM hb hck (n:=min 256 (top ⟨kk,pp,nn⟩+1)) (by omega)
  have hk1:=cX (n:=min 256 (top ⟨kk,pp,nn⟩+1)) hck
  generalize aD b (min 256 (top ⟨kk,pp,nn⟩+1)) c1=T at hd1 hk1 hs
  obtain⟨y,c2⟩:=T
  simp only at hd1 hk1 hs
  have hd2:=xr hb hk1 (n:=12) (by omega)
  generalize gT b 12 c2=U at hd2 hs
  obtain⟨o,c3⟩:=U
  simp only at hd2 hs
  have e1:(gEl b (top ⟨kk,pp,nn⟩) wd c0 (k+1)).1=c3:=by rw[hs]
  have hk:k<L.length:=by omega
  have p1:=cI (xs:=L) (x:=y) hk
  unfold curS curR curC at hd1 hd2
  simp(disch:=omega) only[go_sem,seval,reduceCtorEq,q1,curC]
  (refine aa (jQ kk pp nn hr) ?_ ?_ ?_;(focus (simp only[go_sem,seval,reduceCtorEq];done));(first | rfl | (focus (simp only[go_sem];done))))
  simp(disch:=omega) only[go_sem,seval,reduceCtorEq]
  (refine aB [0] [] false (of_decide_eq_true rfl) ?_ _ ?_ (hd1) ?_ ?_;(focus (simp only[go_sem,seval,reduceCtorEq];done));(focus (simp only[go_sem,seval,reduceCtorEq];done));(focus (first | rfl | (simp only[go_sem,seval,reduceCtorEq];done))))
  simp(disch:=omega) only[go_sem,seval,reduceCtorEq,p1,hl]
  (repeat (refine And.intro (by omega) ?_))
  (refine aB [0] [] false (of_decide_eq_true rfl) ?_ _ ?_ (hd2) ?_ ?_;(focus (simp only[go_sem,seval,reduceCtorEq];done));(focus (simp only[go_sem,seval,reduceCtorEq];done));(focus (first | rfl | (simp only[go_sem,seval,reduceCtorEq];done))))
  have hl2:(L.set k y).length=wd:=by rw[List.length_set];exact hl
  have p2:=cI (xs:=L.set k y) (x:=top ⟨kk,pp,nn⟩) (n:=k) (by omega)
  have ss:(L.set k y).set k (top ⟨kk,pp,nn⟩)=L.set k (top ⟨kk,pp,nn⟩):=by simp
  cases o with
  | true=>
   have e2:(gEl b (top ⟨kk,pp,nn⟩) wd c0 (k+1)).2=L.set k (top ⟨kk,pp,nn⟩):=by rw[hs];rfl
   simp(disch:=omega) only[go_sem,seval,reduceCtorEq]
   (refine aa (jQ kk pp nn hr) ?_ ?_ ?_;(focus (simp only[go_sem,seval,reduceCtorEq];done));(first | rfl | (focus (simp only[go_sem];done))))
   simp(disch:=omega) only[go_sem,seval,reduceCtorEq,p2,ss,hl2]
   (repeat (refine And.intro (by omega) ?_))
   (refine Next.drop (mkB 43 4398038122560) (by omega) (h1:= ?_) (h2:= ?_)<;>first | (simp only[go_sem,seval,reduceCtorEq,nz,na,n1,e1,e2,curC];first | done | rfl) | rfl | skip)
  | false=>
   have e2:(gEl b (top ⟨kk,pp,nn⟩) wd c0 (k+1)).2=L.set k y:=by rw[hs];rfl
   simp(disch:=omega) only[go_sem,seval,reduceCtorEq]
   (refine Next.drop (mkB 43 4398038122560) (by omega) (h1:= ?_) (h2:= ?_)<;>first | (simp only[go_sem,seval,reduceCtorEq,nz,na,n1,e1,e2,curC];first | done | rfl) | rfl | skip)
 ·have q1:¬ (k:Int)<wd:=by omega
  have hk:k=wd:=by omega
  subst hk
  simp(disch:=omega) only[go_sem,seval,reduceCtorEq,q1,curC]
  (refine FnEnd.mk (nb rfl) rfl (of_decide_eq_true rfl) ?_ ?_<;>try simp only[go_sem,seval,reduceCtorEq])
end Go.Proofs.YtneocijmbnhblaaGreat
