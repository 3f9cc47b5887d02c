/-
 Contracts: sums of elements, tensors aligned and joined. No condition.
-/
import Derived.Test.YtneocijmbnhblaaGreatMgEnvironmentsA
import Derived.Test.YtneocijmbnhblaaGreatConR
set_option linter.unusedSimpArgs false
set_option linter.unusedVariables false
namespace Go.Proofs.YtneocijmbnhblaaGreat
open Go.RowKit Go.Lift Plain
set_option maxRecDepth 100000
theorem sN {xs ys:List Int} {k:Nat} (h:xs.take k=ys.take k) (hx:k<xs.length) (hy:k<ys.length) (e:xs[k]=ys[k]):xs.take (k+1)=ys.take (k+1):=by
 rw[bm hx,bm hy,h,e]
theorem vu {xs ys:List Int} (h:xs.length≤1048576) (h':ys.length≤1048576):Does Tryz.prog 94 [.d (ints xs),.d (ints ys)] [] (.d (.bool (decide (xs=ys)))) []:=by
 (refine spec_of (by kernel_rfl) Tryz.func94 nM (fnOk (nb rfl) ?_);unfold C_impl_equalInts)
 (simp only[Nat.reduceSub,List.length_cons,List.length_nil,Nat.reduceAdd,am,al,aj,ai,ah,af,ae,ac];try simp only[au]);(simp only[go_sem,seval,reduceCtorEq,List.replicate])
 by_cases hl:xs.length=ys.length
 rotate_left
 ·have c:((xs.length:Int) !=ys.length)=true:=by simp;omega
  have e:decide (xs=ys)=false:=decide_eq_false fun e=>hl (by rw[e])
  simp only[go_sem,seval,reduceCtorEq,c,e]
  (refine FnEnd.mk (nb rfl) rfl (of_decide_eq_true rfl) ?_ ?_<;>try simp only[go_sem,seval,reduceCtorEq])
 have c:((xs.length:Int) !=ys.length)=false:=by simp [hl]
 simp only[go_sem,seval,reduceCtorEq,c]
 have hI0:xs.take 0=ys.take 0:=by simp
 refine cP (xs.length) (mkB 26 67092528) (fun k=>xs.take k=ys.take k) (fun k=>[(13,.d (.int k))]) (fun k=>[]) (hi:=hI0) (h1:=by first | (simp only[go_sem,seval,reduceCtorEq,nz,na,n1];first | done | rfl) | rfl) (h2:=by first | (simp only[go_sem,seval,reduceCtorEq,nz,na,n1];first | done | rfl) | rfl) (hr:=fun k hk hi=> ?_)
 unfold L0_impl_equalInts
 by_cases hlt:k<xs.length
 ·have d1:(k:Int)<xs.length:=by omega
  have d2:(k:Int)<ys.length:=by omega
  have hy:k<ys.length:=by omega
  have g:xs[k]? =some xs[k]:=List.getElem?_eq_getElem hlt
  have g':ys[k]? =some ys[k]:=List.getElem?_eq_getElem hy
  by_cases hb:xs[k]=ys[k]
  ·have c2:(xs[k] !=ys[k])=false:=by simp [hb]
   simp(disch:=omega) only[go_sem,seval,reduceCtorEq,d1,d2,g,g',c2]
   (repeat (refine And.intro (by omega) ?_))
   (refine NextI.drop (mkB 26 67092528) (by omega) (sN hi hlt hy hb) (h1:= ?_) (h2:= ?_)<;>first | (simp only[go_sem,seval,reduceCtorEq,nz,na,n1];first | done | rfl) | rfl | skip)
  ·have c2:(xs[k] !=ys[k])=true:=by simp [hb]
   have e:decide (xs=ys)=false:=decide_eq_false fun e=>hb (by subst e;rfl)
   simp(disch:=omega) only[go_sem,seval,reduceCtorEq,d1,d2,g,g',c2,e]
   (repeat (refine And.intro (by omega) ?_))
   (refine FnEnd.mk (nb rfl) rfl (of_decide_eq_true rfl) ?_ ?_<;>try simp only[go_sem,seval,reduceCtorEq])
 ·have d1:¬ (k:Int)<xs.length:=by omega
  have e:decide (xs=ys)=true:=decide_eq_true (by rwa [List.take_of_length_le (by omega),List.take_of_length_le (by omega)]at hi)
  simp(disch:=omega) only[go_sem,seval,reduceCtorEq,d1,e]
  (refine FnEnd.mk (nb rfl) rfl (of_decide_eq_true rfl) ?_ ?_<;>try simp only[go_sem,seval,reduceCtorEq])
theorem wM {r:Rg} (a b:Int):(r.k=1∨r.k=5→add1 r a b=max a b)∧(r.k=3→add1 r a b=min (a+b) r.p)∧(r.k=4→add1 r a b=min a b)∧(r.k=6→add1 r a b=orI a b)∧(r.k=2∨r.k=7∨r.k=8→add1 r a b=(a+b).tmod r.p):=by
 unfold add1
 refine⟨fun h=> ?_,fun h=> ?_,fun h=> ?_,fun h=> ?_,fun h=> ?_⟩
 ·rw[if_pos h]
 ·rw[if_neg (by omega),if_pos h]
 ·rw[if_neg (by omega),if_neg (by omega),if_pos h]
 ·rw[if_neg (by omega),if_neg (by omega),if_neg (by omega),if_pos h]
 ·rw[if_neg (by omega),if_neg (by omega),if_neg (by omega),if_neg (by omega)]
set_option maxHeartbeats 1600000 in
theorem Av {kk pp nn:Int} {x y:List Int} {wd:Nat} (hr:aq ⟨kk,pp,nn⟩=true) (hw:ar ⟨kk,pp,nn⟩=wd) (hx:fits ⟨kk,pp,nn⟩ x) (hy:fits ⟨kk,pp,nn⟩ y) (lx:x.length=wd) (ly:y.length=wd):
  Does Tryz.prog 97 [bn kk pp nn,.d (ints x),.d (ints y)] [] (.own 0 0 wd) [some ⟨1,true,iv (addE ⟨kk,pp,nn⟩ x y)⟩]:=by
 have hwb:=cq hr
 have htb:=dP hr
 have hor:∀ a b:Int,IntKind.i64.wrap (BitVec.ofInt 64 a||| BitVec.ofInt 64 b).toNat=orI a b:=fun _ _=>rfl
 have hal:=eR (r:=⟨kk,pp,nn⟩) lx ly
 have hrl:(List.replicate wd (0:Int)).length=wd:=by simp
 have hml:(addE ⟨kk,pp,nn⟩ x y).length=(List.replicate wd (0:Int)).length:=by rw[hal,hrl]
 have hlow:=fun h=>(bJ (r:=⟨kk,pp,nn⟩) hr hx h).2
 simp only at hlow
 (refine spec_of (by kernel_rfl) Tryz.func97 rk (fnOk (nb rfl) ?_);unfold C_spec_l02Add)
 (simp only[Nat.reduceSub,List.length_cons,List.length_nil,Nat.reduceAdd,am,al,aj,ai,ah,af,ae,ac];try simp only[au]);(simp only[go_sem,seval,reduceCtorEq,List.replicate])
 refine⟨by omega, ?_⟩
 refine aZ (wd) (mkB 96 39614081257132168796771942656) (fun k=>[(14,.d (.int k))]) (fun k=>[(1,iv (mix (addE ⟨kk,pp,nn⟩ x y) (List.replicate wd 0) k))]) (h1:=by first | (simp only[go_sem,seval,reduceCtorEq,nz,na,n1,cy,lx];first | done | rfl) | rfl) (h2:=by first | (simp only[go_sem,seval,reduceCtorEq,nz,na,n1,cy,lx];first | done | rfl) | rfl) (hr:=fun k hk=> ?_)
 unfold L0_spec_l02Add
 have hmk:(mix (addE ⟨kk,pp,nn⟩ x y) (List.replicate wd 0) k).length=wd:=by rw[gR hml,hal]
 by_cases hlt:k<wd
 ·have d1:(k:Int)<x.length:=by omega
  have d2:(k:Int)<y.length:=by omega
  have d3:(k:Int)<wd:=by omega
  have hkx:k<x.length:=by omega
  have hky:k<y.length:=by omega
  have gx:x[k]? =some x[k]:=List.getElem?_eq_getElem hkx
  have gy:y[k]? =some y[k]:=List.getElem?_eq_getElem hky
  have bx:=hx k hkx
  have bY:=hy k hky
  rw[ao hkx]at bx
  rw[ao hky]at bY
  have hm:=fH hml (r8 (r:=⟨kk,pp,nn⟩) hkx hky)
  obtain⟨a1,a2,a3,a4,a5⟩:=wM (r:=⟨kk,pp,nn⟩) x[k] y[k]
  simp only at a1 a2 a3 a4 a5
  generalize hae:x[k]=a at*
  generalize hbe:y[k]=b at*
  rcases aR hr with h | h | h | h | h | h | h | h<;>simp only at h<;>obtain⟨rfl,h⟩:=h
  ·have ho:orI a b=max a b:=by simp only[top,if_true]at bx bY;exact E1 bx bY
   simp(disch:=omega) only[go_sem,seval,reduceCtorEq,lx,ly,d1,d2,d3,gx,gy,hor,ho, ← a1 (.inl rfl)]
   refine⟨by omega, ?_⟩
   (refine Next.drop (mkB 96 39614081257132168796771942656) (by omega) (h1:= ?_) (h2:= ?_)<;>first | (simp only[go_sem,seval,reduceCtorEq,nz,na,n1,hm];first | done | rfl) | rfl | skip)
  ·have hp:=hlow (.inl rfl)
   have hp0:pp≠0:=by omega
   simp(disch:=omega) only[go_sem,seval,reduceCtorEq,lx,ly,d1,d2,d3,gx,gy,hp0,ne_eq,not_false_eq_true, ← a5 (.inl rfl)]
   refine⟨by omega, ?_⟩
   (refine Next.drop (mkB 96 39614081257132168796771942656) (by omega) (h1:= ?_) (h2:= ?_)<;>first | (simp only[go_sem,seval,reduceCtorEq,nz,na,n1,hm];first | done | rfl) | rfl | skip)
  ·simp(disch:=omega) only[go_sem,seval,reduceCtorEq,lx,ly,d1,d2,d3,gx,gy, ← a2 rfl]
   refine⟨by omega, ?_⟩
   (refine Next.drop (mkB 96 39614081257132168796771942656) (by omega) (h1:= ?_) (h2:= ?_)<;>first | (simp only[go_sem,seval,reduceCtorEq,nz,na,n1,hm];first | done | rfl) | rfl | skip)
  ·simp(disch:=omega) only[go_sem,seval,reduceCtorEq,lx,ly,d1,d2,d3,gx,gy, ← a3 rfl]
   refine⟨by omega, ?_⟩
   (refine Next.drop (mkB 96 39614081257132168796771942656) (by omega) (h1:= ?_) (h2:= ?_)<;>first | (simp only[go_sem,seval,reduceCtorEq,nz,na,n1,hm];first | done | rfl) | rfl | skip)
  ·simp(disch:=omega) only[go_sem,seval,reduceCtorEq,lx,ly,d1,d2,d3,gx,gy, ← a1 (.inr rfl)]
   refine⟨by omega, ?_⟩
   (refine Next.drop (mkB 96 39614081257132168796771942656) (by omega) (h1:= ?_) (h2:= ?_)<;>first | (simp only[go_sem,seval,reduceCtorEq,nz,na,n1,hm];first | done | rfl) | rfl | skip)
  ·simp(disch:=omega) only[go_sem,seval,reduceCtorEq,lx,ly,d1,d2,d3,gx,gy,hor, ← a4 rfl]
   refine⟨by omega, ?_⟩
   (refine Next.drop (mkB 96 39614081257132168796771942656) (by omega) (h1:= ?_) (h2:= ?_)<;>first | (simp only[go_sem,seval,reduceCtorEq,nz,na,n1,hm];first | done | rfl) | rfl | skip)
  ·have hp:=hlow (.inr (.inl rfl))
   have hp0:pp≠0:=by omega
   simp(disch:=omega) only[go_sem,seval,reduceCtorEq,lx,ly,d1,d2,d3,gx,gy,hp0,ne_eq,not_false_eq_true, ← a5 (.inr (.inl rfl))]
   refine⟨by omega, ?_⟩
   (refine Next.drop (mkB 96 39614081257132168796771942656) (by omega) (h1:= ?_) (h2:= ?_)<;>first | (simp only[go_sem,seval,reduceCtorEq,nz,na,n1,hm];first | done | rfl) | rfl | skip)
  ·have hp:=hlow (.inr (.inr rfl))
   have hp0:pp≠0:=by omega
   simp(disch:=omega) only[go_sem,seval,reduceCtorEq,lx,ly,d1,d2,d3,gx,gy,hp0,ne_eq,not_false_eq_true, ← a5 (.inr (.inr rfl))]
   refine⟨by omega, ?_⟩
   (refine Next.drop (mkB 96 39614081257132168796771942656) (by omega) (h1:= ?_) (h2:= ?_)<;>first | (simp only[go_sem,seval,reduceCtorEq,nz,na,n1,hm];first | done | rfl) | rfl | skip)
 ·have d1:¬ (k:Int)<wd:=by omega
  have hm:mix (addE ⟨kk,pp,nn⟩ x y) (List.replicate wd 0) k=addE ⟨kk,pp,nn⟩ x y:=gt (by omega) (by omega)
  simp(disch:=omega) only[go_sem,seval,reduceCtorEq,lx,d1,hm]
  (refine FnEnd.mk (nb rfl) rfl (of_decide_eq_true rfl) ?_ ?_<;>try simp only[go_sem,seval,reduceCtorEq])
set_option maxHeartbeats 1600000 in
theorem sJ {kk pp nn:Int} {xs y:List Int} {off wd:Nat} (hr:aq ⟨kk,pp,nn⟩=true) (hw:ar ⟨kk,pp,nn⟩=wd) (hx:fits ⟨kk,pp,nn⟩ ((xs.drop off).take wd)) (hy:fits ⟨kk,pp,nn⟩ y) (ly:y.length=wd) (ho:off+wd≤xs.length) (hl:xs.length≤1099511627776):
  Does Tryz.prog 43 [bn kk pp nn,.own 0 off wd,.d (ints y)] [some ⟨1,false,iv xs⟩] (.tup []) [some ⟨1,false,iv (putE xs off (addE ⟨kk,pp,nn⟩ ((xs.drop off).take wd) y))⟩]:=by
 have hwb:=cq hr
 have htb:=dP hr
 have hor:∀ a b:Int,IntKind.i64.wrap (BitVec.ofInt 64 a||| BitVec.ofInt 64 b).toNat=orI a b:=fun _ _=>rfl
 have lx:((xs.drop off).take wd).length=wd:=by rw[List.length_take,List.length_drop];omega
 have hput0:putE xs off ((xs.drop off).take wd)=xs:=by
  unfold putE
  rw[lx,List.append_assoc, ← List.drop_drop,List.take_append_drop,List.take_append_drop]
 have hlow:=fun h=>(bJ (r:=⟨kk,pp,nn⟩) hr hx h).2
 simp only at hlow
 generalize hcx:(xs.drop off).take wd=x at*
 have hal:=eR (r:=⟨kk,pp,nn⟩) lx ly
 have hml:(addE ⟨kk,pp,nn⟩ x y).length=x.length:=by rw[hal,lx]
 have hgx:∀ k,k<wd→xs[off+k]? =some (x.getD k 0):=fun k hk=>by
  have h1:=pq (xs:=xs) (ys:=x) (off:=off) (k:=k) (by omega) (by omega)
  rwa [hput0]at h1
 (refine spec_of (by kernel_rfl) Tryz.func43 qw (fnOk (nb rfl) ?_);unfold C_impl_addInto)
 (simp only[Nat.reduceSub,List.length_cons,List.length_nil,Nat.reduceAdd,am,al,aj,ai,ah,af,ae,ac];try simp only[au]);(simp only[go_sem,seval,reduceCtorEq,List.replicate])
 by_cases hpoly:kk=2∨kk=7∨kk=8
 ·have hp:=hlow hpoly
  have hp0:pp≠0:=by omega
  have k1:(kk==1)=false:=by simp;omega
  have k3:(kk==3)=false:=by simp;omega
  have k4:(kk==4)=false:=by simp;omega
  have k5:(kk==5)=false:=by simp;omega
  have k6:(kk==6)=false:=by simp;omega
  simp(disch:=omega) only[go_sem,seval,reduceCtorEq,k1,k3,k4,k5,k6]
  have hpm0:putE xs off (mix (addE ⟨kk,pp,nn⟩ x y) x 0)=xs:=by rw[cy,hput0]
  refine aZ (wd) (mkB 77 1073737792) (fun k=>[(11,.d (.int k))]) (fun k=>[(0,iv (putE xs off (mix (addE ⟨kk,pp,nn⟩ x y) x k)))]) (h1:=by first | (simp only[go_sem,seval,reduceCtorEq,nz,na,n1,hpm0];first | done | rfl) | rfl) (h2:=by first | (simp only[go_sem,seval,reduceCtorEq,nz,na,n1,hpm0];first | done | rfl) | rfl) (hr:=fun k hk=> ?_)
  unfold L0_impl_addInto
  have hmk:(mix (addE ⟨kk,pp,nn⟩ x y) x k).length=wd:=by rw[gR hml,hal]
  have hpl:=bM (xs:=xs) (off:=off) (ys:=mix (addE ⟨kk,pp,nn⟩ x y) x k) (by omega)
  by_cases hlt:k<wd
  ·have d1:(k:Int)<wd:=by omega
   have d2:(k:Int)<y.length:=by omega
   have hkx:k<x.length:=by omega
   have hky:k<y.length:=by omega
   have gy:y[k]? =some y[k]:=List.getElem?_eq_getElem hky
   have bx:=hx k hkx
   have bY:=hy k hky
   rw[ao hkx]at bx
   rw[ao hky]at bY
   have hgm:(mix (addE ⟨kk,pp,nn⟩ x y) x k).getD k 0=x[k]:=by
    rw[List.getD_eq_getElem?_getD,xi hml,if_neg (by omega),List.getElem?_eq_getElem hkx];rfl
   have gm:=pq (xs:=xs) (ys:=mix (addE ⟨kk,pp,nn⟩ x y) x k) (off:=off) (k:=k) (by omega) (by omega)
   rw[hgm]at gm
   have hm:=fH hml (r8 (r:=⟨kk,pp,nn⟩) hkx hky)
   have hq:=pT (xs:=xs) (ys:=mix (addE ⟨kk,pp,nn⟩ x y) x k) (off:=off) (k:=k) (v:=add1 ⟨kk,pp,nn⟩ x[k] y[k]) (by omega) (by omega)
   rw[← cI (by omega),hm]at hq
   have a5:=(wM (r:=⟨kk,pp,nn⟩) x[k] y[k]).2.2.2.2 hpoly
   simp only at a5
   generalize hae:x[k]=a at*
   generalize hbe:y[k]=b at*
   simp(disch:=omega) only[go_sem,seval,reduceCtorEq,d1,d2,gm,gy,hp0,ne_eq,not_false_eq_true, ← a5]
   refine⟨by omega, ?_⟩
   (refine Next.drop (mkB 77 1073737792) (by omega) (h1:= ?_) (h2:= ?_)<;>first | (simp only[go_sem,seval,reduceCtorEq,nz,na,n1,hq];first | done | rfl) | rfl | skip)
  ·have d1:¬ (k:Int)<wd:=by omega
   have hm:mix (addE ⟨kk,pp,nn⟩ x y) x k=addE ⟨kk,pp,nn⟩ x y:=gt (by omega) (by omega)
   simp(disch:=omega) only[go_sem,seval,reduceCtorEq,d1,hm]
   (refine FnEnd.mk (nb rfl) rfl (of_decide_eq_true rfl) ?_ ?_<;>try simp only[go_sem,seval,reduceCtorEq])
 have hwd1:wd=1:=by have:=ka (r:=⟨kk,pp,nn⟩) hr (by simp only;omega);omega
 subst hwd1
 have gx:=hgx 0 (by omega)
 have gy:y[0]? =some (y.getD 0 0):=by rw[ao (by omega)];exact List.getElem?_eq_getElem (by omega)
 have bx:=hx 0 (by omega)
 have bY:=hy 0 (by omega)
 have c1:(0:Int)<(1:Nat):=by omega
 have c3:(0:Int)<y.length:=by omega
 have c4:off+1≤xs.length:=by omega
 have he:addE ⟨kk,pp,nn⟩ x y=[add1 ⟨kk,pp,nn⟩ (x.getD 0 0) (y.getD 0 0)]:=by
  match x,y,lx,ly with
  | [a],[b],_,_=>rfl
 have hput:∀ v:Int,xs.take off++[v]++xs.drop (off+1)=putE xs off [v]:=fun v=>rfl
 obtain⟨a1,a2,a3,a4,a5⟩:=wM (r:=⟨kk,pp,nn⟩) (x.getD 0 0) (y.getD 0 0)
 simp only at a1 a2 a3 a4 a5
 rw[Nat.add_zero]at gx
 generalize hae:x.getD 0 0=a at*
 generalize hbe:y.getD 0 0=b at*
 rcases aR hr with h | h | h | h | h | h | h | h<;>simp only at h<;>obtain⟨rfl,h⟩:=h
 ·simp(disch:=omega) only[go_sem,seval,reduceCtorEq,gx,gy,c1,c3,c4]
  (refine FnEnd.mk (nb rfl) rfl (of_decide_eq_true rfl) ?_ ?_<;>try simp only[go_sem,seval,reduceCtorEq])
  rw[hput,he,a1 (.inl rfl)]
 ·exact absurd (.inl rfl) hpoly
 ·simp(disch:=omega) only[go_sem,seval,reduceCtorEq,gx,gy,c1,c3,c4]
  (refine FnEnd.mk (nb rfl) rfl (of_decide_eq_true rfl) ?_ ?_<;>try simp only[go_sem,seval,reduceCtorEq])
  rw[hput,he,a2 rfl]
 ·simp(disch:=omega) only[go_sem,seval,reduceCtorEq,gx,gy,c1,c3,c4]
  (refine FnEnd.mk (nb rfl) rfl (of_decide_eq_true rfl) ?_ ?_<;>try simp only[go_sem,seval,reduceCtorEq])
  rw[hput,he,a3 rfl]
 ·simp(disch:=omega) only[go_sem,seval,reduceCtorEq,gx,gy,c1,c3,c4]
  (refine FnEnd.mk (nb rfl) rfl (of_decide_eq_true rfl) ?_ ?_<;>try simp only[go_sem,seval,reduceCtorEq])
  rw[hput,he,a1 (.inr rfl)]
 ·simp(disch:=omega) only[go_sem,seval,reduceCtorEq,gx,gy,c1,c3,c4]
  (refine FnEnd.mk (nb rfl) rfl (of_decide_eq_true rfl) ?_ ?_<;>try simp only[go_sem,seval,reduceCtorEq])
  rw[hput,hor,he,a4 rfl]
 ·exact absurd (.inr (.inl rfl)) hpoly
 ·exact absurd (.inr (.inr rfl)) hpoly
def alR (r:Rg) (a b:Ten):Ten:=bif alB r a b then ⟨a.labels,a.dims,(alT r a b).data⟩ else ⟨[],[],[]⟩
theorem EG {r:Rg} {a b:Ten} {wd n:Nat} (h:AlOk r a b wd n):bz wd b a.labels=⟨a.labels,a.dims,(alT r a b).data⟩:=by
 unfold alT
 rw[h.w,Int.toNat_natCast]
 unfold bz
 rw[h.dims]
theorem D9 {r:Rg} {a b:Ten} (h:alS r a b=true):∃ wd n:Nat,ar r=wd∧PermOk b a.labels wd n:=by
 simp only[alS,Bool.and_eq_true]at h
 obtain⟨⟨ha,hb⟩,hs⟩:=h
 obtain⟨wd,n,e1,e2,e3,e4,e5,e6,e7,e8,e9,e10⟩:=cD ha
 obtain⟨wd',n',f1,f2,hp⟩:=t4 hb (pL (bG e10) hs)
 exact⟨wd',n',f1,hp⟩
theorem vc {kk pp nn:Int} {t u:Ten} (a:I64 kk) (b:I64 pp) (c:I64 nn) (ht:TSz 1048576 t) (hu:TSz 1048576 u):
  Does Tryz.prog 40 [bn kk pp nn,tenA t,tenA u] [] (.tup [ownT 0 (alR ⟨kk,pp,nn⟩ t u),.d (.bool (alB ⟨kk,pp,nn⟩ t u))]) (stoF (alR ⟨kk,pp,nn⟩ t u)):=by
 (refine spec_of (by kernel_rfl) Tryz.func40 lg (fnOk (nb rfl) ?_);unfold C_impl_alignTensor)
 (simp only[Nat.reduceSub,List.length_cons,List.length_nil,Nat.reduceAdd,am,al,aj,ai,ah,af,ae,ac];try simp only[au]);(simp only[go_sem,seval,reduceCtorEq,List.replicate])
 (refine aa (db (t:=t) a b c ht.up) ?_ ?_ ?_;(focus (simp only[go_sem,seval,reduceCtorEq];done));(first | rfl | (focus (simp only[go_sem];done))))
 cases h1:aA ⟨kk,pp,nn⟩ t.labels t.dims t.data
 ·have e1:alB ⟨kk,pp,nn⟩ t u=false:=by simp [alB,alS,h1]
  have e2:alR ⟨kk,pp,nn⟩ t u=⟨[],[],[]⟩:=by simp [alR,e1]
  simp only[go_sem,seval,reduceCtorEq,h1,e1,e2]
  refine FnEnd.wk (Wk.trans (Wk.nilS 3 0 1 _ _ _ rfl rfl) (Wk.trans (Wk.nilS 3 1 1 _ _ _ rfl rfl) (Wk.trans (Wk.nilS 3 2 1 _ _ _ rfl rfl) Wk.nogA))) ?_
  (refine FnEnd.mk (nb rfl) rfl (of_decide_eq_true rfl) ?_ ?_<;>try simp only[go_sem,seval,reduceCtorEq])
 simp only[go_sem,seval,reduceCtorEq,h1]
 (refine aa (db (t:=u) a b c hu.up) ?_ ?_ ?_;(focus (simp only[go_sem,seval,reduceCtorEq];done));(first | rfl | (focus (simp only[go_sem];done))))
 cases h2:aA ⟨kk,pp,nn⟩ u.labels u.dims u.data
 ·have e1:alB ⟨kk,pp,nn⟩ t u=false:=by simp [alB,alS,h2]
  have e2:alR ⟨kk,pp,nn⟩ t u=⟨[],[],[]⟩:=by simp [alR,e1]
  simp only[go_sem,seval,reduceCtorEq,h2,e1,e2]
  refine FnEnd.wk (Wk.trans (Wk.nilS 3 0 1 _ _ _ rfl rfl) (Wk.trans (Wk.nilS 3 1 1 _ _ _ rfl rfl) (Wk.trans (Wk.nilS 3 2 1 _ _ _ rfl rfl) Wk.nogA))) ?_
  (refine FnEnd.mk (nb rfl) rfl (of_decide_eq_true rfl) ?_ ?_<;>try simp only[go_sem,seval,reduceCtorEq])
 simp only[go_sem,seval,reduceCtorEq,h2]
 (refine aa (lR (ls:=t.labels) (L:=u.labels) ht.l.up.len hu.l.up.len) ?_ ?_ ?_;(focus (simp only[go_sem,seval,reduceCtorEq];done));(first | rfl | (focus (simp only[go_sem];done))))
 cases h3:gM t.labels u.labels
 ·have e1:alB ⟨kk,pp,nn⟩ t u=false:=by simp [alB,alS,h3]
  have e2:alR ⟨kk,pp,nn⟩ t u=⟨[],[],[]⟩:=by simp [alR,e1]
  simp only[go_sem,seval,reduceCtorEq,h3,e1,e2]
  refine FnEnd.wk (Wk.trans (Wk.nilS 3 0 1 _ _ _ rfl rfl) (Wk.trans (Wk.nilS 3 1 1 _ _ _ rfl rfl) (Wk.trans (Wk.nilS 3 2 1 _ _ _ rfl rfl) Wk.nogA))) ?_
  (refine FnEnd.mk (nb rfl) rfl (of_decide_eq_true rfl) ?_ ?_<;>try simp only[go_sem,seval,reduceCtorEq])
 simp only[go_sem,seval,reduceCtorEq,h3]
 have hS:alS ⟨kk,pp,nn⟩ t u=true:=by simp [alS,h1,h2,h3]
 obtain⟨wd,n,f1,hp⟩:=D9 hS
 have hdl:=ht.l.len
 have htd:=ht.d.len
 (refine aa (lY f1 hp hu ht.l) ?_ ?_ ?_;(focus (simp only[go_sem,seval,reduceCtorEq];done));(first | rfl | (focus (simp only[go_sem];done))))
 simp only[go_sem,seval,reduceCtorEq,bz]
 have hpl:(aG u t.labels).length=t.labels.length:=by simp [aG]
 have hpt:List.take t.labels.length (aG u t.labels)=aG u t.labels:=List.take_of_length_le (by omega)
 (refine aa (vu (xs:=t.dims) (ys:=aG u t.labels) (by omega) (by omega)) ?_ ?_ ?_;(focus (simp only[go_sem,seval,reduceCtorEq,hpl,hpt];done));(first | rfl | (focus (simp only[go_sem];done))))
 by_cases h4:aG u t.labels=t.dims
 ·have e1:alB ⟨kk,pp,nn⟩ t u=true:=by simp [alB,hS,h4]
  obtain⟨wd',n',ho⟩:=xG e1
  have hww:wd'=wd:=by have:=ho.w;omega
  subst hww
  have e2:alR ⟨kk,pp,nn⟩ t u=bz wd' u t.labels:=by rw[alR,e1,EG ho];rfl
  have c1:decide (t.dims=aG u t.labels)=true:=decide_eq_true h4.symm
  simp only[go_sem,seval,reduceCtorEq,c1,e1,e2,bz]
  (refine FnEnd.mk (nb rfl) rfl (of_decide_eq_true rfl) ?_ ?_<;>try simp only[go_sem,seval,reduceCtorEq])
 ·have e1:alB ⟨kk,pp,nn⟩ t u=false:=by simp [alB,h4]
  have e2:alR ⟨kk,pp,nn⟩ t u=⟨[],[],[]⟩:=by simp [alR,e1]
  have c1:decide (t.dims=aG u t.labels)=false:=decide_eq_false fun e=>h4 e.symm
  simp only[go_sem,seval,reduceCtorEq,c1,e1,e2]
  refine FnEnd.wk (Wk.trans (Wk.nilS 3 0 1 _ _ _ rfl rfl) (Wk.trans (Wk.nilS 3 1 1 _ _ _ rfl rfl) (Wk.trans (Wk.nilS 3 2 1 _ _ _ rfl rfl) Wk.nogA))) ?_
  (refine FnEnd.mk (nb rfl) rfl (of_decide_eq_true rfl) ?_ ?_<;>try simp only[go_sem,seval,reduceCtorEq])
theorem Da {r:Rg} {a b:Ten} {wd n:Nat} (h:AlOk r a b wd n):∀ k,k<n→(addE r (cutE (alT r a b).data wd k) (cutE a.data wd k)).length=wd:=fun k hk=>eR (dH h.lb hk) (dH h.la hk)
theorem yx {r:Rg} {a b:Ten} {wd n:Nat} (h:alB r a b=true) (h':AlOk r a b wd n):jt (addE r) r a b=⟨a.labels,a.dims,opP (addE r) (alT r a b).data a.data wd n⟩:=by
 rw[yw h h',uO (sL r)]
theorem Ay {f:List Int→List Int→List Int} {r:Rg} {a b:Ten} (h:alB r a b=false):jt f r a b=⟨[],[],[]⟩:=by rw[jt,h];rfl
theorem rA {kk pp nn:Int} {t u:Ten} (a:I64 kk) (b:I64 pp) (c:I64 nn) (ht:TSz 1048576 t) (hu:TSz 1048576 u):
  Does Tryz.prog 12 [bn kk pp nn,tenA t,tenA u] [] (.tup [ownT 0 (jt (addE ⟨kk,pp,nn⟩) ⟨kk,pp,nn⟩ t u),.d (.bool (alB ⟨kk,pp,nn⟩ t u))]) (stoF (jt (addE ⟨kk,pp,nn⟩) ⟨kk,pp,nn⟩ t u)):=by
 (refine spec_of (by kernel_rfl) Tryz.func12 mB (fnOk (nb rfl) ?_);unfold C_impl_AddTensors)
 (simp only[Nat.reduceSub,List.length_cons,List.length_nil,Nat.reduceAdd,am,al,aj,ai,ah,af,ae,ac];try simp only[au]);(simp only[go_sem,seval,reduceCtorEq,List.replicate])
 (refine aa (vc a b c ht hu) ?_ ?_ ?_;(focus (simp only[go_sem,seval,reduceCtorEq];done));(first | rfl | (focus (simp only[go_sem];done))))
 cases h1:alB ⟨kk,pp,nn⟩ t u
 ·have e2:=Ay (f:=addE ⟨kk,pp,nn⟩) h1
  simp only[go_sem,seval,reduceCtorEq,h1,e2]
  refine FnEnd.wk (Wk.trans (Wk.nilS 3 0 1 _ _ _ rfl rfl) (Wk.trans (Wk.nilS 3 1 1 _ _ _ rfl rfl) (Wk.trans (Wk.nilS 3 2 1 _ _ _ rfl rfl) Wk.nogA))) ?_
  (refine FnEnd.mk (nb rfl) rfl (of_decide_eq_true rfl) ?_ ?_<;>try simp only[go_sem,seval,reduceCtorEq])
 obtain⟨wd,n,ho⟩:=xG h1
 have e2:=yx h1 ho
 have e3:alR ⟨kk,pp,nn⟩ t u=⟨t.labels,t.dims,(alT ⟨kk,pp,nn⟩ t u).data⟩:=by rw[alR,h1];rfl
 have hdl:=ht.d.len
 have hxl:=ht.x.len
 have hal:=ho.lb
 have hla:=ho.la
 have hwb:=ho.wb
 have hn1:=ho.n1
 have hpa:=ho.pa
 have hw:=ho.w
 have hf:=Da ho
 have hfb:=ho.fb
 have hnw:n*wd≤4096*6:=Nat.mul_le_mul (by omega) hwb.2
 simp only[go_sem,seval,reduceCtorEq,h1,e3]
 generalize hX:(alT ⟨kk,pp,nn⟩ t u).data=X at*
 refine aZ (n) (mkB 39 274875809792) (fun k=>[(10,.d (.int k))]) (fun k=>[(6,iv (opTo (addE ⟨kk,pp,nn⟩) X t.data X wd k))]) (h1:=by first | (simp only[go_sem,seval,reduceCtorEq,nz,na,n1,rT];first | done | rfl) | rfl) (h2:=by first | (simp only[go_sem,seval,reduceCtorEq,nz,na,n1,rT];first | done | rfl) | rfl) (hr:=fun k hk=> ?_)
 unfold L0_impl_AddTensors
 simp only[go_sem,seval,reduceCtorEq]
 (refine aa (jI (ds:=t.dims) ht.d.up.len (fun d hd=>(ho.ax.dim d hd).1) (by omega)) ?_ ?_ ?_;(focus (simp only[go_sem,seval,reduceCtorEq];done));(first | rfl | (focus (simp only[go_sem];done))))
 by_cases hlt:k<n
 ·have h2:(k:Int)<n:=by omega
  have hms:=dX (wd:=wd) hlt
  have hol:=A5 hf hal hk
  have hcut:=A7 (z:=X) hf hk
  have hput:=A4 (z:=X) hf hlt
  unfold cutE at hcut hput
  simp(disch:=omega) only[go_sem,seval,reduceCtorEq,hpa,h2]
  (refine vg [4,5,6] (pS (ca:=t.labels) (cb:=t.dims) (cc:=opTo (addE ⟨kk,pp,nn⟩) X t.data X wd k) (l:=t.labels.length) (d:=t.dims.length) (x:=k) hw hwb (m:=X.length) (by omega) (by omega) (by omega)) (of_decide_eq_true rfl) ?_ ?_ ?_ ?_ ?_ ?_;(simp only[go_sem,seval,reduceCtorEq]);(first | rfl | simp only[go_sem,seval,reduceCtorEq]);(simp only[go_sem,seval,reduceCtorEq,vwOk]);(simp only[go_sem,seval,reduceCtorEq,idsL,idsA,List.contains_cons,Nat.reduceBEq,Bool.or_true,Bool.true_or]);(first | rfl | simp only[go_sem,seval,reduceCtorEq]))
  simp only[go_sem,seval,reduceCtorEq]
  (refine aC (kx (t:=t) (x:=k) hw (by omega) (by omega) (by omega) (by omega)) ?_ ?_ ?_;(focus (simp only[go_sem,seval,reduceCtorEq];done));(first | rfl | (focus (simp only[go_sem];done))))
  simp only[go_sem,seval,reduceCtorEq]
  have hpl:=bM (xs:=opTo (addE ⟨kk,pp,nn⟩) X t.data X wd k) (off:=k*wd) (ys:=addE ⟨kk,pp,nn⟩ ((X.drop (k*wd)).take wd) ((t.data.drop (k*wd)).take wd)) (by have:=hf k hlt;unfold cutE at this;omega)
  have hadd:=sJ (xs:=opTo (addE ⟨kk,pp,nn⟩) X t.data X wd k) (off:=k*wd) ho.ring hw (by rw[hcut];exact eO hfb (k*wd) wd) (eO ho.fa (k*wd) wd) (ep (by omega)) (by omega) (by omega)
  rw[hcut]at hadd
  (refine dU [6] false (hadd) (of_decide_eq_true rfl) ?_ ?_ ?_ ?_ (of_decide_eq_true rfl) ?_;(focus (simp only[go_sem,seval,reduceCtorEq,hpl];done));(focus (simp only[go_sem,seval,reduceCtorEq];done));(focus (simp only[go_sem,seval,reduceCtorEq,hpl];done));(focus (simp only[go_sem,seval,reduceCtorEq];done)))
  simp(disch:=omega) only[go_sem,seval,reduceCtorEq]
  (refine Next.drop (mkB 39 274875809792) (by omega) (h1:= ?_) (h2:= ?_)<;>first | (simp only[go_sem,seval,reduceCtorEq,nz,na,n1,hput];first | done | rfl) | rfl | skip)
 ·have hkn:k=n:=by omega
  subst hkn
  have h2:¬ (k:Int)<k:=by omega
  have hall:=A8 (f:=addE ⟨kk,pp,nn⟩) (x:=X) (y:=t.data) hal
  have hopl:=iY (f:=addE ⟨kk,pp,nn⟩) (x:=X) (y:=t.data) hf k (Nat.le_refl _)
  simp(disch:=omega) only[go_sem,seval,reduceCtorEq,hpa,h2,e2,hall]
  (refine FnEnd.mk (nb rfl) rfl (of_decide_eq_true rfl) ?_ ?_<;>try simp only[go_sem,seval,reduceCtorEq])
  all_goals rw[hopl,hal]
end Go.Proofs.YtneocijmbnhblaaGreat
