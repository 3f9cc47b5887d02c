/-
 LIFT, part 32: rounds whose roots get other names. No condition.
-/
import Derived.Test.YtobhmajhachnaaaGreatDoorLiftG
namespace Go.Lift
open Go.RowKit
def dropG(ρ:Nat→Option Nat):List Bool→List AV→List AV
 |_,[]=>[]
 | [],x :: l=>rn ρ x :: dropG ρ [] l
 |b :: bs,x :: l=>(bif b then .any else rn ρ x) :: dropG ρ bs l
theorem uM(ρ:Nat→Option Nat):∀(bs:List Bool) (l:List AV),(dropG ρ bs l).length=l.length
 | [],[]=>rfl
 |_ :: _,[]=>rfl
 | [],x :: l=>by simp [dropG,uM ρ [] l]
 |b :: bs,x :: l=>by simp [dropG,uM ρ bs l]
theorem uN(ρ:Nat→Option Nat):∀(bs:List Bool) (l:List AV) (j:Nat),(dropG ρ bs l)[j]? =(l[j]?).map fun x=>bif bs.getD j false then .any else rn ρ x
 | [],[],_=>by simp [dropG]
 |_ :: _,[],_=>by simp [dropG]
 | [],x :: l,0=>by simp [dropG]
 | [],x :: l,j+1=>by
  simp only[dropG,List.getElem?_cons_succ];rw[uN ρ [] l j]
  simp
 |b :: bs,x :: l,0=>by simp [dropG]
 |b :: bs,x :: l,j+1=>by
  simp only[dropG,List.getElem?_cons_succ];rw[uN ρ bs l j]
  simp
theorem Wk.dropG{m0:Nat}(dead:List Bool)(ids:List Nat)(m:Nat){e e':List AV}{σ σ':Sto}(hm:m0≤m)(hl:m≤σ.length)(hn:ids.Nodup)(hi:(ids.all fun k=>decide (m≤k))=true)(h1:dropG (nrmR m ids) dead e=e')(h2:renS m ids σ=σ'):Wk m0 e σ e' σ':=by
 subst h1 h2;intro γ φ w vs hS hE;have hR:=K3 hl hn (fun k hk=>by have:=List.all_eq_true.1 hi k hk;simpa using this) φ;obtain⟨hK',hS'⟩:=hS.rn hR;refine⟨_,_,hK',hS',RelL.of_get ?_ fun i x hx=> ?_,fun k R hk hRk hg=> ?_⟩
 ·have:=hE.len;simpa [uM]using this
 ·rw[uN]at hx
  simp only[zm]at hx;obtain⟨y,hy,rfl⟩:=hx;obtain⟨v,hv,hr⟩:=hE.get hy;refine⟨v,hv, ?_⟩;cases dead.getD i false
  ·exact Rel.rn hR y v hr
  ·simp [Rel]
 ·have hk':k<m:=by omega
  exact⟨⟨by simp [hk'],fun hl=>by simp [hl,Lab.rn,nrmR,hk']⟩,{ R with cells:=rnL (nrmR m ids) R.cells },by rw[wh hl,if_pos hk',hRk];rfl,hg⟩
section
variable {m0 : Nat} {e : List AV} {σ : Sto}
theorem Next.ren{n k:Nat}{E:Nat→List AV}{S:Nat→Sto}(dead:List Bool)(ids:List Nat)(m:Nat)(h:k<n)(hm:m0≤m)(hl:m≤σ.length)(hn:ids.Nodup)(hids:(ids.all fun k=>decide (m≤k))=true)(h1:dropG (nrmR m ids) dead e=E (k+1))(h2:renS m ids σ=S (k+1)):Next m0 n E S k e σ:=Next.mk h (Wk.dropG dead ids m hm hl hn hids h1 h2)
end
section
variable {ρ : Nat → Option Nat} {a0 a1 a2 a3 a4 a5 a6 a7 a8 a9 a10 a11 a12 a13 a14 a15 : AV} {l : List AV} {b0 b1 b2 b3 b4 b5 b6 b7 b8 b9 b10 b11 b12 b13 b14 b15 b : Bool} {bs : List Bool}
theorem II:dropG ρ (b0 :: b1 :: b2 :: b3 :: b4 :: b5 :: b6 :: b7 :: b8 :: b9 :: b10 :: b11 :: b12 :: b13 :: b14 :: b15 :: bs) (ch a0 a1 a2 a3 a4 a5 a6 a7 a8 a9 a10 a11 a12 a13 a14 a15 l)=ch (bif b0 then .any else rn ρ a0) (bif b1 then .any else rn ρ a1) (bif b2 then .any else rn ρ a2) (bif b3 then .any else rn ρ a3) (bif b4 then .any else rn ρ a4) (bif b5 then .any else rn ρ a5) (bif b6 then .any else rn ρ a6) (bif b7 then .any else rn ρ a7) (bif b8 then .any else rn ρ a8) (bif b9 then .any else rn ρ a9) (bif b10 then .any else rn ρ a10) (bif b11 then .any else rn ρ a11) (bif b12 then .any else rn ρ a12) (bif b13 then .any else rn ρ a13) (bif b14 then .any else rn ρ a14) (bif b15 then .any else rn ρ a15) (dropG ρ bs l):=nr rfl
theorem G5:dropG ρ [] []=[]:=nr rfl
end
attribute [go_sem] II G5
theorem eT{m k:Nat}(h:m≤k):(∀av,Lift.rn (cut m) (Lift.rn (fg k) av)=Lift.rn (cut m) av)∧∀l,rnL (cut m) (rnL (fg k) l)=rnL (cut m) l:=by
 have key:∀i,(i=k∧cut m i=none)∨(i≠k):=fun i=>by
  by_cases e:i=k
  ·exact .inl ⟨e,by unfold cut;rw[if_neg (by omega)]⟩
  ·exact .inr e
 have h2:∀(av:AV),Lift.rn (cut m) (Lift.rn (fg k) av)=Lift.rn (cut m) av:=by
  intro av;refine AV.rec (motive_1:=fun av=>Lift.rn (cut m) (Lift.rn (fg k) av)=Lift.rn (cut m) av) (motive_2:=fun l=>rnL (cut m) (rnL (fg k) l)=rnL (cut m) l) rfl rfl rfl (fun _=>rfl) ?_ ?_ ?_ ?_ (fun _ _=>rfl) (fun _=>rfl) (fun _=>rfl)
   (fun l h=>by simp only[Lift.rn,h]) (fun l h=>by simp only[Lift.rn,h]) (fun f l h=>by simp only[Lift.rn,h]) rfl (fun x l hx hl=>by simp only[rnL,hx,hl]) av
  ·intro i a b
   rcases key i with ⟨e,h1⟩|e
   ·subst e;simp [Lift.rn,fg,h1]
   ·simp [Lift.rn,fg,e]
  ·intro i a
   rcases key i with ⟨e,h1⟩|e
   ·subst e;simp [Lift.rn,fg,h1]
   ·simp [Lift.rn,fg,e]
  ·intro i a
   rcases key i with ⟨e,h1⟩|e
   ·subst e;simp [Lift.rn,fg,h1]
   ·simp [Lift.rn,fg,e]
  ·intro i a b
   rcases key i with ⟨e,h1⟩|e
   ·subst e;simp [Lift.rn,fg,h1]
   ·simp [Lift.rn,fg,e]
 exact⟨h2,fun l=>by rw[aR,aR,aR,List.map_map];exact List.map_congr_left fun x _=>h2 x⟩
theorem oW{m k:Nat}(h:m≤k):∀(bs:List Bool) (l:List AV),cf m bs (rnL (fg k) l)=cf m bs l
 |_,[]=>by cases ‹List Bool› <;>rfl
 | [],x :: l=>by simp only[rnL,cf,(eT h).1,oW h [] l]
 |b :: bs,x :: l=>by simp only[rnL,cf,(eT h).1,oW h bs l]
theorem Bj{k j k' n:Nat}{l:List D}{σ:Sto}{i:Nat}(h:i≠k'):(adS k j k' n l σ)[i]? =(σ[i]?).map (Option.map fun R=>if i=k then { R with cells:=(rnL (fg k') R.cells).set j (.tr (.sl n l)) } else { R with cells:=rnL (fg k') R.cells }):=by
 unfold adS;rw[List.getElem?_mapIdx,List.getElem?_map,List.getElem?_set,if_neg (Ne.symm h)];cases σ[i]? with
 |none=>rfl
 |some x=>
  cases x with
  |none=>by_cases e:i=k<;>simp [e]
  |some R=>by_cases e:i=k<;>simp [e]
theorem Wk.ad3{m0 m:Nat}(dead:List Bool)(k z q:Nat)(g:Bool){τ:Sto}{A B:List AV}{e:List AV}{n0 n1 n2:Nat}{r0 r1 r2:Root}{l0 l1 l2:List D}(hm:m0≤m)(hτ:τ.length=m)(hA:A.length=q)
  (hk:τ[k]? =some (some ⟨z,g,A++[.own m 0 n0,.own (m+1) 0 n1,.own (m+2) 0 n2]++B⟩))
  (t0:treL r0.cells=some l0) (t1:treL r1.cells=some l1) (t2:treL r2.cells=some l2) (e0:l0.length=n0*r0.e) (e1:l1.length=n1*r1.e) (e2:l2.length=n2*r2.e)
  (f1:∀ρ,rnL ρ r1.cells=r1.cells) (f2:∀ρ,rnL ρ r2.cells=r2.cells):
  Wk m0 e (τ++[some r0,some r1,some r2]) (cf m dead e) (fu m (τ.set k (some ⟨z,g,A++[.tr (.sl n0 l0),.tr (.sl n1 l1),.tr (.sl n2 l2)]++B⟩))):=by
 have hkm:k<m:=by rw[← hτ];exact(List.getElem?_eq_some_iff.1 hk).1
 have a0:at_ (τ++[some r0,some r1,some r2]) m=some r0:=by subst hτ;simp [at_]
 have a1:at_ (τ++[some r0,some r1,some r2]) (m+1)=some r1:=by subst hτ;simp [at_]
 have a2:at_ (τ++[some r0,some r1,some r2]) (m+2)=some r2:=by subst hτ;simp [at_]
 have ak:at_ (τ++[some r0,some r1,some r2]) k=some ⟨z,g,A++[.own m 0 n0,.own (m+1) 0 n1,.own (m+2) 0 n2]++B⟩:=by simp [at_,List.getElem?_append_left (show k<τ.length by omega),hk]
 have g0:(A++[AV.own m 0 n0,.own (m+1) 0 n1,.own (m+2) 0 n2]++B)[q]? =some (.own m 0 n0):=by subst hA;simp
 have g1:(A++[AV.own m 0 n0,.own (m+1) 0 n1,.own (m+2) 0 n2]++B)[q+1]? =some (.own (m+1) 0 n1):=by subst hA;simp
 have g2:(A++[AV.own m 0 n0,.own (m+1) 0 n1,.own (m+2) 0 n2]++B)[q+2]? =some (.own (m+2) 0 n2):=by subst hA;simp
 have h1:=Wk.adopt (m0:=m0) k q m n0 (e:=e) hm (by omega) ak a0 g0 t0 e0 rfl rfl;have b1:=uW (k:=k) (j:=q) (k':=m) (n:=n0) (l:=l0) (σ:=τ++[some r0,some r1,some r2]) (m+1);have b2:=uW (k:=k) (j:=q) (k':=m) (n:=n0) (l:=l0) (σ:=τ++[some r0,some r1,some r2]) (m+2);have bk:=uW (k:=k) (j:=q) (k':=m) (n:=n0) (l:=l0) (σ:=τ++[some r0,some r1,some r2]) k;rw[if_neg (by omega),a1,Option.map_some,if_neg (by omega),f1]at b1;rw[if_neg (by omega),a2,Option.map_some,if_neg (by omega),f2]at b2;rw[if_neg (by omega),ak,Option.map_some,if_pos rfl]at bk
 generalize hS1:adS k q m n0 l0 (τ++[some r0,some r1,some r2])=S1 at h1 b1 b2 bk;have h2:=Wk.adopt (m0:=m0) k (q+1) (m+1) n1 (e:=rnL (fg m) e) (by omega) (by omega) bk b1 (by
  rw[List.getElem?_set,if_neg (by omega),aR,List.getElem?_map,g1];simp [Lift.rn,fg]) t1 e1 rfl rfl
 have c2:=uW (k:=k) (j:=q+1) (k':=m+1) (n:=n1) (l:=l1) (σ:=S1) (m+2);have ck:=uW (k:=k) (j:=q+1) (k':=m+1) (n:=n1) (l:=l1) (σ:=S1) k;rw[if_neg (by omega),b2,Option.map_some,if_neg (by omega)]at c2;simp only[f2]at c2;rw[if_neg (by omega),bk,Option.map_some,if_pos rfl]at ck;generalize hS2:adS k (q+1) (m+1) n1 l1 S1=S2 at h2 c2 ck;have h3:=Wk.adopt (m0:=m0) k (q+2) (m+2) n2 (e:=rnL (fg (m+1)) (rnL (fg m) e)) (by omega) (by omega) ck c2 (by
  rw[List.getElem?_set,if_neg (by omega),aR,List.getElem?_map,List.getElem?_set,if_neg (by omega),aR,List.getElem?_map,g2];simp [Lift.rn,fg]) t2 e2 rfl rfl
 refine h1.trans (h2.trans (h3.trans (Wk.drop dead m hm ?_ ?_)))
 ·rw[oW (by omega),oW (by omega),oW (by omega)]
 ·refine List.ext_getElem? fun i=> ?_
  unfold fu;simp only[List.getElem?_map,List.getElem?_take];by_cases hi:i<m
  ·rw[if_pos hi,if_pos hi,Bj (by omega), ← hS2,Bj (by omega), ← hS1,Bj (by omega),List.getElem?_append_left (by omega),List.getElem?_set]
   by_cases e:k=i
   ·subst e
    rw[if_pos rfl,if_pos (by omega),hk];simp only[Option.map_some,if_true];simp only[aR,List.map_set,Lift.rn,List.map_map,List.map_append,List.map_cons,List.map_nil];have hc:∀x:AV,Lift.rn (cut m) (Lift.rn (fg (m+2)) (Lift.rn (fg (m+1)) (Lift.rn (fg m) x)))=Lift.rn (cut m) x:=fun x=>by
     rw[(eT (by omega)).1,(eT (by omega)).1,(eT (by omega)).1]
    subst hA;have hc':(Lift.rn (cut m) ∘ Lift.rn (fg (m+2)) ∘ Lift.rn (fg (m+1)) ∘ Lift.rn (fg m))=Lift.rn (cut m):=funext hc;rw[hc'];simp [List.set_append]
   ·rw[if_neg e]
    cases hx:τ[i]? with
    |none=>simp
    |some x=>
     cases x with
     |none=>simp
     |some R0=>
      simp only[Option.map_some,if_neg (Ne.symm e)];rw[(eT (by omega)).2,(eT (by omega)).2,(eT (by omega)).2]
  ·rw[if_neg hi,if_neg hi]
theorem Wk.eq{m0:Nat}{e e' e1:List AV}{σ σ' σ1:Sto}(h:Wk m0 e σ e1 σ1)(h1:e1=e')(h2:σ1=σ'):Wk m0 e σ e' σ':=h1 ▸ h2 ▸ h
end Go.Lift
namespace Go.Lift
open Go.RowKit
def shrS(k q:Nat)(σ:Sto):Sto:=σ.modify k (Option.map fun R=>{ R with cells:=R.cells.take q })
theorem BB(k q:Nat)(σ:Sto)(i:Nat):(shrS k q σ)[i]? =(σ[i]?).map fun x=>if k=i then x.map (fun R=>{ R with cells:=R.cells.take q }) else x:=by
 unfold shrS;rw[List.getElem?_modify]
 rfl
theorem wg(k q:Nat)(σ:Sto)(i:Nat):at_ (shrS k q σ) i=if i=k then (at_ σ i).map fun R=>{ R with cells:=R.cells.take q } else at_ σ i:=by
 unfold at_;rw[BB];by_cases h:k=i
 ·subst h
  rw[if_pos rfl];cases σ[k]? with
  |none=>rfl
  |some x=>cases x<;>simp
 ·rw[if_neg (Ne.symm h)]
  cases σ[i]? with
  |none=>rfl
  |some x=>simp [h]
theorem BA(w:World)(γ:Labels)(φ:Nat→Nat){k q:Nat}{σ:Sto}(hno:∀R,at_ σ k=some R→∀(j:Nat) (x:D),R.cells[j]? ≠some (.tr x)):Live w γ φ (at_ σ) w γ φ (at_ (shrS k q σ)):=by
 intro i R hi;by_cases h:i=k
 ·subst h
  refine⟨rfl,{ R with cells:=R.cells.take q },by rw[wg,if_pos rfl,hi];rfl,rfl,id,id,fun j x hx=>absurd hx (hno R hi j x)⟩
 ·refine⟨rfl,R,by rw[wg,if_neg h];exact hi,rfl,id,id,fun j x hx=>⟨⟨x,hx⟩,fun cur cur' T f T' f' h h'=> ?_⟩⟩
  rw[h]at h';simp at h';rw[h'.1]
theorem JF{w:World}{γ:Labels}{φ:Nat→Nat}{k q:Nat}{σ:Sto}(hno:∀R,at_ σ k=some R→∀(j:Nat) (x:D),R.cells[j]? ≠some (.tr x))(hS:Sim γ φ (at_ σ) w):Sim γ φ (at_ (shrS k q σ)) w:=by
 have hL:=BA w γ φ (q:=q) hno;refine⟨hS.bound,fun i R hi=> ?_,hS.adm⟩;rw[wg]at hi;split at hi
 ·rename_i h
  subst h;simp only[zm]at hi;obtain⟨R0,h0,rfl⟩:=hi;rcases hS.root i R0 h0 with h1|⟨cur,T,h1,h2,h3,h4⟩
  ·exact .inl (by simp [h1])
  ·refine .inr ⟨cur,T,h1,h2,by simp only[List.length_take];omega,fun j av hav=> ?_⟩
   rw[List.getElem?_take]at hav;split at hav
   ·obtain⟨v,hv,hr⟩:=h4 j av hav
    exact⟨v,hv,CRel.mono (Kst.refl _ _) hL (fun _ _ h=>h) (fun _ _ _ _=>rfl) hr⟩
   ·cases hav
 ·rcases hS.root i R hi with h1|⟨cur,T,h1,h2,h3,h4⟩
  ·exact .inl h1
  ·refine .inr ⟨cur,T,h1,h2,h3,fun j av hav=> ?_⟩
   obtain⟨v,hv,hr⟩:=h4 j av hav;exact⟨v,hv,CRel.mono (Kst.refl _ _) hL (fun _ _ h=>h) (fun _ _ _ _=>rfl) hr⟩
theorem Wk.shrink{m0:Nat}(k q:Nat){e:List AV}{σ:Sto}{n:Nat}{g:Bool}{xs:List Int}(hk:at_ σ k=some ⟨n,g,iv xs⟩):Wk m0 e σ e (σ.set k (some ⟨n,g,iv (xs.take q)⟩)):=by
 have hno:∀R,at_ σ k=some R→∀(j:Nat) (x:D),R.cells[j]? ≠some (.tr x):=fun R hR j x h=>by
  rw[hk]at hR;simp only[zj]at hR;subst hR;simp [iv]at h
 have hs:σ.set k (some ⟨n,g,iv (xs.take q)⟩)=shrS k q σ:=by
  refine List.ext_getElem? fun i=> ?_
  rw[BB,List.getElem?_set];by_cases h:k=i
  ·subst h
   simp only[at_]at hk;cases hx:σ[k]? with
   |none=>rw[hx]at hk;cases hk
   |some y=>
    rw[hx]at hk;simp only[Option.join_some]at hk;subst hk;have:=(List.getElem?_eq_some_iff.1 hx).1;simp [this,iv,List.map_take]
  ·simp [h]
 rw[hs];intro γ φ w vs hS hE;refine⟨γ,φ,Kst.refl _ _,JF hno hS,RelL.mono (Kst.refl _ _) (BA w γ φ hno) _ _ hE,fun i R hi hR hg=>⟨Stay.refl, ?_⟩⟩;rw[wg];split
 ·rw[hR];exact⟨_,rfl,hg⟩
 ·exact⟨R,hR,hg⟩
end Go.Lift
