/-
 LIFT, part 31: loops whose environment is the one before them, but for some slots; loops over states of any kind. No condition.
-/
import Derived.Test.YtjfmckhbmdjnpaaGreatLiftF
namespace Go.Lift
open Go.RowKit
def bU (m:Nat):List Bool→List AV→List AV
 | _,[]=>[]
 | [],x :: l=>rn (cut m) x :: bU m [] l
 | b :: bs,x :: l=>(bif b then .any else rn (cut m) x) :: bU m bs l
theorem rM (m:Nat):∀ (bs:List Bool) (l:List AV),(bU m bs l).length=l.length
 | [],[]=>rfl
 | _ :: _,[]=>rfl
 | [],x :: l=>by simp [bU,rM m [] l]
 | b :: bs,x :: l=>by simp [bU,rM m bs l]
theorem rN (m:Nat):∀ (bs:List Bool) (l:List AV) (j:Nat),(bU m bs l)[j]? =(l[j]?).map fun x=>bif bs.getD j false then .any else rn (cut m) x
 | [],[],_=>by simp [bU]
 | _ :: _,[],_=>by simp [bU]
 | [],x :: l,0=>by simp [bU]
 | [],x :: l,j+1=>by
  simp only[bU,List.getElem?_cons_succ]
  rw[rN m [] l j]
  simp
 | b :: bs,x :: l,0=>by simp [bU]
 | b :: bs,x :: l,j+1=>by
  simp only[bU,List.getElem?_cons_succ]
  rw[rN m bs l j]
  simp
theorem Wk.drop {m0:Nat} (dead:List Bool) (m:Nat) {e e':List AV} {σ σ':Sto} (hn:m0≤m) (h1:bU m dead e=e') (h2:eJ m σ=σ'):Wk m0 e σ e' σ':=by
 subst h1 h2
 intro γ φ w vs hS hE
 obtain⟨hK',hS'⟩:=hS.rn (te m σ φ)
 refine⟨_,φ,hK',hS',RelL.of_get ?_ fun i x hx=> ?_,fun k R hk hR hg=> ?_⟩
 ·have:=hE.len;simpa [rM]using this
 ·rw[rN]at hx
  simp only[zm]at hx
  obtain⟨y,hy,rfl⟩:=hx
  obtain⟨v,hv,hr⟩:=hE.get hy
  refine⟨v,hv, ?_⟩
  cases dead.getD i false
  ·exact Rel.rn (te m σ φ) y v hr
  ·simp [Rel]
 ·have hk':k<m:=by omega
  exact⟨⟨rfl,fun hl=>by simp [hl,Lab.rn,cut,hk']⟩,{ R with cells:=rnL (cut m) R.cells },by rw[qT,if_pos hk',hR];rfl,hg⟩
def nogS (ks:List Nat):Nat→Sto→Sto
 | _,[]=>[]
 | i,x :: l=>(if ks.contains i then x.map fun R=>{ R with g:=false } else x) :: nogS ks (i+1) l
theorem ud (ks:List Nat):∀ (σ:Sto) (i j:Nat),(nogS ks i σ)[j]? =(σ[j]?).map fun x=>if ks.contains (i+j) then x.map fun R=>{ R with g:=false } else x
 | [],_,_=>by simp [nogS]
 | x :: l,i,0=>by simp [nogS]
 | x :: l,i,j+1=>by
  simp only[nogS,List.getElem?_cons_succ]
  rw[ud ks l (i+1) j,show i+1+j=i+(j+1)by omega]
theorem xS (ks:List Nat) (σ:Sto) (k:Nat):at_ (nogS ks 0 σ) k=(at_ σ k).map fun R=>if ks.contains k then { R with g:=false } else R:=by
 simp only[at_,ud,Nat.zero_add]
 cases σ[k]? with
 | none=>rfl
 | some x=>
  simp only[Option.map_some,Option.join_some]
  split<;>cases x<;>simp_all
theorem uc (w:World) (γ:Labels) (φ:Nat→Nat) (ks:List Nat) (σ:Sto):Live w γ φ (at_ σ) w γ φ (at_ (nogS ks 0 σ)):=by
 intro k R hk
 refine⟨rfl,_,by rw[xS,hk];rfl, ?_, ?_,id,fun j x hx=>⟨⟨x, ?_⟩,fun cur cur' T f T' f' h h'=> ?_⟩⟩
 ·split<;>rfl
 ·split
  ·intro h;cases h
  ·exact id
 ·split<;>exact hx
 ·rw[h]at h'
  simp at h'
  rw[h'.1]
theorem Bf {w:World} {γ:Labels} {φ:Nat→Nat} {σ:Sto} (ks:List Nat) (h:Sim γ φ (at_ σ) w):Sim γ φ (at_ (nogS ks 0 σ)) w:=by
 refine⟨h.bound,fun k R hk=> ?_,h.adm⟩
 rw[xS]at hk
 simp only[zm]at hk
 obtain⟨R0,h0,rfl⟩:=hk
 have hc:(if ks.contains k then { R0 with g:=false } else R0).cells=R0.cells:=by split<;>rfl
 rw[hc]
 rcases h.root k R0 h0 with h1 | ⟨cur,T,h1,h2,h3,h4⟩
 ·exact .inl h1
 ·refine .inr ⟨cur,T,h1,h2,h3,fun j av hav=> ?_⟩
  obtain⟨v,hv,hr⟩:=h4 j av hav
  exact⟨v,hv,CRel.mono (Kst.refl _ _) (uc w γ φ ks σ) (fun _ _ h=>h) (fun _ _ _ _=>rfl) hr⟩
theorem Wk.nog {m0:Nat} (ks:List Nat) {e:List AV} {σ σ':Sto} (h:nogS ks 0 σ=σ'):Wk m0 e σ e σ':=by
 subst h
 intro γ φ w vs hS hE
 refine⟨γ,φ,Kst.refl _ _,Bf ks hS,RelL.mono (Kst.refl _ _) (uc w γ φ ks σ) _ _ hE,fun k R hk hR hg=>⟨Stay.refl, ?_⟩⟩
 refine⟨_,by rw[xS,hR];rfl, ?_⟩
 split
 ·rfl
 ·exact hg
def nogA:Sto→Sto
 | []=>[]
 | x :: l=>x.map (fun R=>{ R with g:=false }) :: nogA l
theorem GB (σ:Sto):nogA σ=nogS (List.range σ.length) 0 σ:=by
 refine List.ext_getElem? fun j=> ?_
 rw[ud]
 have h:∀ (σ:Sto) (j:Nat),(nogA σ)[j]? =(σ[j]?).map fun x=>x.map fun R=>{ R with g:=false }:=by
  intro σ
  induction σ with
  | nil=>intro j;simp [nogA]
  | cons x l ih=>intro j;cases j with
   | zero=>simp [nogA]
   | succ j=>simpa [nogA]using ih j
 rw[h]
 by_cases hj:j<σ.length
 ·rw[zg hj]
  simp [hj]
 ·rw[List.getElem?_eq_none (by omega)]
  rfl
theorem Wk.nogA {m0:Nat} {e:List AV} {σ:Sto}:Wk m0 e σ e (nogA σ):=Wk.nog _ (GB σ).symm
theorem Does.nog {P:Program} {f:FuncId} {args:List AV} {σ0 σ1 σ2:Sto} {res:AV} (ks:List Nat) (h:Does P f args σ0 res σ1) (h2:nogS ks 0 σ1=σ2):Does P f args σ0 res σ2:=by
 subst h2
 intro γ φ w vals hS hr
 refine(h γ φ w vals hS hr).mono fun en w' hq=> ?_
 obtain⟨v,γ',φ',rfl,hK,h1,h2,h3⟩:=hq
 exact⟨v,γ',φ',rfl,hK,h1,Bf ks h2,Rel.mono (Kst.refl _ _) (uc w' γ' φ' ks σ1) _ _ h3⟩
def setE:List AV→List (Nat × AV)→List AV
 | e,[]=>e
 | e,(i,v) :: l=>setE (e.set i v) l
def setC:Sto→Nat→List AV→Sto
 | [],_,_=>[]
 | x :: l,0,c=>x.map (fun R=>{ R with cells:=c }) :: l
 | x :: l,k+1,c=>x :: setC l k c
def setS:Sto→List (Nat × List AV)→Sto
 | σ,[]=>σ
 | σ,(k,c) :: l=>setS (setC σ k c) l
section
variable {e : List AV} {σ : Sto} {i k z : Nat} {cs : List AV} {g0 : Bool}
theorem Ek:nogA []=[]:=nr rfl
theorem Cj:nogA (some ⟨z,g0,cs⟩ :: σ)=some ⟨z,false,cs⟩ :: nogA σ:=nr rfl
end
section
variable {e : List AV} {σ : Sto} {i k z : Nat} {v : AV} {l : List (Nat × AV)} {c c' : List AV} {g : Bool} {r : List (Nat × List AV)} {x : Option Root}
theorem DT:setE e []=e:=nr rfl
theorem BY:setE e ((i,v) :: l)=setE (e.set i v) l:=nr rfl
theorem BZ:setC (some ⟨z,g,c⟩ :: σ) 0 c'=some ⟨z,g,c'⟩ :: σ:=nr rfl
theorem C0:setC (x :: σ) (k+1) c'=x :: setC σ k c':=nr rfl
theorem DS:setS σ []=σ:=nr rfl
theorem BX:setS σ ((k,c) :: r)=setS (setC σ k c) r:=nr rfl
end
section
variable {a0 a1 a2 a3 a4 a5 a6 a7 a8 a9 a10 a11 a12 a13 a14 a15 : AV} {l : List AV}
theorem Fd (m:Nat) {b0 b1 b2 b3 b4 b5 b6 b7 b8 b9 b10 b11 b12 b13 b14 b15:Bool} {bs:List Bool}:bU m (b0 :: b1 :: b2 :: b3 :: b4 :: b5 :: b6 :: b7 :: b8 :: b9 :: b10 :: b11 :: b12 :: b13 :: b14 :: b15 :: bs) (ch a0 a1 a2 a3 a4 a5 a6 a7 a8 a9 a10 a11 a12 a13 a14 a15 l)=ch (bif b0 then .any else rn (cut m) a0) (bif b1 then .any else rn (cut m) a1) (bif b2 then .any else rn (cut m) a2) (bif b3 then .any else rn (cut m) a3) (bif b4 then .any else rn (cut m) a4) (bif b5 then .any else rn (cut m) a5) (bif b6 then .any else rn (cut m) a6) (bif b7 then .any else rn (cut m) a7) (bif b8 then .any else rn (cut m) a8) (bif b9 then .any else rn (cut m) a9) (bif b10 then .any else rn (cut m) a10) (bif b11 then .any else rn (cut m) a11) (bif b12 then .any else rn (cut m) a12) (bif b13 then .any else rn (cut m) a13) (bif b14 then .any else rn (cut m) a14) (bif b15 then .any else rn (cut m) a15) (bU m bs l):=nr rfl
theorem AE (m:Nat) {b:Bool} {bs:List Bool}:bU m (b :: bs) (a0 :: l)=(bif b then .any else rn (cut m) a0) :: bU m bs l:=nr rfl
theorem D3 (m:Nat):bU m [] []=[]:=nr rfl
end
theorem nz:((0:Nat):Int)=0:=Int.natCast_zero
theorem na (a b:Nat):((a+b:Nat):Int)=a+b:=Int.natCast_add a b
theorem n1:((1:Nat):Int)=1:=Int.natCast_one
attribute [go_sem] Fd AE D3 cut cond_true cond_false
section
variable {P : Program} {m0 : Nat} {N : List AV → Sto → Prop} {X : Nat → List AV → Sto → Prop} {R : List AV → Sto → Prop} {e : List AV} {σ : Sto}
theorem dr {b:C} {e':List AV} {σ':Sto} (h:Wk m0 e σ e' σ') (h2:wpN P m0 (.loop b) N X R e' σ'):wpN P m0 (.loop b) N X R e σ:=by
 unfold wpN at*
 rw[wpC]at*
 obtain⟨J,⟨m,e2,σ2,h3,h4⟩,h5⟩:=h2
 exact⟨J,⟨m,e2,σ2,h.trans h3,h4⟩,h5⟩
theorem aN {b:C} (n:Nat) (dead:List Bool) (ov:Nat→List (Nat × AV)) (so:Nat→List (Nat × List AV)) {E:Nat→List AV} {S:Nat→Sto}
  (hE:∀ k,setE (bU σ.length dead e) (ov k)=E k:=by intro _;(simp only[go_sem,seval,reduceCtorEq]);first | done | rfl) (hS:∀ k,setS (eJ σ.length σ) (so k)=S k:=by intro _;(simp only[go_sem,seval,reduceCtorEq]);first | done | rfl) (hm:m0≤σ.length:=by exact Nat.le_of_ble_eq_true rfl) (h1:bU σ.length dead e=E 0) (h2:eJ σ.length σ=S 0)
  (hr:∀ k,k≤n→wpN P m0 b (Next m0 n E S k) X R (E k) (S k)):wpN P m0 (.loop b) N X R e σ:=gE n E S (Wk.drop dead _ hm h1 h2) hr
theorem bV {b:C} (n:Nat) (dead:List Bool) (I:Nat→Prop) (ov:Nat→List (Nat × AV)) (so:Nat→List (Nat × List AV)) {E:Nat→List AV} {S:Nat→Sto}
  (hE:∀ k,setE (bU σ.length dead e) (ov k)=E k:=by intro _;(simp only[go_sem,seval,reduceCtorEq]);first | done | rfl) (hS:∀ k,setS (eJ σ.length σ) (so k)=S k:=by intro _;(simp only[go_sem,seval,reduceCtorEq]);first | done | rfl) (hi:I 0) (hm:m0≤σ.length:=by exact Nat.le_of_ble_eq_true rfl) (h1:bU σ.length dead e=E 0) (h2:eJ σ.length σ=S 0)
  (hr:∀ k,k≤n→I k→wpN P m0 b (NextI m0 n I E S k) X R (E k) (S k)):wpN P m0 (.loop b) N X R e σ:=kr n I E S hi (Wk.drop dead _ hm h1 h2) hr
theorem Next.drop {n k:Nat} {E:Nat→List AV} {S:Nat→Sto} (dead:List Bool) (h:k<n) (hm:m0≤(S (k+1)).length:=by exact Nat.le_of_ble_eq_true rfl) (h1:bU (S (k+1)).length dead e=E (k+1)) (h2:eJ (S (k+1)).length σ=S (k+1)):Next m0 n E S k e σ:=Next.mk h (Wk.drop dead _ hm h1 h2)
theorem NextI.drop {n k:Nat} {I:Nat→Prop} {E:Nat→List AV} {S:Nat→Sto} (dead:List Bool) (h:k<n) (hi:I (k+1)) (hm:m0≤(S (k+1)).length:=by exact Nat.le_of_ble_eq_true rfl) (h1:bU (S (k+1)).length dead e=E (k+1)) (h2:eJ (S (k+1)).length σ=S (k+1)):NextI m0 n I E S k e σ:=NextI.mk h hi (Wk.drop dead _ hm h1 h2)
def NextS {α:Type} (m0:Nat) (μ:α→Nat) (I:α→Prop) (E:α→List AV) (S:α→Sto) (s:α) (e:List AV) (σ:Sto):Prop:=
 ∃ s',μ s'<μ s∧I s'∧Wk m0 e σ (E s') (S s')
theorem NextS.mk {α:Type} {μ:α→Nat} {I:α→Prop} {E:α→List AV} {S:α→Sto} {s:α} (s':α) (h:μ s'<μ s) (hi:I s') (hw:Wk m0 e σ (E s') (S s')):NextS m0 μ I E S s e σ:=⟨s',h,hi,hw⟩
theorem NextS.drop {α:Type} {μ:α→Nat} {I:α→Prop} {E:α→List AV} {S:α→Sto} {s:α} (dead:List Bool) (s':α) (h:μ s'<μ s) (hi:I s') (hm:m0≤(S s').length:=by exact Nat.le_of_ble_eq_true rfl) (h1:bU (S s').length dead e=E s') (h2:eJ (S s').length σ=S s'):NextS m0 μ I E S s e σ:=.mk s' h hi (Wk.drop dead _ hm h1 h2)
theorem sV {α:Type} {b:C} (s0:α) (μ:α→Nat) (dead:List Bool) (I:α→Prop) (ov:α→List (Nat × AV)) (so:α→List (Nat × List AV)) {E:α→List AV} {S:α→Sto}
  (hE:∀ s,setE (bU σ.length dead e) (ov s)=E s:=by intro _;(simp only[go_sem,seval,reduceCtorEq]);first | done | rfl) (hS:∀ s,setS (eJ σ.length σ) (so s)=S s:=by intro _;(simp only[go_sem,seval,reduceCtorEq]);first | done | rfl) (hi:I s0) (hm:m0≤σ.length:=by exact Nat.le_of_ble_eq_true rfl) (h1:bU σ.length dead e=E s0) (h2:eJ σ.length σ=S s0)
  (hr:∀ s,I s→wpN P m0 b (NextS m0 μ I E S s) X R (E s) (S s)):wpN P m0 (.loop b) N X R e σ:=by
 have h0:Wk m0 e σ (E s0) (S s0):=Wk.drop dead _ hm h1 h2
 refine tB (fun m e σ=>∃ s,I s∧m=μ s∧e=E s∧σ=S s) ⟨_,_,_,h0,s0,hi,rfl,rfl,rfl⟩ ?_
 rintro m e σ ⟨s,hs,rfl,rfl,rfl⟩
 have:=hr s hs
 unfold wpN at this ⊢
 refine cast (congrArg (fun K=>wpC P m0 b K (E s) (S s)) ?_) this
 funext x e σ
 cases x with
 | normal=>
  refine propext ⟨fun⟨s',h1,h2,h3⟩=>⟨_,_,_,h1,h3,s',h2,rfl,rfl,rfl⟩, ?_⟩
  rintro⟨_,_,_,h1,h3,s',h2,rfl,rfl,rfl⟩
  exact⟨s',h1,h2,h3⟩
 | exit i=>rfl
 | ret=>rfl
end
section
variable {P : Program} {σ : Sto} {ev : O → AV} {T : Fg → AV → Sto → Prop}
theorem Dw (e:Nat) (z:List AV) (x:O):tI P σ ev (.clear e z x) T=match ev x with
  | .own k off n=>match at_ σ k with
   | some R=>z.length=e∧off+n*e≤R.cells.length∧(((R.cells.drop off).take (n*e)).all trB)=true∧
     T .no (.tup []) (σ.set k (some { R with cells:=R.cells.take off++bA n z++R.cells.drop (off+n*e) }))
   | none=>False
  | _=>False:=nr rfl
end
attribute [go_sem] Option.map_none Dw Ek Cj DT BY BZ C0 DS BX
end Go.Lift
namespace Go.Lift
open Go.RowKit
def nilC:AV→AV
 | .nil=>.d (.sl 0 [])
 | x=>x
def nilK (k:Nat) (σ:Sto):Sto:=σ.modify k (Option.map fun R=>{ R with cells:=R.cells.map nilC })
theorem Eo (k:Nat) (σ:Sto) (i:Nat):(nilK k σ)[i]? =(σ[i]?).map fun x=>if k=i then x.map (fun R=>{ R with cells:=R.cells.map nilC }) else x:=by
 unfold nilK
 rw[List.getElem?_modify]
 rfl
theorem xT (k:Nat) (σ:Sto) (i:Nat):at_ (nilK k σ) i=if i=k then (at_ σ i).map fun R=>{ R with cells:=R.cells.map nilC } else at_ σ i:=by
 unfold at_
 rw[Eo]
 by_cases h:k=i
 ·subst h
  rw[if_pos rfl]
  cases σ[k]? with
  | none=>rfl
  | some x=>cases x<;>simp
 ·rw[if_neg (Ne.symm h)]
  cases σ[i]? with
  | none=>rfl
  | some x=>simp [h]
theorem GC {l:List AV} {j:Nat} {x:D} (h:l[j]? =some (.tr x)):(l.map nilC)[j]? =some (.tr x):=by rw[List.getElem?_map,h];rfl
theorem wh (w:World) (γ:Labels) (φ:Nat→Nat) (k:Nat) (σ:Sto):Live w γ φ (at_ σ) w γ φ (at_ (nilK k σ)):=by
 intro i R hi
 refine⟨rfl,if i=k then { R with cells:=R.cells.map nilC } else R,by rw[xT];split<;>simp [hi], ?_, ?_, ?_,fun j x hx=>⟨⟨x, ?_⟩,fun cur cur' T f T' f' h h'=> ?_⟩⟩
 ·split<;>rfl
 ·split<;>exact id
 ·exact id
 ·split
  ·exact GC hx
  ·exact hx
 ·rw[h]at h'
  simp at h'
  rw[h'.1]
theorem En {w:World} {γ:Labels} {φ:Nat→Nat} {σ:Sto} (k:Nat) (hS:Sim γ φ (at_ σ) w):Sim γ φ (at_ (nilK k σ)) w:=by
 have hL:=wh w γ φ k σ
 refine⟨hS.bound,fun i R hi=> ?_,hS.adm⟩
 rw[xT]at hi
 split at hi
 ·rename_i h
  subst h
  simp only[zm]at hi
  obtain⟨R0,h0,rfl⟩:=hi
  rcases hS.root i R0 h0 with h1 | ⟨cur,T,h1,h2,h3,h4⟩
  ·exact .inl (by simp [h1])
  ·refine .inr ⟨cur,T,h1,h2,by simpa using h3,fun j av hav=> ?_⟩
   rw[List.getElem?_map,zm]at hav
   obtain⟨av0,ha0,rfl⟩:=hav
   obtain⟨v,hv,hr⟩:=h4 j av0 ha0
   refine⟨v,hv, ?_⟩
   have hm:=CRel.mono (Kst.refl _ _) hL (fun _ _ h=>h) (fun _ _ _ _=>rfl) hr
   cases av0<;>first | exact hm | skip
   simp only[CRel,Rel]at hm
   subst hm
   simp [nilC,CRel,Rel,Rd]
 ·rcases hS.root i R hi with h1 | ⟨cur,T,h1,h2,h3,h4⟩
  ·exact .inl h1
  ·refine .inr ⟨cur,T,h1,h2,h3,fun j av hav=> ?_⟩
   obtain⟨v,hv,hr⟩:=h4 j av hav
   exact⟨v,hv,CRel.mono (Kst.refl _ _) hL (fun _ _ h=>h) (fun _ _ _ _=>rfl) hr⟩
theorem Wk.nilR {m0:Nat} (k:Nat) {e:List AV} {σ σ':Sto} (h:nilK k σ=σ'):Wk m0 e σ e σ':=by
 subst h
 intro γ φ w vs hS hE
 refine⟨γ,φ,Kst.refl _ _,En k hS,RelL.mono (Kst.refl _ _) (wh w γ φ k σ) _ _ hE,fun i R hk hR hg=>⟨Stay.refl, ?_⟩⟩
 refine⟨if i=k then { R with cells:=R.cells.map nilC } else R,by rw[xT];split<;>simp [hR], ?_⟩
 split<;>exact hg
end Go.Lift
namespace Go.Lift
open Go.RowKit
def dropG (ρ:Nat→Option Nat):List Bool→List AV→List AV
 | _,[]=>[]
 | [],x :: l=>rn ρ x :: dropG ρ [] l
 | b :: bs,x :: l=>(bif b then .any else rn ρ x) :: dropG ρ bs l
theorem rK (ρ:Nat→Option Nat):∀ (bs:List Bool) (l:List AV),(dropG ρ bs l).length=l.length
 | [],[]=>rfl
 | _ :: _,[]=>rfl
 | [],x :: l=>by simp [dropG,rK ρ [] l]
 | b :: bs,x :: l=>by simp [dropG,rK ρ bs l]
theorem rL (ρ:Nat→Option Nat):∀ (bs:List Bool) (l:List AV) (j:Nat),(dropG ρ bs l)[j]? =(l[j]?).map fun x=>bif bs.getD j false then .any else rn ρ x
 | [],[],_=>by simp [dropG]
 | _ :: _,[],_=>by simp [dropG]
 | [],x :: l,0=>by simp [dropG]
 | [],x :: l,j+1=>by
  simp only[dropG,List.getElem?_cons_succ]
  rw[rL ρ [] l j]
  simp
 | b :: bs,x :: l,0=>by simp [dropG]
 | b :: bs,x :: l,j+1=>by
  simp only[dropG,List.getElem?_cons_succ]
  rw[rL ρ bs l j]
  simp
theorem Wk.dropG {m0:Nat} (dead:List Bool) (ids:List Nat) (m:Nat) {e e':List AV} {σ σ':Sto} (hm:m0≤m) (hl:m≤σ.length) (hn:ids.Nodup) (hi:(ids.all fun k=>decide (m≤k))=true) (h1:dropG (nrmR m ids) dead e=e') (h2:renS m ids σ=σ'):Wk m0 e σ e' σ':=by
 subst h1 h2
 intro γ φ w vs hS hE
 have hR:=Gs hl hn (fun k hk=>by have:=List.all_eq_true.1 hi k hk;simpa using this) φ
 obtain⟨hK',hS'⟩:=hS.rn hR
 refine⟨_,_,hK',hS',RelL.of_get ?_ fun i x hx=> ?_,fun k R hk hRk hg=> ?_⟩
 ·have:=hE.len;simpa [rK]using this
 ·rw[rL]at hx
  simp only[zm]at hx
  obtain⟨y,hy,rfl⟩:=hx
  obtain⟨v,hv,hr⟩:=hE.get hy
  refine⟨v,hv, ?_⟩
  cases dead.getD i false
  ·exact Rel.rn hR y v hr
  ·simp [Rel]
 ·have hk':k<m:=by omega
  exact⟨⟨by simp [hk'],fun hl=>by simp [hl,Lab.rn,nrmR,hk']⟩,{ R with cells:=rnL (nrmR m ids) R.cells },by rw[tw hl,if_pos hk',hRk];rfl,hg⟩
section
variable {m0 : Nat} {e : List AV} {σ : Sto}
end
section
variable {ρ : Nat → Option Nat} {a0 a1 a2 a3 a4 a5 a6 a7 a8 a9 a10 a11 a12 a13 a14 a15 : AV} {l : List AV} {b0 b1 b2 b3 b4 b5 b6 b7 b8 b9 b10 b11 b12 b13 b14 b15 b : Bool} {bs : List Bool}
end
theorem dY {m k:Nat} (h:m≤k):(∀ av,Lift.rn (cut m) (Lift.rn (fg k) av)=Lift.rn (cut m) av)∧∀ l,rnL (cut m) (rnL (fg k) l)=rnL (cut m) l:=by
 have key:∀ i,(i=k∧cut m i=none)∨(i≠k):=fun i=>by
  by_cases e:i=k
  ·exact .inl ⟨e,by unfold cut;rw[if_neg (by omega)]⟩
  ·exact .inr e
 have h2:∀ (av:AV),Lift.rn (cut m) (Lift.rn (fg k) av)=Lift.rn (cut m) av:=by
  intro av
  refine AV.rec (motive_1:=fun av=>Lift.rn (cut m) (Lift.rn (fg k) av)=Lift.rn (cut m) av) (motive_2:=fun l=>rnL (cut m) (rnL (fg k) l)=rnL (cut m) l) rfl rfl rfl (fun _=>rfl) ?_ ?_ ?_ ?_ (fun _ _=>rfl) (fun _=>rfl) (fun _=>rfl)
   (fun l h=>by simp only[Lift.rn,h]) (fun l h=>by simp only[Lift.rn,h]) (fun f l h=>by simp only[Lift.rn,h]) rfl (fun x l hx hl=>by simp only[rnL,hx,hl]) av
  ·intro i a b
   rcases key i with ⟨e,h1⟩ | e
   ·subst e;simp [Lift.rn,fg,h1]
   ·simp [Lift.rn,fg,e]
  ·intro i a
   rcases key i with ⟨e,h1⟩ | e
   ·subst e;simp [Lift.rn,fg,h1]
   ·simp [Lift.rn,fg,e]
  ·intro i a
   rcases key i with ⟨e,h1⟩ | e
   ·subst e;simp [Lift.rn,fg,h1]
   ·simp [Lift.rn,fg,e]
  ·intro i a b
   rcases key i with ⟨e,h1⟩ | e
   ·subst e;simp [Lift.rn,fg,h1]
   ·simp [Lift.rn,fg,e]
 exact⟨h2,fun l=>by rw[aP,aP,aP,List.map_map];exact List.map_congr_left fun x _=>h2 x⟩
theorem nh {m k:Nat} (h:m≤k):∀ (bs:List Bool) (l:List AV),bU m bs (rnL (fg k) l)=bU m bs l
 | _,[]=>by cases ‹List Bool› <;>rfl
 | [],x :: l=>by simp only[rnL,bU,(dY h).1,nh h [] l]
 | b :: bs,x :: l=>by simp only[rnL,bU,(dY h).1,nh h bs l]
theorem xV {k j k' n:Nat} {l:List D} {σ:Sto} {i:Nat} (h:i≠k'):(adS k j k' n l σ)[i]? =(σ[i]?).map (Option.map fun R=>if i=k then { R with cells:=(rnL (fg k') R.cells).set j (.tr (.sl n l)) } else { R with cells:=rnL (fg k') R.cells }):=by
 unfold adS
 rw[List.getElem?_mapIdx,List.getElem?_map,List.getElem?_set,if_neg (Ne.symm h)]
 cases σ[i]? with
 | none=>rfl
 | some x=>
  cases x with
  | none=>by_cases e:i=k<;>simp [e]
  | some R=>by_cases e:i=k<;>simp [e]
theorem Wk.ad3 {m0 m:Nat} (dead:List Bool) (k z q:Nat) (g:Bool) {τ:Sto} {A B:List AV} {e:List AV} {n0 n1 n2:Nat} {r0 r1 r2:Root} {l0 l1 l2:List D} (hm:m0≤m) (hτ:τ.length=m) (hA:A.length=q)
  (hk:τ[k]? =some (some ⟨z,g,A++[.own m 0 n0,.own (m+1) 0 n1,.own (m+2) 0 n2]++B⟩))
  (t0:treL r0.cells=some l0) (t1:treL r1.cells=some l1) (t2:treL r2.cells=some l2) (e0:l0.length=n0*r0.e) (e1:l1.length=n1*r1.e) (e2:l2.length=n2*r2.e)
  (f1:∀ ρ,rnL ρ r1.cells=r1.cells) (f2:∀ ρ,rnL ρ r2.cells=r2.cells):
  Wk m0 e (τ++[some r0,some r1,some r2]) (bU m dead e) (eJ m (τ.set k (some ⟨z,g,A++[.tr (.sl n0 l0),.tr (.sl n1 l1),.tr (.sl n2 l2)]++B⟩))):=by
 have hkm:k<m:=by rw[← hτ];exact(List.getElem?_eq_some_iff.1 hk).1
 have a0:at_ (τ++[some r0,some r1,some r2]) m=some r0:=by subst hτ;simp [at_]
 have a1:at_ (τ++[some r0,some r1,some r2]) (m+1)=some r1:=by subst hτ;simp [at_]
 have a2:at_ (τ++[some r0,some r1,some r2]) (m+2)=some r2:=by subst hτ;simp [at_]
 have ak:at_ (τ++[some r0,some r1,some r2]) k=some ⟨z,g,A++[.own m 0 n0,.own (m+1) 0 n1,.own (m+2) 0 n2]++B⟩:=by simp [at_,List.getElem?_append_left (show k<τ.length by omega),hk]
 have g0:(A++[AV.own m 0 n0,.own (m+1) 0 n1,.own (m+2) 0 n2]++B)[q]? =some (.own m 0 n0):=by subst hA;simp
 have g1:(A++[AV.own m 0 n0,.own (m+1) 0 n1,.own (m+2) 0 n2]++B)[q+1]? =some (.own (m+1) 0 n1):=by subst hA;simp
 have g2:(A++[AV.own m 0 n0,.own (m+1) 0 n1,.own (m+2) 0 n2]++B)[q+2]? =some (.own (m+2) 0 n2):=by subst hA;simp
 have h1:=Wk.adopt (m0:=m0) k q m n0 (e:=e) hm (by omega) ak a0 g0 t0 e0 rfl rfl
 have b1:=s5 (k:=k) (j:=q) (k':=m) (n:=n0) (l:=l0) (σ:=τ++[some r0,some r1,some r2]) (m+1)
 have b2:=s5 (k:=k) (j:=q) (k':=m) (n:=n0) (l:=l0) (σ:=τ++[some r0,some r1,some r2]) (m+2)
 have bk:=s5 (k:=k) (j:=q) (k':=m) (n:=n0) (l:=l0) (σ:=τ++[some r0,some r1,some r2]) k
 rw[if_neg (by omega),a1,Option.map_some,if_neg (by omega),f1]at b1
 rw[if_neg (by omega),a2,Option.map_some,if_neg (by omega),f2]at b2
 rw[if_neg (by omega),ak,Option.map_some,if_pos rfl]at bk
 generalize hS1:adS k q m n0 l0 (τ++[some r0,some r1,some r2])=S1 at h1 b1 b2 bk
 have h2:=Wk.adopt (m0:=m0) k (q+1) (m+1) n1 (e:=rnL (fg m) e) (by omega) (by omega) bk b1 (by
  rw[List.getElem?_set,if_neg (by omega),aP,List.getElem?_map,g1]
  simp [Lift.rn,fg]) t1 e1 rfl rfl
 have c2:=s5 (k:=k) (j:=q+1) (k':=m+1) (n:=n1) (l:=l1) (σ:=S1) (m+2)
 have ck:=s5 (k:=k) (j:=q+1) (k':=m+1) (n:=n1) (l:=l1) (σ:=S1) k
 rw[if_neg (by omega),b2,Option.map_some,if_neg (by omega)]at c2
 simp only[f2]at c2
 rw[if_neg (by omega),bk,Option.map_some,if_pos rfl]at ck
 generalize hS2:adS k (q+1) (m+1) n1 l1 S1=S2 at h2 c2 ck
 have h3:=Wk.adopt (m0:=m0) k (q+2) (m+2) n2 (e:=rnL (fg (m+1)) (rnL (fg m) e)) (by omega) (by omega) ck c2 (by
  rw[List.getElem?_set,if_neg (by omega),aP,List.getElem?_map,List.getElem?_set,if_neg (by omega),aP,List.getElem?_map,g2]
  simp [Lift.rn,fg]) t2 e2 rfl rfl
 refine h1.trans (h2.trans (h3.trans (Wk.drop dead m hm ?_ ?_)))
 ·rw[nh (by omega),nh (by omega),nh (by omega)]
 ·refine List.ext_getElem? fun i=> ?_
  unfold eJ
  simp only[List.getElem?_map,List.getElem?_take]
  by_cases hi:i<m
  ·rw[if_pos hi,if_pos hi,xV (by omega), ← hS2,xV (by omega), ← hS1,xV (by omega),List.getElem?_append_left (by omega),List.getElem?_set]
   by_cases e:k=i
   ·subst e
    rw[if_pos rfl,if_pos (by omega),hk]
    simp only[Option.map_some,if_true]
    simp only[aP,List.map_set,Lift.rn,List.map_map,List.map_append,List.map_cons,List.map_nil]
    have hc:∀ x:AV,Lift.rn (cut m) (Lift.rn (fg (m+2)) (Lift.rn (fg (m+1)) (Lift.rn (fg m) x)))=Lift.rn (cut m) x:=fun x=>by
     rw[(dY (by omega)).1,(dY (by omega)).1,(dY (by omega)).1]
    subst hA
    have hc':(Lift.rn (cut m) ∘ Lift.rn (fg (m+2)) ∘ Lift.rn (fg (m+1)) ∘ Lift.rn (fg m))=Lift.rn (cut m):=funext hc
    rw[hc']
    simp [List.set_append]
   ·rw[if_neg e]
    cases hx:τ[i]? with
    | none=>simp
    | some x=>
     cases x with
     | none=>simp
     | some R0=>
      simp only[Option.map_some,if_neg (Ne.symm e)]
      rw[(dY (by omega)).2,(dY (by omega)).2,(dY (by omega)).2]
  ·rw[if_neg hi,if_neg hi]
theorem Wk.eq {m0:Nat} {e e' e1:List AV} {σ σ' σ1:Sto} (h:Wk m0 e σ e1 σ1) (h1:e1=e') (h2:σ1=σ'):Wk m0 e σ e' σ':=h1 ▸ h2 ▸ h
end Go.Lift
namespace Go.Lift
open Go.RowKit
end Go.Lift
