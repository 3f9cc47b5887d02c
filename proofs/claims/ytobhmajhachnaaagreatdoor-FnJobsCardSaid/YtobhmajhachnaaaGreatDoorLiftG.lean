/-
 LIFT, part 31: loops whose environment is the one before them, but for some slots; loops over states of any kind. No condition.
-/
import Derived.Test.YtobhmajhachnaaaGreatDoorLiftF
namespace Go.Lift
open Go.RowKit
def cf(m:Nat):List Bool→List AV→List AV
 |_,[]=>[]
 | [],x :: l=>rn (cut m) x :: cf m [] l
 |b :: bs,x :: l=>(bif b then .any else rn (cut m) x) :: cf m bs l
theorem uO(m:Nat):∀(bs:List Bool) (l:List AV),(cf m bs l).length=l.length
 | [],[]=>rfl
 |_ :: _,[]=>rfl
 | [],x :: l=>by simp [cf,uO m [] l]
 |b :: bs,x :: l=>by simp [cf,uO m bs l]
theorem uP(m:Nat):∀(bs:List Bool) (l:List AV) (j:Nat),(cf m bs l)[j]? =(l[j]?).map fun x=>bif bs.getD j false then .any else rn (cut m) x
 | [],[],_=>by simp [cf]
 |_ :: _,[],_=>by simp [cf]
 | [],x :: l,0=>by simp [cf]
 | [],x :: l,j+1=>by
  simp only[cf,List.getElem?_cons_succ];rw[uP m [] l j]
  simp
 |b :: bs,x :: l,0=>by simp [cf]
 |b :: bs,x :: l,j+1=>by
  simp only[cf,List.getElem?_cons_succ];rw[uP m bs l j]
  simp
theorem Wk.drop{m0:Nat}(dead:List Bool)(m:Nat){e e':List AV}{σ σ':Sto}(hn:m0≤m)(h1:cf m dead e=e')(h2:fu m σ=σ'):Wk m0 e σ e' σ':=by
 subst h1 h2;intro γ φ w vs hS hE;obtain⟨hK',hS'⟩:=hS.rn (w3 m σ φ);refine⟨_,φ,hK',hS',RelL.of_get ?_ fun i x hx=> ?_,fun k R hk hR hg=> ?_⟩
 ·have:=hE.len;simpa [uO]using this
 ·rw[uP]at hx
  simp only[zm]at hx;obtain⟨y,hy,rfl⟩:=hx;obtain⟨v,hv,hr⟩:=hE.get hy;refine⟨v,hv, ?_⟩;cases dead.getD i false
  ·exact Rel.rn (w3 m σ φ) y v hr
  ·simp [Rel]
 ·have hk':k<m:=by omega
  exact⟨⟨rfl,fun hl=>by simp [hl,Lab.rn,cut,hk']⟩,{ R with cells:=rnL (cut m) R.cells },by rw[tH,if_pos hk',hR];rfl,hg⟩
def nogS(ks:List Nat):Nat→Sto→Sto
 |_,[]=>[]
 |i,x :: l=>(if ks.contains i then x.map fun R=>{ R with g:=false } else x) :: nogS ks (i+1) l
theorem wX(ks:List Nat):∀(σ:Sto) (i j:Nat),(nogS ks i σ)[j]? =(σ[j]?).map fun x=>if ks.contains (i+j) then x.map fun R=>{ R with g:=false } else x
 | [],_,_=>by simp [nogS]
 |x :: l,i,0=>by simp [nogS]
 |x :: l,i,j+1=>by
  simp only[nogS,List.getElem?_cons_succ];rw[wX ks l (i+1) j,show i+1+j=i+(j+1)by omega]
theorem Bh(ks:List Nat)(σ:Sto)(k:Nat):at_ (nogS ks 0 σ) k=(at_ σ k).map fun R=>if ks.contains k then { R with g:=false } else R:=by
 simp only[at_,wX,Nat.zero_add];cases σ[k]? with
 |none=>rfl
 |some x=>
  simp only[Option.map_some,Option.join_some];split<;>cases x<;>simp_all
theorem wW(w:World)(γ:Labels)(φ:Nat→Nat)(ks:List Nat)(σ:Sto):Live w γ φ (at_ σ) w γ φ (at_ (nogS ks 0 σ)):=by
 intro k R hk;refine⟨rfl,_,by rw[Bh,hk];rfl, ?_, ?_,id,fun j x hx=>⟨⟨x, ?_⟩,fun cur cur' T f T' f' h h'=> ?_⟩⟩
 ·split<;>rfl
 ·split
  ·intro h;cases h
  ·exact id
 ·split<;>exact hx
 ·rw[h]at h'
  simp at h';rw[h'.1]
theorem Er{w:World}{γ:Labels}{φ:Nat→Nat}{σ:Sto}(ks:List Nat)(h:Sim γ φ (at_ σ) w):Sim γ φ (at_ (nogS ks 0 σ)) w:=by
 refine⟨h.bound,fun k R hk=> ?_,h.adm⟩;rw[Bh]at hk;simp only[zm]at hk;obtain⟨R0,h0,rfl⟩:=hk;have hc:(if ks.contains k then { R0 with g:=false } else R0).cells=R0.cells:=by split<;>rfl
 rw[hc];rcases h.root k R0 h0 with h1|⟨cur,T,h1,h2,h3,h4⟩
 ·exact .inl h1
 ·refine .inr ⟨cur,T,h1,h2,h3,fun j av hav=> ?_⟩
  obtain⟨v,hv,hr⟩:=h4 j av hav;exact⟨v,hv,CRel.mono (Kst.refl _ _) (wW w γ φ ks σ) (fun _ _ h=>h) (fun _ _ _ _=>rfl) hr⟩
theorem Wk.nog{m0:Nat}(ks:List Nat){e:List AV}{σ σ':Sto}(h:nogS ks 0 σ=σ'):Wk m0 e σ e σ':=by
 subst h;intro γ φ w vs hS hE;refine⟨γ,φ,Kst.refl _ _,Er ks hS,RelL.mono (Kst.refl _ _) (wW w γ φ ks σ) _ _ hE,fun k R hk hR hg=>⟨Stay.refl, ?_⟩⟩;refine⟨_,by rw[Bh,hR];rfl, ?_⟩;split
 ·rfl
 ·exact hg
def nogA:Sto→Sto
 | []=>[]
 |x :: l=>x.map (fun R=>{ R with g:=false }) :: nogA l
theorem Kd(σ:Sto):nogA σ=nogS (List.range σ.length) 0 σ:=by
 refine List.ext_getElem? fun j=> ?_
 rw[wX];have h:∀(σ:Sto) (j:Nat),(nogA σ)[j]? =(σ[j]?).map fun x=>x.map fun R=>{ R with g:=false }:=by
  intro σ
  induction σ with
  |nil=>intro j;simp [nogA]
  |cons x l ih=>intro j;cases j with
   |zero=>simp [nogA]
   |succ j=>simpa [nogA]using ih j
 rw[h];by_cases hj:j<σ.length
 ·rw[zg hj]
  simp [hj]
 ·rw[List.getElem?_eq_none (by omega)]
  rfl
theorem Wk.nogA{m0:Nat}{e:List AV}{σ:Sto}:Wk m0 e σ e (nogA σ):=Wk.nog _ (Kd σ).symm
theorem Does.nog{P:Program}{f:FuncId}{args:List AV}{σ0 σ1 σ2:Sto}{res:AV}(ks:List Nat)(h:Does P f args σ0 res σ1)(h2:nogS ks 0 σ1=σ2):Does P f args σ0 res σ2:=by
 subst h2;intro γ φ w vals hS hr
 refine(h γ φ w vals hS hr).mono fun en w' hq=> ?_
 obtain⟨v,γ',φ',rfl,hK,h1,h2,h3⟩:=hq;exact⟨v,γ',φ',rfl,hK,h1,Er ks h2,Rel.mono (Kst.refl _ _) (wW w' γ' φ' ks σ1) _ _ h3⟩
def setE:List AV→List (Nat × AV)→List AV
 |e,[]=>e
 |e,(i,v) :: l=>setE (e.set i v) l
def setC:Sto→Nat→List AV→Sto
 | [],_,_=>[]
 |x :: l,0,c=>x.map (fun R=>{ R with cells:=c }) :: l
 |x :: l,k+1,c=>x :: setC l k c
def setS:Sto→List (Nat × List AV)→Sto
 |σ,[]=>σ
 |σ,(k,c) :: l=>setS (setC σ k c) l
section
variable {e : List AV} {σ : Sto} {i k z : Nat} {cs : List AV} {g0 : Bool}
theorem HG:nogA []=[]:=nr rfl
theorem Fp:nogA (some ⟨z,g0,cs⟩ :: σ)=some ⟨z,false,cs⟩ :: nogA σ:=nr rfl
end
section
variable {e : List AV} {σ : Sto} {i k z : Nat} {v : AV} {l : List (Nat × AV)} {c c' : List AV} {g : Bool} {r : List (Nat × List AV)} {x : Option Root}
theorem GX:setE e []=e:=nr rfl
theorem Fb:setE e ((i,v) :: l)=setE (e.set i v) l:=nr rfl
theorem Fc:setC (some ⟨z,g,c⟩ :: σ) 0 c'=some ⟨z,g,c'⟩ :: σ:=nr rfl
theorem Fd:setC (x :: σ) (k+1) c'=x :: setC σ k c':=nr rfl
theorem GW:setS σ []=σ:=nr rfl
theorem Fa:setS σ ((k,c) :: r)=setS (setC σ k c) r:=nr rfl
end
section
variable {a0 a1 a2 a3 a4 a5 a6 a7 a8 a9 a10 a11 a12 a13 a14 a15 : AV} {l : List AV}
theorem IJ(m:Nat){b0 b1 b2 b3 b4 b5 b6 b7 b8 b9 b10 b11 b12 b13 b14 b15:Bool}{bs:List Bool}:cf m (b0 :: b1 :: b2 :: b3 :: b4 :: b5 :: b6 :: b7 :: b8 :: b9 :: b10 :: b11 :: b12 :: b13 :: b14 :: b15 :: bs) (ch a0 a1 a2 a3 a4 a5 a6 a7 a8 a9 a10 a11 a12 a13 a14 a15 l)=ch (bif b0 then .any else rn (cut m) a0) (bif b1 then .any else rn (cut m) a1) (bif b2 then .any else rn (cut m) a2) (bif b3 then .any else rn (cut m) a3) (bif b4 then .any else rn (cut m) a4) (bif b5 then .any else rn (cut m) a5) (bif b6 then .any else rn (cut m) a6) (bif b7 then .any else rn (cut m) a7) (bif b8 then .any else rn (cut m) a8) (bif b9 then .any else rn (cut m) a9) (bif b10 then .any else rn (cut m) a10) (bif b11 then .any else rn (cut m) a11) (bif b12 then .any else rn (cut m) a12) (bif b13 then .any else rn (cut m) a13) (bif b14 then .any else rn (cut m) a14) (bif b15 then .any else rn (cut m) a15) (cf m bs l):=nr rfl
theorem DM(m:Nat){b:Bool}{bs:List Bool}:cf m (b :: bs) (a0 :: l)=(bif b then .any else rn (cut m) a0) :: cf m bs l:=nr rfl
theorem G6(m:Nat):cf m [] []=[]:=nr rfl
end
theorem nz:((0:Nat):Int)=0:=Int.natCast_zero
theorem na(a b:Nat):((a+b:Nat):Int)=a+b:=Int.natCast_add a b
theorem n1:((1:Nat):Int)=1:=Int.natCast_one
attribute [go_sem] IJ DM G6 cut cond_true cond_false
section
variable {P : Program} {m0 : Nat} {N : List AV → Sto → Prop} {X : Nat → List AV → Sto → Prop} {R : List AV → Sto → Prop} {e : List AV} {σ : Sto}
theorem bC{b:C}{e':List AV}{σ':Sto}(h:Wk m0 e σ e' σ')(h2:wpN P m0 (.loop b) N X R e' σ'):wpN P m0 (.loop b) N X R e σ:=by
 unfold wpN at*;rw[wpC]at*;obtain⟨J,⟨m,e2,σ2,h3,h4⟩,h5⟩:=h2;exact⟨J,⟨m,e2,σ2,h.trans h3,h4⟩,h5⟩
theorem aA{b:C}(n:Nat)(dead:List Bool)(ov:Nat→List (Nat × AV))(so:Nat→List (Nat × List AV)){E:Nat→List AV}{S:Nat→Sto}
  (hE:∀k,setE (cf σ.length dead e) (ov k)=E k:=by intro _;(simp only[go_sem,seval,reduceCtorEq]);first|done|rfl) (hS:∀k,setS (fu σ.length σ) (so k)=S k:=by intro _;(simp only[go_sem,seval,reduceCtorEq]);first|done|rfl) (hm:m0≤σ.length:=by exact Nat.le_of_ble_eq_true rfl) (h1:cf σ.length dead e=E 0:=by first|(simp only[go_sem,seval,reduceCtorEq,nz,na,n1];first|done|rfl)|rfl) (h2:fu σ.length σ=S 0:=by first|(simp only[go_sem,seval,reduceCtorEq,nz,na,n1];first|done|rfl)|rfl)
  (hr:∀k,k≤n→wpN P m0 b (Next m0 n E S k) X R (E k) (S k)):wpN P m0 (.loop b) N X R e σ:=jc n E S (Wk.drop dead _ hm h1 h2) hr
theorem cI{b:C}(n:Nat)(dead:List Bool)(I:Nat→Prop)(ov:Nat→List (Nat × AV))(so:Nat→List (Nat × List AV)){E:Nat→List AV}{S:Nat→Sto}
  (hE:∀k,setE (cf σ.length dead e) (ov k)=E k:=by intro _;(simp only[go_sem,seval,reduceCtorEq]);first|done|rfl) (hS:∀k,setS (fu σ.length σ) (so k)=S k:=by intro _;(simp only[go_sem,seval,reduceCtorEq]);first|done|rfl) (hi:I 0) (hm:m0≤σ.length:=by exact Nat.le_of_ble_eq_true rfl) (h1:cf σ.length dead e=E 0:=by first|(simp only[go_sem,seval,reduceCtorEq,nz,na,n1];first|done|rfl)|rfl) (h2:fu σ.length σ=S 0:=by first|(simp only[go_sem,seval,reduceCtorEq,nz,na,n1];first|done|rfl)|rfl)
  (hr:∀k,k≤n→I k→wpN P m0 b (NextI m0 n I E S k) X R (E k) (S k)):wpN P m0 (.loop b) N X R e σ:=lM n I E S hi (Wk.drop dead _ hm h1 h2) hr
theorem Next.drop{n k:Nat}{E:Nat→List AV}{S:Nat→Sto}(dead:List Bool)(h:k<n)(hm:m0≤(S (k+1)).length:=by exact Nat.le_of_ble_eq_true rfl)(h1:cf (S (k+1)).length dead e=E (k+1):=by first|(simp only[go_sem,seval,reduceCtorEq,nz,na,n1];first|done|rfl)|rfl)(h2:fu (S (k+1)).length σ=S (k+1):=by first|(simp only[go_sem,seval,reduceCtorEq,nz,na,n1];first|done|rfl)|rfl):Next m0 n E S k e σ:=Next.mk h (Wk.drop dead _ hm h1 h2)
theorem NextI.drop{n k:Nat}{I:Nat→Prop}{E:Nat→List AV}{S:Nat→Sto}(dead:List Bool)(h:k<n)(hi:I (k+1))(hm:m0≤(S (k+1)).length:=by exact Nat.le_of_ble_eq_true rfl)(h1:cf (S (k+1)).length dead e=E (k+1):=by first|(simp only[go_sem,seval,reduceCtorEq,nz,na,n1];first|done|rfl)|rfl)(h2:fu (S (k+1)).length σ=S (k+1):=by first|(simp only[go_sem,seval,reduceCtorEq,nz,na,n1];first|done|rfl)|rfl):NextI m0 n I E S k e σ:=NextI.mk h hi (Wk.drop dead _ hm h1 h2)
def NextS{α:Type}(m0:Nat)(μ:α→Nat)(I:α→Prop)(E:α→List AV)(S:α→Sto)(s:α)(e:List AV)(σ:Sto):Prop:=
 ∃s',μ s'<μ s∧I s'∧Wk m0 e σ (E s') (S s')
theorem NextS.mk{α:Type}{μ:α→Nat}{I:α→Prop}{E:α→List AV}{S:α→Sto}{s:α}(s':α)(h:μ s'<μ s)(hi:I s')(hw:Wk m0 e σ (E s') (S s')):NextS m0 μ I E S s e σ:=⟨s',h,hi,hw⟩
theorem NextS.drop{α:Type}{μ:α→Nat}{I:α→Prop}{E:α→List AV}{S:α→Sto}{s:α}(dead:List Bool)(s':α)(h:μ s'<μ s)(hi:I s')(hm:m0≤(S s').length:=by exact Nat.le_of_ble_eq_true rfl)(h1:cf (S s').length dead e=E s':=by first|(simp only[go_sem,seval,reduceCtorEq,nz,na,n1];first|done|rfl)|rfl)(h2:fu (S s').length σ=S s':=by first|(simp only[go_sem,seval,reduceCtorEq,nz,na,n1];first|done|rfl)|rfl):NextS m0 μ I E S s e σ:=.mk s' h hi (Wk.drop dead _ hm h1 h2)
theorem rO{α:Type}{b:C}(s0:α)(μ:α→Nat)(dead:List Bool)(I:α→Prop)(ov:α→List (Nat × AV))(so:α→List (Nat × List AV)){E:α→List AV}{S:α→Sto}
  (hE:∀s,setE (cf σ.length dead e) (ov s)=E s:=by intro _;(simp only[go_sem,seval,reduceCtorEq]);first|done|rfl) (hS:∀s,setS (fu σ.length σ) (so s)=S s:=by intro _;(simp only[go_sem,seval,reduceCtorEq]);first|done|rfl) (hi:I s0) (hm:m0≤σ.length:=by exact Nat.le_of_ble_eq_true rfl) (h1:cf σ.length dead e=E s0:=by first|(simp only[go_sem,seval,reduceCtorEq,nz,na,n1];first|done|rfl)|rfl) (h2:fu σ.length σ=S s0:=by first|(simp only[go_sem,seval,reduceCtorEq,nz,na,n1];first|done|rfl)|rfl)
  (hr:∀s,I s→wpN P m0 b (NextS m0 μ I E S s) X R (E s) (S s)):wpN P m0 (.loop b) N X R e σ:=by
 have h0:Wk m0 e σ (E s0) (S s0):=Wk.drop dead _ hm h1 h2;refine wi (fun m e σ=>∃s,I s∧m=μ s∧e=E s∧σ=S s) ⟨_,_,_,h0,s0,hi,rfl,rfl,rfl⟩ ?_;rintro m e σ ⟨s,hs,rfl,rfl,rfl⟩;have:=hr s hs;unfold wpN at this ⊢;refine cast (congrArg (fun K=>wpC P m0 b K (E s) (S s)) ?_) this
 funext x e σ
 cases x with
 |normal=>
  refine propext ⟨fun⟨s',h1,h2,h3⟩=>⟨_,_,_,h1,h3,s',h2,rfl,rfl,rfl⟩, ?_⟩
  rintro⟨_,_,_,h1,h3,s',h2,rfl,rfl,rfl⟩
  exact⟨s',h1,h2,h3⟩
 |exit i=>rfl
 |ret=>rfl
end
section
variable {P : Program} {σ : Sto} {ev : O → AV} {T : Fg → AV → Sto → Prop}
theorem Gx(e:Nat)(z:List AV)(x:O):tI P σ ev (.clear e z x) T=match ev x with
  | .own k off n=>match at_ σ k with
   |some R=>z.length=e∧off+n*e≤R.cells.length∧(((R.cells.drop off).take (n*e)).all trB)=true∧
     T .no (.tup []) (σ.set k (some { R with cells:=R.cells.take off++cl n z++R.cells.drop (off+n*e) }))
   |none=>False
  |_=>False:=nr rfl
end
attribute [go_sem] Option.map_none Gx HG Fp GX Fb Fc Fd GW Fa
end Go.Lift
