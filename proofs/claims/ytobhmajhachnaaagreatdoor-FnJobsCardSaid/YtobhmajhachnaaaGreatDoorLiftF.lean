/-
 LIFT, part 30: a state seen otherwise: other names; what nobody will write any more; slices taken into a row and out of it. No condition.
-/
import Derived.Test.YtobhmajhachnaaaGreatDoorLiftD
namespace Go.Lift
open Go.RowKit
def bJ(live:List Nat)(ρ:Nat→Option Nat):Nat→List AV→List AV
 |_,[]=>[]
 |i,x :: l=>(if live.contains i then rn ρ x else .any) :: bJ live ρ (i+1) l
def renS(m:Nat)(ids:List Nat)(σ:Sto):Sto:=(σ.take m++ids.map (at_ σ)).map (Option.map fun R=>{ R with cells:=rnL (nrmR m ids) R.cells })
theorem wh{m:Nat}{ids:List Nat}{σ:Sto}(hl:m≤σ.length)(k':Nat):at_ (renS m ids σ) k'=(if k'<m then at_ σ k' else ((ids[k'-m]?).bind (at_ σ))).map (fun R=>{ R with cells:=rnL (nrmR m ids) R.cells }):=by
 have htl:(σ.take m).length=m:=by simp;omega
 simp only[renS,at_,List.getElem?_map,List.getElem?_append,htl];by_cases hk:k'<m
 ·rw[if_pos hk,if_pos hk,List.getElem?_take,if_pos hk]
  cases σ[k']? with
  |none=>rfl
  |some x=>cases x<;>rfl
 ·rw[if_neg hk,if_neg hk]
  cases hi:ids[k'-m]? with
  |none=>simp
  |some i=>
   simp only[Option.map_some,Option.bind_some,at_];cases σ[i]? with
   |none=>rfl
   |some x=>cases x<;>rfl
theorem K3{m:Nat}{ids:List Nat}{σ:Sto}(hl:m≤σ.length)(hnd:ids.Nodup)(hids:∀k∈ids,m≤k)(φ:Nat→Nat):
  Ren (nrmR m ids) φ (at_ σ) (fun k'=>if k'<m then φ k' else φ (ids.getD (k'-m) 0)) (at_ (renS m ids σ)):=by
 refine⟨fun k k' R hk hR=> ?_,fun k' R' hR'=> ?_,fun k1 k2 k' h1 h2=> ?_⟩
 ·unfold nrmR at hk
  split at hk
  ·rename_i hlt
   simp only[zj]at hk;subst hk;exact⟨by simp [hlt],by rw[wh hl,if_pos hlt,hR];rfl⟩
  ·simp only[zm]at hk
   obtain⟨j,hj,rfl⟩:=hk;have hg:=az hj;have hnl:¬ j+m<m:=by omega
   refine⟨by simp [hnl,hg], ?_⟩;rw[wh hl,if_neg hnl,show j+m-m=j by omega,hg];simp [hR]
 ·rw[wh hl]at hR'
  simp only[zm]at hR';obtain⟨R,hR,_⟩:=hR';split at hR
  ·rename_i hlt
   exact⟨k',R,by simp [nrmR,hlt],hR⟩
  ·rename_i hlt
   simp only[Option.bind_eq_some_iff]at hR;obtain⟨i,hi,hR⟩:=hR;have hil:¬ i<m:=by have:=hids i (List.mem_of_getElem? hi);omega
   refine⟨i,R, ?_,hR⟩;unfold nrmR;rw[if_neg hil,cz hnd hi]
   simp
   omega
 ·unfold nrmR at h1 h2
  split at h1<;>split at h2
  ·simp only[zj]at h1 h2;omega
  ·simp only[zj,zm]at h1 h2
   obtain⟨j,_,h2⟩:=h2;omega
  ·simp only[zj,zm]at h1 h2
   obtain⟨j,_,h1⟩:=h1;omega
  ·simp only[zm]at h1 h2
   obtain⟨j1,h3,h4⟩:=h1;obtain⟨j2,h5,h6⟩:=h2;have:j1=j2:=by omega
   subst this;have e1:=az h3;have e2:=az h5;rw[e1]at e2;simpa using e2
mutual
def mapA(g:AV→AV):AV→AV
 | .agg l=>.agg (mapL g l)
 | .tup l=>.tup (mapL g l)
 | .clo f l=>.clo f (mapL g l)
 | .any=>g .any | .und=>g .und | .nil=>g .nil | .d x=>g (.d x) | .own k o n=>g (.own k o n) | .sub k j=>g (.sub k j) | .ptr k o=>g (.ptr k o)
 | .sptr k j o=>g (.sptr k j o) | .rptr l o=>g (.rptr l o) | .tr x=>g (.tr x) | .lv n=>g (.lv n)
def mapL(g:AV→AV):List AV→List AV
 | []=>[]
 |x :: l=>mapA g x :: mapL g l
end
theorem dh(g:AV→AV):∀l,mapL g l=l.map (mapA g)
 | []=>rfl
 |x :: l=>by simp only[mapL,List.map_cons,dh g l]
def I0:AV→Bool
 | .agg _=>false
 | .tup _=>false
 | .clo _ _=>false
 |_=>true
section
variable {w w' : World} {γ γ' : Labels} {φ φ' : Nat → Nat} {s s' : St} {g : AV → AV}
theorem Rel.map(h:∀av v,I0 av=true→Rel w γ φ s av v→Rel w' γ' φ' s' (g av) v):∀(av:AV) (v:Value),Rel w γ φ s av v→Rel w' γ' φ' s' (mapA g av) v:=by
 intro av;refine AV.rec (motive_1:=fun av=>∀(u:Value),Rel w γ φ s av u→Rel w' γ' φ' s' (mapA g av) u)
  (motive_2:=fun l=>∀(vs:List Value),RelL w γ φ s l vs→RelL w' γ' φ' s' (mapL g l) vs) ?_ ?_ ?_ ?_ ?_ ?_ ?_ ?_ ?_ ?_ ?_ ?_ ?_ ?_ ?_ ?_ av
 ·intro v hr;exact h _ v rfl hr
 ·intro v hr;exact h _ v rfl hr
 ·intro v hr;exact h _ v rfl hr
 ·intro x v hr;exact h _ v rfl hr
 ·intro k o n v hr;exact h _ v rfl hr
 ·intro k j v hr;exact h _ v rfl hr
 ·intro k o v hr;exact h _ v rfl hr
 ·intro k j o v hr;exact h _ v rfl hr
 ·intro l o v hr;exact h _ v rfl hr
 ·intro x v hr;exact h _ v rfl hr
 ·intro n v hr;exact h _ v rfl hr
 ·intro l ih v hr
  simp only[mapA,Rel]at hr ⊢;obtain⟨vs,e,hl⟩:=hr;exact⟨vs,e,ih vs.toList hl⟩
 ·intro l ih v hr
  simp only[mapA,Rel]at hr ⊢;obtain⟨vs,e,hl⟩:=hr;exact⟨vs,e,ih vs.toList hl⟩
 ·intro f l ih v hr
  simp only[mapA,Rel]at hr ⊢;obtain⟨vs,e,hl⟩:=hr;exact⟨vs,e,ih vs.toList hl⟩
 ·intro vs hr;simpa only[mapL,RelL]using hr
 ·intro x l ihx ihl vs hr
  simp only[mapL,RelL]at hr ⊢;obtain⟨v,vs',e,hx,hl⟩:=hr;exact⟨v,vs',e,ihx v hx,ihl vs' hl⟩
theorem RelL.map(h:∀av v,I0 av=true→Rel w γ φ s av v→Rel w' γ' φ' s' (g av) v):∀(l:List AV) (vs:List Value),RelL w γ φ s l vs→RelL w' γ' φ' s' (mapL g l) vs
 | [],_,hr=>by simpa only[mapL,RelL]using hr
 |x :: l,vs,hr=>by
  simp only[mapL,RelL]at hr ⊢;obtain⟨v,vs',e,hx,hl⟩:=hr;exact⟨v,vs',e,Rel.map h x v hx,RelL.map h l vs' hl⟩
end
def fzG(k e:Nat)(ls:List D):AV→AV
 | .own i o n=>if i=k then .d (.sl n ((ls.drop o).take (n*e))) else .own i o n
 | .ptr i o=>if i=k then .any else .ptr i o
 | .sub i j=>if i=k then (match ls[j]? with
  |some x=>.d x
  |none=>.any) else .sub i j
 | .sptr i j o=>if i=k then .any else .sptr i j o
 | .any=>.any | .und=>.und | .nil=>.nil | .d x=>.d x | .rptr l o=>.rptr l o | .tr x=>.tr x | .lv n=>.lv n | .agg l=>.agg l | .tup l=>.tup l | .clo f l=>.clo f l
def frz(k e:Nat)(ls:List D)(σ:Sto):Sto:=(σ.set k none).map (Option.map fun R=>{ R with cells:=mapL (fzG k e ls) R.cells })
theorem y6(σ:Sto)(k i:Nat):at_ (σ.set k none) i=if i=k then none else at_ σ i:=by
 simp only[at_,List.getElem?_set];by_cases h:k=i
 ·subst h
  simp only[if_true];split<;>rfl
 ·rw[if_neg h,if_neg (Ne.symm h)]
theorem vw(σ:Sto)(f:Root→Root)(i:Nat):at_ (σ.map (Option.map f)) i=(at_ σ i).map f:=by
 simp only[at_,List.getElem?_map];cases σ[i]? with
 |none=>rfl
 |some x=>cases x<;>rfl
theorem Wk.freeze{m0:Nat}(k:Nat){R:Root}{ls:List D}{e e':List AV}{σ σ':Sto}(hk:m0≤k)(hR:at_ σ k=some R)(hc:cB R.cells=some ls)(h1:mapL (fzG k R.e ls) e=e')(h2:frz k R.e ls σ=σ'):Wk m0 e σ e' σ':=by
 subst h1 h2;intro γ φ w vs hS hE;obtain⟨hlen,hcd⟩:=ni hc
 let γ':Labels:=fun b=>match γ b with
  | .r i p=>if i=k then .im else .r i p
  |l=>l
 have hat:∀i,at_ (frz k R.e ls σ) i=if i=k then none else (at_ σ i).map fun R'=>{ R' with cells:=mapL (fzG k R.e ls) R'.cells }:=by
  intro i;rw[frz,vw,y6];split<;>rfl
 have him:∀b,Im w γ b→Im w γ' b:=fun b hb=>⟨hb.1,by simp only[γ',hb.2]⟩
 have hk':∀b p,γ b=.r k p→b<w.heap.size∧γ' b=.im:=fun b p hb=>⟨hS.bound _ _ _ hb,by simp only[γ',hb,if_true]⟩
 have hne:∀b i p,γ b=.r i p→i≠k→γ' b=.r i p:=fun b i p hb hi=>by simp only[γ',hb,if_neg hi]
 have hcell:∀(j:Nat) (x:D) (v:Value),ls[j]? =some x→(∀av,R.cells[j]? =some av→CRel w γ φ (at_ σ) k j av v)→Rd w (Im w γ') x v:=by
  intro j x v hx hv;obtain⟨av,hav,hd⟩:=hcd j x hx;exact tq him hk' hd (hv av hav)
 have hleaf:∀av v,I0 av=true→Rel w γ φ (at_ σ) av v→Rel w γ' φ (at_ (frz k R.e ls σ)) (fzG k R.e ls av) v:=by
  intro av v hlf hr;cases av with
  |lv n=>simpa only[fzG,Rel]using hr
  |own i o n=>
   simp only[fzG];split
   ·rename_i hi
    subst hi;simp only[Rel]at hr ⊢;obtain⟨R0,hR0,hr⟩:=hr;rw[hR]at hR0;obtain rfl:R=R0:=by simpa using hR0
    simp only[Rd];rcases hr with ⟨rfl,rfl,rfl⟩|⟨c,cur,T,rfl,hn,hl,hh,_⟩
    ·exact⟨none,0,rfl,Nat.le_refl _,.inl ⟨rfl,by simp⟩⟩
    ·refine⟨_,c,rfl,hn,.inr ⟨φ i,o,rfl,hk' _ _ hl |> fun h=>⟨h.1,h.2⟩,RdL.of_get fun j x hx=> ?_⟩⟩
     have hx':ls[o+j]? =some x:=by
      rw[List.getElem?_take]at hx;split at hx
      ·rwa [List.getElem?_drop]at hx
      ·cases hx
     rcases hS.root i R hR with h0|⟨cur0,T0,hh0,_,hsz,hcells⟩
     ·rw[h0]at hlen
      have:ls=[]:=List.eq_nil_of_length_eq_zero (by simpa using hlen);rw[this]at hx';simp at hx'
     ·rw[hh]at hh0
      simp at hh0;obtain⟨rfl,_⟩:=hh0;obtain⟨av,hav,hd⟩:=hcd _ _ hx';obtain⟨u,hu,hcr⟩:=hcells _ _ hav;exact⟨u,eZ hh hu,tq him hk' hd hcr⟩
   ·rename_i hi
    simp only[Rel]at hr ⊢;obtain⟨R0,hR0,hr⟩:=hr;refine⟨_,by rw[hat,if_neg hi,hR0];rfl, ?_⟩;rcases hr with hr|⟨c,cur,T,hv,hn,hl,hh,hcap⟩
    ·exact .inl hr
    ·exact .inr ⟨c,cur,T,hv,hn,hne _ _ _ hl hi,hh,hcap⟩
  |ptr i o=>
   simp only[fzG];split
   ·simp only[Rel]
   ·rename_i hi
    simp only[Rel]at hr ⊢;obtain⟨R0,hR0,hr⟩:=hr;exact⟨_,by rw[hat,if_neg hi,hR0];rfl,hr⟩
  |sub i j=>
   simp only[fzG];split
   ·rename_i hi
    subst hi;split
    ·rename_i x hx
     simp only[Rel]at hr ⊢;obtain⟨R0,x0,cur,T,f,hR0,hx0,hh,hv⟩:=hr;rw[hR]at hR0;obtain rfl:R=R0:=by simpa using hR0
     refine hcell j x v hx fun av hav=> ?_
     rcases hS.root i R hR with h0|⟨cur0,T0,hh0,_,hsz,hcells⟩
     ·rw[h0]at hav;simp at hav
     ·rw[hh]at hh0
      simp at hh0;obtain⟨rfl,_⟩:=hh0;obtain⟨u,hu,hcr⟩:=hcells _ _ hav;rw[hv]at hu;obtain rfl:v=u:=by simpa using hu
      exact hcr
    ·simp only[Rel]
   ·rename_i hi
    simp only[Rel]at hr ⊢;obtain⟨R0,x0,cur,T,f,hR0,hx0,hh,hv⟩:=hr;exact⟨_,x0,cur,T,f,by rw[hat,if_neg hi,hR0];rfl,by simp only[dh,List.getElem?_map,hx0];rfl,hh,hv⟩
  |sptr i j o=>
   simp only[fzG];split
   ·simp only[Rel]
   ·rename_i hi
    simp only[Rel]at hr ⊢;obtain⟨R0,x0,cur,T,f,b,n,c,hR0,hx0,hh,hv,e⟩:=hr;exact⟨_,x0,cur,T,f,b,n,c,by rw[hat,if_neg hi,hR0];rfl,by simp only[dh,List.getElem?_map,hx0];rfl,hh,hv,e⟩
  |any=>simp only[fzG,Rel]
  |und=>simpa only[fzG,Rel]using hr
  |nil=>simpa only[fzG,Rel]using hr
  |d x=>
   simp only[fzG,Rel]at hr ⊢;exact Rd.mono (fun b hb=>⟨him b hb,rfl⟩) x v hr
  |rptr l o=>
   simp only[fzG,Rel]at hr ⊢;obtain⟨b,o',e,hb,hl⟩:=hr;exact⟨b,o',e,him b hb,RdL.mono (fun b hb=>⟨him b hb,rfl⟩) l b o' hb hl⟩
  |tr x=>simp only[Rel]at hr
  |agg l=>cases hlf
  |tup l=>cases hlf
  |clo f l=>cases hlf
 refine⟨γ',φ,⟨rfl,rfl,rfl,Nat.le_refl _,fun b _ hn=>⟨rfl, ?_⟩,fun _ cur _ _ h=>⟨cur,h,rfl⟩⟩,⟨fun b i p hb=> ?_,fun i Ri hi=> ?_,fun b l hb=>by
  obtain⟨h1,cur,T,f,h2,h3⟩:=hS.adm b l hb;exact⟨(him b ⟨(Array.getElem?_eq_some_iff.1 h3).1,h1⟩).2,cur,T,f,h2,h3⟩⟩,RelL.map hleaf e vs hE,fun i Ri hi hRi hg=> ?_⟩
 ·cases hg:γ b with
  |r i p=>exact absurd hg (hn i p)
  |_=>simp only[γ',hg]
 ·cases hg:γ b with
  |r i' q=>exact hS.bound b i' q hg
  |_=>simp only[γ',hg]at hb;cases hb
 ·rw[hat]at hi
  split at hi
  ·cases hi
  ·rename_i hik
   simp only[zm]at hi;obtain⟨R0,hR0,rfl⟩:=hi;rcases hS.root i R0 hR0 with h0|⟨cur,T,hh,hg,hl,hcells⟩
   ·exact .inl (by simp [h0,mapL])
   ·refine .inr ⟨cur,T,hh,hne _ _ _ hg hik,by simpa [dh]using hl,fun j av hav=> ?_⟩
    simp only[dh,List.getElem?_map,zm]at hav;obtain⟨av0,h0,rfl⟩:=hav;obtain⟨u,hu,hr⟩:=hcells j av0 h0;refine⟨u,hu, ?_⟩;cases av0 with
    |tr x=>
     simp only[CRel,mapA,fzG]at hr ⊢;exact Tree.mono (by simp) (fun b q _ hb=>⟨hne b i q hb hik,rfl⟩) x u hr
    |_=>exact CRel.of_rel (Rel.map hleaf _ u (show Rel w γ φ (at_ σ) _ u from hr))
 ·have hik:i≠k:=by omega
  exact⟨⟨rfl,fun hl=>hne _ _ _ hl hik⟩,{ Ri with cells:=mapL (fzG k R.e ls) Ri.cells },by rw[hat,if_neg hik,hRi];rfl,hg⟩
def treD:AV→Option D
 | .d (.sl ..)=>none
 | .d x=>some x
 | .tr x=>some x
 |_=>none
def treL:List AV→Option (List D)
 | []=>some []
 |x :: l=>match treD x,treL l with
  |some y,some m=>some (y :: m)
  |_,_=>none
theorem Bq:∀{l:List AV} {m:List D},treL l=some m→m.length=l.length∧∀(i:Nat) (x:D),m[i]? =some x→∃av,l[i]? =some av∧treD av=some x
 | [],m,h=>by simp only[treL,zj]at h;subst h;simp
 |x :: l,m,h=>by
  simp only[treL]at h;split at h
  ·rename_i y m' hy hm
   simp only[zj]at h;subst h;obtain⟨h1,h2⟩:=Bq hm;refine⟨by simp [h1],fun i z hz=> ?_⟩;cases i with
   |zero=>simp at hz;subst hz;exact⟨x,by simp,hy⟩
   |succ i=>exact h2 i z (by simpa using hz)
  ·cases h
def adS(k j k' n:Nat)(l:List D)(σ:Sto):Sto:=
 ((σ.set k' none).map (Option.map fun R=>{ R with cells:=rnL (fg k') R.cells })).mapIdx fun i x=>if i=k then x.map fun R=>{ R with cells:=R.cells.set j (.tr (.sl n l)) } else x
theorem TreeL.of_get{w:World}{γ:Labels}{k:Nat}{p:List Nat}:∀{l:List D} {j:Nat} {vs:List Value},(∀(i:Nat) (x:D),l[i]? =some x→∃v,vs[i]? =some v∧Tree w γ k (p++[j+i]) x v)→TreeL w γ k p j l vs
 | [],_,_,_=>by simp only[TreeL]
 |x :: l,j,vs,h=>by
  simp only[TreeL];obtain⟨v,hv,ht⟩:=h 0 x (by simp);cases vs with
  |nil=>simp at hv
  |cons v' vs=>
   simp at hv;subst hv;refine⟨v',vs,rfl,by simpa using ht,TreeL.of_get fun i y hy=> ?_⟩;obtain⟨u,hu,ht⟩:=h (i+1) y (by simpa using hy);exact⟨u,by simpa using hu,by rwa [show j+1+i=j+(i+1)by omega]⟩
theorem uW{k j k' n:Nat}{l:List D}{σ:Sto}(i:Nat):at_ (adS k j k' n l σ) i=if i=k' then none else (at_ σ i).map fun R=>if i=k then { R with cells:=(rnL (fg k') R.cells).set j (.tr (.sl n l)) } else { R with cells:=rnL (fg k') R.cells }:=by
 have h:at_ (adS k j k' n l σ) i=if i=k then (at_ ((σ.set k' none).map (Option.map fun R=>{ R with cells:=rnL (fg k') R.cells })) i).map (fun R=>{ R with cells:=R.cells.set j (.tr (.sl n l)) }) else at_ ((σ.set k' none).map (Option.map fun R=>{ R with cells:=rnL (fg k') R.cells })) i:=by
  simp only[adS,at_,List.getElem?_mapIdx];by_cases h:i=k
  ·simp only[if_pos h]
   cases (List.map (Option.map fun R=>{ R with cells:=rnL (fg k') R.cells }) (σ.set k' none))[i]? with
   |none=>rfl
   |some x=>cases x<;>rfl
  ·simp only[if_neg h]
   cases (List.map (Option.map fun R=>{ R with cells:=rnL (fg k') R.cells }) (σ.set k' none))[i]? with
   |none=>rfl
   |some x=>rfl
 rw[h,vw,y6];by_cases h1:i=k'
 ·simp [h1]
 ·rw[if_neg h1,if_neg h1]
  split
  ·cases at_ σ i<;>rfl
  ·rfl
theorem Wk.adopt{m0:Nat}(k j k' n:Nat){R R':Root}{l:List D}{e e':List AV}{σ σ':Sto}(hm:m0≤k')(hkk:k≠k')(hR:at_ σ k=some R)(hR':at_ σ k'=some R')(hj:R.cells[j]? =some (.own k' 0 n))(hl:treL R'.cells=some l)(hn:l.length=n*R'.e)
  (h1:rnL (fg k') e=e') (h2:adS k j k' n l σ=σ'):Wk m0 e σ e' σ':=by
 subst h1 h2;intro γ φ w vs hS hE;obtain⟨hlen,hget⟩:=Bq hl
 let γ':Labels:=fun b=>match γ b with
  | .r i p=>if i=k' then .r k (j :: p) else .r i p
  |l=>l
 have hat:= @uW k j k' n l σ;have hne:∀b i p,γ b=.r i p→i≠k'→γ' b=.r i p:=fun b i p hb hi=>by simp only[γ',hb,if_neg hi]
 have hto:∀b q,γ b=.r k' ([]++q)→γ' b=.r k ([j]++q):=fun b q hb=>by simp only[List.nil_append]at hb;simp only[γ',hb,if_true];rfl
 have hK:Kst γ w γ' w:=⟨rfl,rfl,rfl,Nat.le_refl _,fun b _ hn=>⟨rfl,by
  cases hg:γ b with
  |r i p=>exact absurd hg (hn i p)
  |_=>simp only[γ',hg]⟩,fun _ cur _ _ h=>⟨cur,h,rfl⟩⟩
 have hL:LiveR (fg k') w γ φ (at_ σ) w γ' φ (at_ (adS k j k' n l σ)):=by
  intro i i' Ri hi hRi;obtain⟨rfl,hik⟩:=n7 hi;refine⟨rfl,if i'=k then { Ri with cells:=(rnL (fg k') Ri.cells).set j (.tr (.sl n l)) } else { Ri with cells:=rnL (fg k') Ri.cells },by rw[hat,if_neg hik,hRi];rfl,by split<;>rfl,by split<;>exact id,fun hlb=>hne _ _ _ hlb hik,fun j' x hx=>⟨?_,fun c c' T f T' f' e e'=>by rw[e]at e';simp at e';rw[e'.1]⟩⟩;have hx':(rnL (fg k') Ri.cells)[j']? =some (.tr x):=by rw[aR,List.getElem?_map,hx];rfl
  split
  ·have hjl:j'<(rnL (fg k') Ri.cells).length:=(List.getElem?_eq_some_iff.1 hx').1
   by_cases hjj:j=j'
   ·subst hjj
    exact⟨.sl n l,by simp [hjl]⟩
   ·exact⟨x,by rw[List.getElem?_set,if_neg hjj];exact hx'⟩
  ·exact⟨x,hx'⟩
 have htr:∀v,Rel w γ φ (at_ σ) (.own k' 0 n) v→Tree w γ' k [j] (.sl n l) v:=by
  intro v hr;simp only[Rel]at hr;obtain⟨R0,hR0,hr⟩:=hr;rw[hR']at hR0;obtain rfl:R'=R0:=by simpa using hR0
  simp only[Tree];rcases hr with ⟨rfl,rfl,_⟩|⟨c,cur,T,rfl,hnc,hlb,hh,_⟩
  ·exact⟨none,0,rfl,Nat.le_refl _,.inl ⟨rfl,rfl,rfl,List.eq_nil_of_length_eq_zero (by rw[hn];simp)⟩⟩
  ·refine⟨_,c,rfl,hnc,.inr ⟨φ k',cur,T,rfl,hto _ [] (by simpa using hlb),hh,TreeL.of_get fun i x hx=> ?_⟩⟩
   obtain⟨av,hav,hd⟩:=hget i x hx;rcases hS.root k' R' hR' with h0|⟨cur0,T0,hh0,_,hsz,hcells⟩
   ·rw[h0]at hav;simp at hav
   ·rw[hh]at hh0
    simp at hh0;obtain⟨rfl,_⟩:=hh0;obtain⟨u,hu,hcr⟩:=hcells i av hav;refine⟨u,by simpa using hu, ?_⟩;rw[Nat.zero_add];cases av with
    |tr y=>
     simp only[treD,zj]at hd;subst hd;simp only[CRel]at hcr;exact Tree.to (p:=[]) (p':=[j]) hto [i] y u hcr
    |d y=>
     cases y with
     |sl n' l'=>simp [treD]at hd
     |_=>
      simp only[treD,zj]at hd;subst hd;simp only[CRel,Rel,Rd]at hcr;subst hcr;simp only[Tree]
    |_=>simp [treD]at hd
 refine⟨γ',φ,hK,⟨fun b i p hb=> ?_,fun i Ri hi=> ?_,hS.adm.mono hK⟩,RelL.monoR hK hL e vs hE,fun i Ri hi hRi hg=> ?_⟩
 ·cases hg:γ b with
  |r i' q=>exact hS.bound b i' q hg
  |_=>simp only[γ',hg]at hb;cases hb
 ·rw[hat]at hi
  split at hi
  ·cases hi
  ·rename_i hik
   simp only[zm]at hi;obtain⟨R0,hR0,hRi⟩:=hi;have hcl:Ri.cells.length=R0.cells.length:=by rw[← hRi];split<;>simp [aR]
   rcases hS.root i R0 hR0 with h0|⟨cur,T,hh,hg,hle,hcells⟩
   ·exact .inl (List.eq_nil_of_length_eq_zero (by rw[hcl,h0];rfl))
   ·refine .inr ⟨cur,T,hh,hne _ _ _ hg hik,by rw[hcl];exact hle,fun j' av hav=> ?_⟩
    have hold:∀(j':Nat) (av:AV),(rnL (fg k') R0.cells)[j']? =some av→∃v,cur[j']? =some v∧CRel w γ' φ (at_ (adS k j k' n l σ)) i j' av v:=by
     intro j' av hav;rw[aR,List.getElem?_map,zm]at hav;obtain⟨av0,h0,rfl⟩:=hav;obtain⟨u,hu,hr⟩:=hcells j' av0 h0;exact⟨u,hu,CRel.monoR hK hL (fun b q _ hb=>⟨hne b i q hb hik,rfl⟩) hr⟩
    by_cases hik2:i=k
    ·subst hik2
     rw[if_pos rfl]at hRi;rw[hR]at hR0;obtain rfl:R=R0:=by simpa using hR0
     subst hRi;simp only[List.getElem?_set]at hav;split at hav
     ·rename_i hjj
      subst hjj;split at hav
      ·simp only[zj]at hav
       subst hav;obtain⟨v,hv,hr⟩:=hcells j _ hj;exact⟨v,hv,htr v hr⟩
      ·cases hav
     ·exact hold j' av hav
    ·rw[if_neg hik2]at hRi
     subst hRi;exact hold j' av hav
 ·have hik:i≠k':=by omega
  refine⟨⟨rfl,fun hl=>hne _ _ _ hl hik⟩,if i=k then { Ri with cells:=(rnL (fg k') Ri.cells).set j (.tr (.sl n l)) } else { Ri with cells:=rnL (fg k') Ri.cells },by rw[hat,if_neg hik,hRi];rfl, ?_⟩;split<;>exact hg
def Ln:D→AV
 | .sl n l=>.tr (.sl n l)
 |x=>.d x
def spG(k j k' n:Nat):AV→AV
 | .sub i j'=>if i=k∧j'=j then .own k' 0 n else .sub i j'
 | .sptr i j' o=>if i=k∧j'=j then .ptr k' o else .sptr i j' o
 | .any=>.any | .und=>.und | .nil=>.nil | .d x=>.d x | .rptr l o=>.rptr l o | .tr x=>.tr x | .lv n=>.lv n | .own i o n=>.own i o n | .ptr i o=>.ptr i o | .agg l=>.agg l | .tup l=>.tup l | .clo f l=>.clo f l
def spS(k j n e:Nat)(l:List D)(σ:Sto):Sto:=
 ((σ.map (Option.map fun R=>{ R with cells:=mapL (spG k j σ.length n) R.cells })).mapIdx fun i x=>if i=k then x.map fun R=>{ R with cells:=R.cells.set j (.own σ.length 0 n) } else x)++[some ⟨e,false,l.map Ln⟩]
theorem beqN(b:Nat):((none:Option Nat)==some b)=false:=rfl
theorem Kr(a b:Int):(if b<a then b else a)=min a b:=by rw[Int.min_def];split<;>split<;>omega
theorem Ks(a b:Int):(if a<b then b else a)=max a b:=by rw[Int.max_def];split<;>split<;>omega
attribute [go_sem] Kr Ks renS mapA mapL fzG frz treD treL adS Ln spG spS cgA cgL cgIn cgNu ep cgGo qH cgOk beqN List.contains_nil List.contains_cons cB tt zj List.mapIdx_cons List.mapIdx_nil List.drop_succ_cons Bool.and_false Bool.false_and Bool.or_false Bool.and_true Bool.true_and
def ch(a0 a1 a2 a3 a4 a5 a6 a7 a8 a9 a10 a11 a12 a13 a14 a15:AV)(l:List AV):List AV:=a0 :: a1 :: a2 :: a3 :: a4 :: a5 :: a6 :: a7 :: a8 :: a9 :: a10 :: a11 :: a12 :: a13 :: a14 :: a15 :: l
section
variable {a0 a1 a2 a3 a4 a5 a6 a7 a8 a9 a10 a11 a12 a13 a14 a15 v : AV} {l : List AV} {n : Nat}
theorem Kz(x:AV):(ch a0 a1 a2 a3 a4 a5 a6 a7 a8 a9 a10 a11 a12 a13 a14 a15 l).getD (n+16) x=l.getD n x:=nr rfl
theorem Iv(x:AV):(ch a0 a1 a2 a3 a4 a5 a6 a7 a8 a9 a10 a11 a12 a13 a14 a15 l).getD 0 x=a0:=nr rfl
theorem Iu(x:AV):(ch a0 a1 a2 a3 a4 a5 a6 a7 a8 a9 a10 a11 a12 a13 a14 a15 l).getD 1 x=a1:=nr rfl
theorem It(x:AV):(ch a0 a1 a2 a3 a4 a5 a6 a7 a8 a9 a10 a11 a12 a13 a14 a15 l).getD 2 x=a2:=nr rfl
theorem Is(x:AV):(ch a0 a1 a2 a3 a4 a5 a6 a7 a8 a9 a10 a11 a12 a13 a14 a15 l).getD 3 x=a3:=nr rfl
theorem Ir(x:AV):(ch a0 a1 a2 a3 a4 a5 a6 a7 a8 a9 a10 a11 a12 a13 a14 a15 l).getD 4 x=a4:=nr rfl
theorem Iq(x:AV):(ch a0 a1 a2 a3 a4 a5 a6 a7 a8 a9 a10 a11 a12 a13 a14 a15 l).getD 5 x=a5:=nr rfl
theorem Ip(x:AV):(ch a0 a1 a2 a3 a4 a5 a6 a7 a8 a9 a10 a11 a12 a13 a14 a15 l).getD 6 x=a6:=nr rfl
theorem Io(x:AV):(ch a0 a1 a2 a3 a4 a5 a6 a7 a8 a9 a10 a11 a12 a13 a14 a15 l).getD 7 x=a7:=nr rfl
theorem In(x:AV):(ch a0 a1 a2 a3 a4 a5 a6 a7 a8 a9 a10 a11 a12 a13 a14 a15 l).getD 8 x=a8:=nr rfl
theorem Il(x:AV):(ch a0 a1 a2 a3 a4 a5 a6 a7 a8 a9 a10 a11 a12 a13 a14 a15 l).getD 9 x=a9:=nr rfl
theorem G3(x:AV):(ch a0 a1 a2 a3 a4 a5 a6 a7 a8 a9 a10 a11 a12 a13 a14 a15 l).getD 10 x=a10:=nr rfl
theorem G2(x:AV):(ch a0 a1 a2 a3 a4 a5 a6 a7 a8 a9 a10 a11 a12 a13 a14 a15 l).getD 11 x=a11:=nr rfl
theorem G1(x:AV):(ch a0 a1 a2 a3 a4 a5 a6 a7 a8 a9 a10 a11 a12 a13 a14 a15 l).getD 12 x=a12:=nr rfl
theorem G0(x:AV):(ch a0 a1 a2 a3 a4 a5 a6 a7 a8 a9 a10 a11 a12 a13 a14 a15 l).getD 13 x=a13:=nr rfl
theorem FZ(x:AV):(ch a0 a1 a2 a3 a4 a5 a6 a7 a8 a9 a10 a11 a12 a13 a14 a15 l).getD 14 x=a14:=nr rfl
theorem FY(x:AV):(ch a0 a1 a2 a3 a4 a5 a6 a7 a8 a9 a10 a11 a12 a13 a14 a15 l).getD 15 x=a15:=nr rfl
theorem LW:(ch a0 a1 a2 a3 a4 a5 a6 a7 a8 a9 a10 a11 a12 a13 a14 a15 l).set (n+16) v=ch a0 a1 a2 a3 a4 a5 a6 a7 a8 a9 a10 a11 a12 a13 a14 a15 (l.set n v):=nr rfl
theorem JP:(ch a0 a1 a2 a3 a4 a5 a6 a7 a8 a9 a10 a11 a12 a13 a14 a15 l).set 0 v=ch v a1 a2 a3 a4 a5 a6 a7 a8 a9 a10 a11 a12 a13 a14 a15 l:=nr rfl
theorem JO:(ch a0 a1 a2 a3 a4 a5 a6 a7 a8 a9 a10 a11 a12 a13 a14 a15 l).set 1 v=ch a0 v a2 a3 a4 a5 a6 a7 a8 a9 a10 a11 a12 a13 a14 a15 l:=nr rfl
theorem JN:(ch a0 a1 a2 a3 a4 a5 a6 a7 a8 a9 a10 a11 a12 a13 a14 a15 l).set 2 v=ch a0 a1 v a3 a4 a5 a6 a7 a8 a9 a10 a11 a12 a13 a14 a15 l:=nr rfl
theorem JM:(ch a0 a1 a2 a3 a4 a5 a6 a7 a8 a9 a10 a11 a12 a13 a14 a15 l).set 3 v=ch a0 a1 a2 v a4 a5 a6 a7 a8 a9 a10 a11 a12 a13 a14 a15 l:=nr rfl
theorem JL:(ch a0 a1 a2 a3 a4 a5 a6 a7 a8 a9 a10 a11 a12 a13 a14 a15 l).set 4 v=ch a0 a1 a2 a3 v a5 a6 a7 a8 a9 a10 a11 a12 a13 a14 a15 l:=nr rfl
theorem JK:(ch a0 a1 a2 a3 a4 a5 a6 a7 a8 a9 a10 a11 a12 a13 a14 a15 l).set 5 v=ch a0 a1 a2 a3 a4 v a6 a7 a8 a9 a10 a11 a12 a13 a14 a15 l:=nr rfl
theorem JJ:(ch a0 a1 a2 a3 a4 a5 a6 a7 a8 a9 a10 a11 a12 a13 a14 a15 l).set 6 v=ch a0 a1 a2 a3 a4 a5 v a7 a8 a9 a10 a11 a12 a13 a14 a15 l:=nr rfl
theorem JI:(ch a0 a1 a2 a3 a4 a5 a6 a7 a8 a9 a10 a11 a12 a13 a14 a15 l).set 7 v=ch a0 a1 a2 a3 a4 a5 a6 v a8 a9 a10 a11 a12 a13 a14 a15 l:=nr rfl
theorem JH:(ch a0 a1 a2 a3 a4 a5 a6 a7 a8 a9 a10 a11 a12 a13 a14 a15 l).set 8 v=ch a0 a1 a2 a3 a4 a5 a6 a7 v a9 a10 a11 a12 a13 a14 a15 l:=nr rfl
theorem JG:(ch a0 a1 a2 a3 a4 a5 a6 a7 a8 a9 a10 a11 a12 a13 a14 a15 l).set 9 v=ch a0 a1 a2 a3 a4 a5 a6 a7 a8 v a10 a11 a12 a13 a14 a15 l:=nr rfl
theorem GV:(ch a0 a1 a2 a3 a4 a5 a6 a7 a8 a9 a10 a11 a12 a13 a14 a15 l).set 10 v=ch a0 a1 a2 a3 a4 a5 a6 a7 a8 a9 v a11 a12 a13 a14 a15 l:=nr rfl
theorem GU:(ch a0 a1 a2 a3 a4 a5 a6 a7 a8 a9 a10 a11 a12 a13 a14 a15 l).set 11 v=ch a0 a1 a2 a3 a4 a5 a6 a7 a8 a9 a10 v a12 a13 a14 a15 l:=nr rfl
theorem GS:(ch a0 a1 a2 a3 a4 a5 a6 a7 a8 a9 a10 a11 a12 a13 a14 a15 l).set 12 v=ch a0 a1 a2 a3 a4 a5 a6 a7 a8 a9 a10 a11 v a13 a14 a15 l:=nr rfl
theorem GR:(ch a0 a1 a2 a3 a4 a5 a6 a7 a8 a9 a10 a11 a12 a13 a14 a15 l).set 13 v=ch a0 a1 a2 a3 a4 a5 a6 a7 a8 a9 a10 a11 a12 v a14 a15 l:=nr rfl
theorem GQ:(ch a0 a1 a2 a3 a4 a5 a6 a7 a8 a9 a10 a11 a12 a13 a14 a15 l).set 14 v=ch a0 a1 a2 a3 a4 a5 a6 a7 a8 a9 a10 a11 a12 a13 v a15 l:=nr rfl
theorem GP:(ch a0 a1 a2 a3 a4 a5 a6 a7 a8 a9 a10 a11 a12 a13 a14 a15 l).set 15 v=ch a0 a1 a2 a3 a4 a5 a6 a7 a8 a9 a10 a11 a12 a13 a14 v l:=nr rfl
theorem IZ:List.replicate (n+16) AV.und=ch AV.und AV.und AV.und AV.und AV.und AV.und AV.und AV.und AV.und AV.und AV.und AV.und AV.und AV.und AV.und AV.und (List.replicate n .und):=nr rfl
theorem zF:(∀(n:Nat) (a0:AV),[a0]++List.replicate (n+15) AV.und=ch a0 AV.und AV.und AV.und AV.und AV.und AV.und AV.und AV.und AV.und AV.und AV.und AV.und AV.und AV.und AV.und (List.replicate n .und))∧(∀(n:Nat) (a0 a1:AV),[a0,a1]++List.replicate (n+14) AV.und=ch a0 a1 AV.und AV.und AV.und AV.und AV.und AV.und AV.und AV.und AV.und AV.und AV.und AV.und AV.und AV.und (List.replicate n .und))∧(∀(n:Nat) (a0 a1 a2:AV),[a0,a1,a2]++List.replicate (n+13) AV.und=ch a0 a1 a2 AV.und AV.und AV.und AV.und AV.und AV.und AV.und AV.und AV.und AV.und AV.und AV.und AV.und (List.replicate n .und))∧(∀(n:Nat) (a0 a1 a2 a3:AV),[a0,a1,a2,a3]++List.replicate (n+12) AV.und=ch a0 a1 a2 a3 AV.und AV.und AV.und AV.und AV.und AV.und AV.und AV.und AV.und AV.und AV.und AV.und (List.replicate n .und))∧(∀(n:Nat) (a0 a1 a2 a3 a4:AV),[a0,a1,a2,a3,a4]++List.replicate (n+11) AV.und=ch a0 a1 a2 a3 a4 AV.und AV.und AV.und AV.und AV.und AV.und AV.und AV.und AV.und AV.und AV.und (List.replicate n .und))∧(∀(n:Nat) (a0 a1 a2 a3 a4 a5:AV),[a0,a1,a2,a3,a4,a5]++List.replicate (n+10) AV.und=ch a0 a1 a2 a3 a4 a5 AV.und AV.und AV.und AV.und AV.und AV.und AV.und AV.und AV.und AV.und (List.replicate n .und))∧(∀(n:Nat) (a0 a1 a2 a3 a4 a5 a6:AV),[a0,a1,a2,a3,a4,a5,a6]++List.replicate (n+9) AV.und=ch a0 a1 a2 a3 a4 a5 a6 AV.und AV.und AV.und AV.und AV.und AV.und AV.und AV.und AV.und (List.replicate n .und))∧(∀(n:Nat) (a0 a1 a2 a3 a4 a5 a6 a7:AV),[a0,a1,a2,a3,a4,a5,a6,a7]++List.replicate (n+8) AV.und=ch a0 a1 a2 a3 a4 a5 a6 a7 AV.und AV.und AV.und AV.und AV.und AV.und AV.und AV.und (List.replicate n .und)):=⟨fun _ _=>nr rfl,fun _ _ _=>nr rfl,fun _ _ _ _=>nr rfl,fun _ _ _ _ _=>nr rfl,fun _ _ _ _ _ _=>nr rfl,fun _ _ _ _ _ _ _=>nr rfl,fun _ _ _ _ _ _ _ _=>nr rfl,fun _ _ _ _ _ _ _ _ _=>nr rfl⟩
theorem zT{a b:Prop}(h:b)(e:a=b:=by (simp only[Nat.reduceSub,Zl,zn,Nat.reduceAdd,zF];try simp only[IZ]);simp only[go_sem,seval,reduceCtorEq,List.replicate];rfl):a:=e.mpr h
theorem L3(k:Nat):apVL k (ch a0 a1 a2 a3 a4 a5 a6 a7 a8 a9 a10 a11 a12 a13 a14 a15 l)=ch (apV k a0) (apV k a1) (apV k a2) (apV k a3) (apV k a4) (apV k a5) (apV k a6) (apV k a7) (apV k a8) (apV k a9) (apV k a10) (apV k a11) (apV k a12) (apV k a13) (apV k a14) (apV k a15) (apVL k l):=nr rfl
theorem MP(gv:List Nat)(M:List Nat):cgL gv M (ch a0 a1 a2 a3 a4 a5 a6 a7 a8 a9 a10 a11 a12 a13 a14 a15 l)=ch (cgA gv M a0) (cgA gv M a1) (cgA gv M a2) (cgA gv M a3) (cgA gv M a4) (cgA gv M a5) (cgA gv M a6) (cgA gv M a7) (cgA gv M a8) (cgA gv M a9) (cgA gv M a10) (cgA gv M a11) (cgA gv M a12) (cgA gv M a13) (cgA gv M a14) (cgA gv M a15) (cgL gv M l):=nr rfl
theorem Kg(g:AV→AV):mapL g (ch a0 a1 a2 a3 a4 a5 a6 a7 a8 a9 a10 a11 a12 a13 a14 a15 l)=ch (mapA g a0) (mapA g a1) (mapA g a2) (mapA g a3) (mapA g a4) (mapA g a5) (mapA g a6) (mapA g a7) (mapA g a8) (mapA g a9) (mapA g a10) (mapA g a11) (mapA g a12) (mapA g a13) (mapA g a14) (mapA g a15) (mapL g l):=nr rfl
theorem aL(live:List Nat)(m i:Nat):bu live m i (ch a0 a1 a2 a3 a4 a5 a6 a7 a8 a9 a10 a11 a12 a13 a14 a15 l)=ch (if live.contains (i+0) then rn (cut m) a0 else .any) (if live.contains (i+1) then rn (cut m) a1 else .any) (if live.contains (i+2) then rn (cut m) a2 else .any) (if live.contains (i+3) then rn (cut m) a3 else .any) (if live.contains (i+4) then rn (cut m) a4 else .any) (if live.contains (i+5) then rn (cut m) a5 else .any) (if live.contains (i+6) then rn (cut m) a6 else .any) (if live.contains (i+7) then rn (cut m) a7 else .any) (if live.contains (i+8) then rn (cut m) a8 else .any) (if live.contains (i+9) then rn (cut m) a9 else .any) (if live.contains (i+10) then rn (cut m) a10 else .any) (if live.contains (i+11) then rn (cut m) a11 else .any) (if live.contains (i+12) then rn (cut m) a12 else .any) (if live.contains (i+13) then rn (cut m) a13 else .any) (if live.contains (i+14) then rn (cut m) a14 else .any) (if live.contains (i+15) then rn (cut m) a15 else .any) (bu live m (i+16) l):=nr rfl
theorem aK(live:List Nat)(ρ:Nat→Option Nat)(i:Nat):bJ live ρ i (ch a0 a1 a2 a3 a4 a5 a6 a7 a8 a9 a10 a11 a12 a13 a14 a15 l)=ch (if live.contains (i+0) then rn ρ a0 else .any) (if live.contains (i+1) then rn ρ a1 else .any) (if live.contains (i+2) then rn ρ a2 else .any) (if live.contains (i+3) then rn ρ a3 else .any) (if live.contains (i+4) then rn ρ a4 else .any) (if live.contains (i+5) then rn ρ a5 else .any) (if live.contains (i+6) then rn ρ a6 else .any) (if live.contains (i+7) then rn ρ a7 else .any) (if live.contains (i+8) then rn ρ a8 else .any) (if live.contains (i+9) then rn ρ a9 else .any) (if live.contains (i+10) then rn ρ a10 else .any) (if live.contains (i+11) then rn ρ a11 else .any) (if live.contains (i+12) then rn ρ a12 else .any) (if live.contains (i+13) then rn ρ a13 else .any) (if live.contains (i+14) then rn ρ a14 else .any) (if live.contains (i+15) then rn ρ a15 else .any) (bJ live ρ (i+16) l):=nr rfl
end
attribute [go_sem] Kz Iv Iu It Is Ir Iq Ip Io In Il G3 G2 G1 G0 FZ FY LW JP JO JN JM JL JK JJ JI JH JG GV GU GS GR GQ GP MP L3 Kg
end Go.Lift
