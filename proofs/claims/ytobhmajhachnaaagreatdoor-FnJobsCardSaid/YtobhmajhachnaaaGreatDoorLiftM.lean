/-
 LIFT: regions that draw their order, whose heads append to roots. No condition.
-/
import Derived.Test.YtobhmajhachnaaaGreatDoorLiftD
set_option linter.unusedSimpArgs false
set_option linter.unusedVariables false
namespace Go.Lift
open Go.RowKit
section
variable {ρ ρ' : Nat → Option Nat}
mutual
theorem oq:∀(av:AV),(∀q,q∈idsA av→ρ q=ρ' q)→Lift.rn ρ av=Lift.rn ρ' av
 | .any,_=>rfl
 | .und,_=>rfl
 | .nil,_=>rfl
 | .d _,_=>rfl
 | .rptr _ _,_=>rfl
 | .tr _,_=>rfl
 | .lv _,_=>rfl
 | .own k o n,h=>by simp only[Lift.rn,h k (by simp [idsA])]
 | .sub k j,h=>by simp only[Lift.rn,h k (by simp [idsA])]
 | .ptr k o,h=>by simp only[Lift.rn,h k (by simp [idsA])]
 | .sptr k j o,h=>by simp only[Lift.rn,h k (by simp [idsA])]
 | .agg l,h=>by simp only[Lift.rn];rw[lP l fun q hq=>h q (by simpa [idsA]using hq)]
 | .tup l,h=>by simp only[Lift.rn];rw[lP l fun q hq=>h q (by simpa [idsA]using hq)]
 | .clo f l,h=>by simp only[Lift.rn];rw[lP l fun q hq=>h q (by simpa [idsA]using hq)]
theorem lP:∀(l:List AV),(∀q,q∈idsL l→ρ q=ρ' q)→rnL ρ l=rnL ρ' l
 | [],_=>rfl
 |x :: l,h=>by
  simp only[rnL];rw[oq x fun q hq=>h q (by simp [idsL,hq]),lP l fun q hq=>h q (by simp [idsL,hq])]
end
mutual
theorem vZ:∀(av:AV),Lift.rn ρ' (Lift.rn ρ av)=Lift.rn (fun q=>(ρ q).bind ρ') av
 | .any=>rfl
 | .und=>rfl
 | .nil=>rfl
 | .d _=>rfl
 | .rptr _ _=>rfl
 | .tr _=>rfl
 | .lv _=>rfl
 | .own k o n=>by simp only[Lift.rn];cases ρ k<;>simp [Lift.rn]
 | .sub k j=>by simp only[Lift.rn];cases ρ k<;>simp [Lift.rn]
 | .ptr k o=>by simp only[Lift.rn];cases ρ k<;>simp [Lift.rn]
 | .sptr k j o=>by simp only[Lift.rn];cases ρ k<;>simp [Lift.rn]
 | .agg l=>by simp only[Lift.rn];rw[si l]
 | .tup l=>by simp only[Lift.rn];rw[si l]
 | .clo f l=>by simp only[Lift.rn];rw[si l]
theorem si:∀(l:List AV),rnL ρ' (rnL ρ l)=rnL (fun q=>(ρ q).bind ρ') l
 | []=>rfl
 |x :: l=>by simp only[rnL];rw[vZ x,si l]
end
mutual
theorem AR{q:Nat}:∀(av:AV),q∈idsA (Lift.rn ρ av)↔∃p,p∈idsA av∧ρ p=some q
 | .any=>by simp [Lift.rn,idsA]
 | .und=>by simp [Lift.rn,idsA]
 | .nil=>by simp [Lift.rn,idsA]
 | .d _=>by simp [Lift.rn,idsA]
 | .rptr _ _=>by simp [Lift.rn,idsA]
 | .tr _=>by simp [Lift.rn,idsA]
 | .lv _=>by simp [Lift.rn,idsA]
 | .own k o n=>by simp only[Lift.rn];cases h:ρ k<;>simp [idsA,h,eq_comm]
 | .sub k j=>by simp only[Lift.rn];cases h:ρ k<;>simp [idsA,h,eq_comm]
 | .ptr k o=>by simp only[Lift.rn];cases h:ρ k<;>simp [idsA,h,eq_comm]
 | .sptr k j o=>by simp only[Lift.rn];cases h:ρ k<;>simp [idsA,h,eq_comm]
 | .agg l=>by simp only[Lift.rn,idsA];exact sY l
 | .tup l=>by simp only[Lift.rn,idsA];exact sY l
 | .clo f l=>by simp only[Lift.rn,idsA];exact sY l
theorem sY{q:Nat}:∀(l:List AV),q∈idsL (rnL ρ l)↔∃p,p∈idsL l∧ρ p=some q
 | []=>by simp [rnL,idsL]
 |x :: l=>by
  simp only[rnL,idsL,List.mem_append];rw[AR x,sY l]
  constructor
  ·rintro (⟨p,h1,h2⟩|⟨p,h1,h2⟩)
   ·exact⟨p,.inl h1,h2⟩
   ·exact⟨p,.inr h1,h2⟩
  ·rintro⟨p,h1|h1,h2⟩
   ·exact .inl ⟨p,h1,h2⟩
   ·exact .inr ⟨p,h1,h2⟩
end
theorem oD{q:Nat}:∀{l:List AV},q∈idsL l↔∃x,x∈l∧q∈idsA x
 | []=>by simp [idsL]
 |x :: l=>by
  simp only[idsL,List.mem_append,List.mem_cons];rw[oD (l:=l)]
  constructor
  ·rintro (h|⟨y,h1,h2⟩)
   ·exact⟨x,.inl rfl,h⟩
   ·exact⟨y,.inr h1,h2⟩
  ·rintro⟨y,rfl|h1,h2⟩
   ·exact .inl h2
   ·exact .inr ⟨y,h1,h2⟩
theorem BL{l:List AV}(h:∀q,q∈idsL l→ρ q=some q):rnL ρ l=l:=by
 rw[lP l (ρ':=some) h];exact Eg.2 l
theorem Ax{x:AV}(h:∀q,q∈idsA x→ρ q=some q):Lift.rn ρ x=x:=by
 rw[oq x (ρ':=some) h];exact Eg.1 x
end
section
variable {w : World} {γ : Labels} {φ : Nat → Nat} {s : St} {b : Nat}
mutual
theorem wI(hb:s b=none):∀(av:AV) (v:Value),Rel w γ φ s av v→b∉idsA av
 | .any,_,_=>by simp [idsA]
 | .und,_,_=>by simp [idsA]
 | .nil,_,_=>by simp [idsA]
 | .d _,_,_=>by simp [idsA]
 | .rptr _ _,_,_=>by simp [idsA]
 | .tr _,_,_=>by simp [idsA]
 | .lv _,_,_=>by simp [idsA]
 | .own k o n,v,h=>by
  simp only[Rel]at h;obtain⟨R,hR,_⟩:=h;simp only[idsA,List.mem_singleton];rintro rfl;rw[hb]at hR;cases hR
 | .sub k j,v,h=>by
  simp only[Rel]at h;obtain⟨R,_,_,_,_,hR,_⟩:=h;simp only[idsA,List.mem_singleton];rintro rfl;rw[hb]at hR;cases hR
 | .ptr k o,v,h=>by
  simp only[Rel]at h;obtain⟨R,hR,_⟩:=h;simp only[idsA,List.mem_singleton];rintro rfl;rw[hb]at hR;cases hR
 | .sptr k j o,v,h=>by
  simp only[Rel]at h;obtain⟨R,_,_,_,_,_,_,_,hR,_⟩:=h;simp only[idsA,List.mem_singleton];rintro rfl;rw[hb]at hR;cases hR
 | .agg l,v,h=>by
  simp only[Rel]at h;obtain⟨vs,_,h⟩:=h;simp only[idsA];exact q5 hb l _ h
 | .tup l,v,h=>by
  simp only[Rel]at h;obtain⟨vs,_,h⟩:=h;simp only[idsA];exact q5 hb l _ h
 | .clo f l,v,h=>by
  simp only[Rel]at h;obtain⟨vs,_,h⟩:=h;simp only[idsA];exact q5 hb l _ h
theorem q5(hb:s b=none):∀(l:List AV) (vs:List Value),RelL w γ φ s l vs→b∉idsL l
 | [],_,_=>by simp [idsL]
 |x :: l,vs,h=>by
  simp only[RelL]at h;obtain⟨v,vs',_,h1,h2⟩:=h;simp only[idsL,List.mem_append,not_or];exact⟨wI hb x v h1,q5 hb l vs' h2⟩
end
theorem GN(hS:Sim γ φ s w)(hb:s b=none){k:Nat}{R:Root}(hk:s k=some R):b∉idsL R.cells:=by
 rcases hS.root k R hk with h|⟨cur,T,_,_,_,hc⟩
 ·rw[h];simp [idsL]
 ·intro hm
  obtain⟨x,hx,hq⟩:=oD.1 hm;obtain⟨j,hj,e⟩:=List.mem_iff_getElem.1 hx;obtain⟨v,_,hr⟩:=hc j x (by rw[zg hj,e]);cases x with
  |tr y=>simp [idsA]at hq
  |_=>exact wI hb _ v (by simpa only[CRel]using hr) hq
end
def Fgt(ρ:Nat→Option Nat):Prop:=∀k k',ρ k=some k'→k'=k
theorem Gk(Z:List Nat):Fgt (zf Z):=fun k k' h=>by
 unfold zf at h;split at h
 ·cases h
 ·exact(Option.some.inj h).symm
theorem GI:Fgt some:=fun k k' h=>(Option.some.inj h).symm
theorem qa{ρ:Nat→Option Nat}(hρ:Fgt ρ){w:World}{γ:Labels}{φ:Nat→Nat}{s s':St}(h:∀k R,s k=some R→∃R',s' k=some R'∧R'.e=R.e∧R'.g=R.g∧∀(j:Nat) (x:D),R.cells[j]? =some (.tr x)→R'.cells[j]? =some (.tr x)):LiveR ρ w γ φ s w γ φ s':=by
 intro k k' R hk hR;obtain rfl:=hρ _ _ hk;obtain⟨R',h1,h2,h3,h4⟩:=h _ R hR;refine⟨rfl,R',h1,h2,fun h=>by rw[← h3];exact h,id,fun j x hx=>⟨⟨x,h4 j x hx⟩,fun cur cur' T f T' f' e e'=> ?_⟩⟩;rw[e]at e';simp at e';rw[e'.1]
theorem wH{ρ:Nat→Option Nat}(hρ:Fgt ρ){w:World}{γ:Labels}{φ:Nat→Nat}{s:St}{av:AV}{v:Value}(h:Rel w γ φ s av v):Rel w γ φ s (Lift.rn ρ av) v:=
 Rel.monoR (Kst.refl _ _) (qa hρ fun k R hR=>⟨R,hR,rfl,rfl,fun _ _ h=>h⟩) av v h
def mapS(ρ:Nat→Option Nat)(σ:Sto):Sto:=σ.map (Option.map fun R=>{ R with cells:=rnL ρ R.cells })
theorem HR{ρ:Nat→Option Nat}{σ:Sto}:(mapS ρ σ).length=σ.length:=by simp [mapS]
theorem u9{ρ:Nat→Option Nat}(τ:St)(k0:Nat)(news:Sto)(q:Nat):over τ k0 (mapS ρ news) q=if k0≤q∧q<k0+news.length then (over τ k0 news q).map (fun R=>{ R with cells:=rnL ρ R.cells }) else over τ k0 news q:=by
 unfold over;rw[HR];split
 ·rw[mapS,List.getElem?_map]
  cases news[q-k0]? with
  |none=>rfl
  |some x=>cases x<;>rfl
 ·rfl
theorem GPost.weak{ρ:Nat→Option Nat}(hρ:Fgt ρ){γ:Labels}{φ:Nat→Nat}{τ:St}{w:World}{k0:Nat}{r:AV}{news:Sto}{v:Value}{w':World}(h:GPost γ φ τ w k0 r news v w')(hd:∀j,j<news.length→τ (k0+j)=none):GPost γ φ τ w k0 (Lift.rn ρ r) (mapS ρ news) v w':=by
 obtain⟨γ',φ',hK,hL,hS,hR⟩:=h;have hto:∀k R,over τ k0 news k=some R→∃R',over τ k0 (mapS ρ news) k=some R'∧R'.e=R.e∧R'.g=R.g∧∀(j:Nat) (x:D),R.cells[j]? =some (.tr x)→R'.cells[j]? =some (.tr x):=by
  intro k R hk;rw[u9];split
  ·rw[hk]
   exact⟨_,rfl,rfl,rfl,fun j x hx=>by simp only[aR,List.getElem?_map,hx,Option.map_some,Lift.rn]⟩
  ·exact⟨R,hk,rfl,rfl,fun _ _ h=>h⟩
 refine⟨γ',φ',hK,fun k R hk=> ?_,⟨hS.bound,fun k R' hk=> ?_,hS.adm⟩,Rel.monoR (Kst.refl _ _) (qa hρ hto) r v hR⟩
 ·obtain⟨h1,R1,h2,h3,h4,h5,h6⟩:=hL k R hk
  have hne:¬(k0≤k∧k<k0+news.length):=fun hc=>by
   have:=hd (k-k0) (by omega);rw[show k0+(k-k0)=k by omega,hk]at this;cases this
  exact⟨h1,R1,by rw[u9,if_neg hne];exact h2,h3,h4,h5,h6⟩
 ·rw[u9]at hk
  split at hk
  ·simp only[zm]at hk
   obtain⟨R,hR,rfl⟩:=hk;rcases hS.root k R hR with h0|⟨cur,T,h1,h2,h3,h4⟩
   ·exact .inl (by simp [h0,rnL])
   ·refine .inr ⟨cur,T,h1,h2,by simpa [aR]using h3,fun j av hav=> ?_⟩
    simp only[aR,List.getElem?_map,zm]at hav;obtain⟨a0,h5,rfl⟩:=hav;obtain⟨u,h6,h7⟩:=h4 j a0 h5;exact⟨u,h6,CRel.monoR (Kst.refl _ _) (qa hρ hto) (fun _ _ _ h=>⟨h,rfl⟩) h7⟩
  ·rcases hS.root k R' hk with h0|⟨cur,T,h1,h2,h3,h4⟩
   ·exact .inl h0
   ·refine .inr ⟨cur,T,h1,h2,h3,fun j av hav=> ?_⟩
    obtain⟨u,h6,h7⟩:=h4 j av hav;have:=CRel.monoR (Kst.refl _ _) (qa GI hto) (fun _ _ _ h=>⟨h,rfl⟩) h7;rw[Eg.1]at this;exact⟨u,h6,this⟩
structure KPost(γ:Labels)(φ:Nat→Nat)(τ:St)(w:World)(k base:Nat)(r:AV)(news:Sto)(v:Value)(w':World)(γ':Labels)(φ':Nat→Nat):Prop where
 kst:Kst γ w γ' w'
 fix:∀i Ri,τ i=some Ri→Ri.g=false→Stay γ φ γ' φ' i∧∃R',over (upd τ k none) base news i=some R'∧R'.g=false
 sim:Sim γ' φ' (over (upd τ k none) base news) w'
 pers:∀av u,Rel w γ φ τ av u→Rel w' γ' φ' (over (upd τ k none) base news) (Lift.rn (fg k) av) u
 rel:Rel w' γ' φ' (over (upd τ k none) base news) r v
theorem L2{P:Program}{op:Op}{e bytes:Nat}{z:List AV}{s' x:O}(hc:cOp P op=some (.app e bytes z s' x)):∃X Y,X∈op.operands.toList∧Y∈op.operands.toList∧cO X=some s'∧cO Y=some x:=by
 cases hop:op with
 |call c=>
  simp only[hop,cOp]at hc;unfold EN at hc;split at hc
  ·split at hc
   ·split at hc<;>simp at hc
   ·cases hc
  ·split at hc
   ·split at hc<;>simp at hc
   ·cases hc
  ·split at hc
   ·split at hc<;>simp at hc
   ·cases hc
  ·split at hc
   ·split at hc<;>simp at hc
   ·cases hc
  ·rename_i hcal
   split at hc
   ·rename_i x1 y1 t u hargs hat
    split at hc
    ·rename_i e1 x' y' hu hx hy
     split at hc
     ·split at hc
      ·simp only[zj,I.app.injEq]at hc
       obtain⟨_,_,_,rfl,rfl⟩:=hc;exact⟨x1,y1,by simp [Op.operands,Call.operands,hcal,hargs],by simp [Op.operands,Call.operands,hcal,hargs],hx,hy⟩
      ·cases hc
     ·cases hc
    ·cases hc
   ·cases hc
  ·split at hc
   ·split at hc
    ·simp only[Option.bind_eq_some_iff]at hc
     obtain⟨n,hn,hc⟩:=hc;split at hc<;>simp at hc
    ·cases hc
   ·cases hc
  ·split at hc
   ·split at hc
    ·split at hc<;>simp at hc
    ·cases hc
   ·cases hc
  ·simp only[zm]at hc
   obtain⟨l,_,hl⟩:=hc;cases hl
  ·cases hc
 |makeFunc fn first caps=>
  cases fn with
  |func f=>
   simp only[hop,cOp]at hc;split at hc
   ·simp only[zm]at hc
    obtain⟨l,_,hl⟩:=hc;cases hl
   ·cases hc
  |_=>simp [hop,cOp]at hc
 |unOp u t x=>
  cases u<;>simp [hop,cOp]at hc
 |slice t x lo hi mx=>
  cases mx with
  |some _=>simp [hop,cOp]at hc
  |none=>
   simp only[hop,cOp]at hc;split at hc
   ·simp only[Option.bind_eq_some_iff]at hc
    obtain⟨n,hn,hc⟩:=hc;split at hc<;>simp at hc
   ·cases hc
 |_=>exact absurd hc (by simp [hop,cOp]<;>(try (repeat' split)<;>simp))
theorem J8{τ:St}{n:Nat}(h:∀i Ri,τ i=some Ri→i<n):at_ ((List.range n).map τ)=τ:=by
 funext i
 simp only[at_,List.getElem?_map];by_cases hi:i<n
 ·rw[List.getElem?_range hi]
  rfl
 ·rw[List.getElem?_eq_none (by simp;omega)]
  cases e:τ i with
  |none=>rfl
  |some R=>exact absurd (h i R e) hi
theorem LO{P:Program}{o:Oper}{e bytes:Nat}{z:List AV}{s' x:O}(hc:cOp P o.op=some (.app e bytes z s' x)){σ:Sto}{ev:O→AV}{k n m:Nat}{R:Root}{l:List AV}(hev:ev s'=.own k 0 n)(hR:at_ σ k=some R)(hm:lenA (at_ σ) (ev x)=some m)(hl:srcA (at_ σ) (m*e) (ev x)=some l)
  (hg:R.g=true) (he:R.e=e) (hlen:R.cells.length=n*e) (hb:bytes*(n+m)≤140737488355328) (hnl:k∉idsL l) {M:Sto} (hM:∀i Ri,at_ σ i=some Ri→at_ M i=some Ri) {γ:Labels} {φ:Nat→Nat} {τ:St} {w:World} {ρ:Operand→Value} (hS:Sim γ φ τ w) (hτ:∀i Ri,τ i=some Ri→at_ M i=some Ri) (hbase:τ σ.length=none)
  (hno:∀i Ri,τ i=some Ri→k∉idsL Ri.cells) (hr:∀X Y,cO X=some Y→X∈o.op.operands.toList→Rel w γ φ τ (ev Y) (ρ X)) (hf:Fix ρ):
  τ k≠none∧Exec P (fun v w'=>∃γ' φ',KPost γ φ τ w k σ.length (.own σ.length 0 (n+m)) [some ⟨e,true,R.cells++l⟩] v w' γ' φ') ((execOp ρ o).run P w):=by
 obtain⟨X,Y,hX,hY,hcX,hcY⟩:=L2 hc;have rX:=hr X s' hcX hX;have rY:=hr Y x hcY hY;have hlt:∀i Ri,τ i=some Ri→i<M.length:=fun i Ri h=>tG (hτ i Ri h)
 have hat:at_ ((List.range M.length).map τ)=τ:=J8 hlt;have same:∀i Ri Rj,τ i=some Ri→at_ σ i=some Rj→Ri=Rj:=fun i Ri Rj h1 h2=>by
  have a:=hτ i Ri h1;rw[hM i Rj h2]at a
  exact(Option.some.inj a).symm
 rw[hev]at rX;simp only[Rel]at rX;obtain⟨R0,hR0,_⟩:=rX;obtain rfl:=same k R0 R hR0 hR;refine⟨by rw[hR0];simp, ?_⟩;have hmτ:lenA τ (ev x)=some m:=by
  cases hx:ev x with
  |sub i j=>
   rw[hx]at hm rY;simp only[Rel]at rY;obtain⟨Ri,_,_,_,_,hRi,_⟩:=rY;simp only[lenA]at hm ⊢;split at hm
   ·rename_i Rj hRj
    obtain rfl:=same i Ri Rj hRi hRj;rw[hRi];exact hm
   ·cases hm
  |d y=>rw[hx]at hm;cases y<;>exact hm
  |_=>rw[hx]at hm;exact hm
 have hlτ:srcA τ (m*e) (ev x)=some l:=by
  cases hx:ev x with
  |own i off n'=>
   rw[hx]at hl rY;simp only[Rel]at rY;obtain⟨Ri,hRi,_⟩:=rY;simp only[srcA]at hl ⊢;split at hl
   ·rename_i Rj hRj
    obtain rfl:=same i Ri Rj hRi hRj;rw[hRi];exact hl
   ·cases hl
  |d y=>rw[hx]at hl;cases y<;>exact hl
  |_=>rw[hx]at hl;exact hl
 have hcells:∀(cs:List AV),k∉idsL cs→rnL (fg k) cs=cs:=fun cs h=>BL fun q hq=>by
  unfold fg;rw[if_neg];rintro rfl;exact h hq
 have hnc:k∉idsL R0.cells:=hno k R0 hR0;have ht:tI P ((List.range M.length).map τ) ev (.app e bytes z s' x) (fun f r s=>f=.one k∧r=.own k 0 (n+m)∧s=((((List.range M.length).map τ).map (Option.map fun R=>{ R with cells:=rnL (fg k) R.cells })).set k (some ⟨e,true,rnL (fg k) R0.cells++rnL (fg k) l⟩))):=by
  unfold tI;simp only[hev,hat,hR0,hmτ,hlτ];exact⟨hg,he,trivial,hlen,hb,trivial,trivial,trivial⟩
 obtain⟨ks,r,σ',⟨rfl,rfl,rfl⟩,hsound⟩:=wy hc ht;rw[hat]at hsound;refine Exec.mono (hsound γ φ w ρ hS hr hf) fun v w' hq=> ?_
 obtain⟨γ1,φ1,hK,hfix,hS1,hpers,hrel⟩:=hq;rw[hat]at hfix hpers;have hfgτ:at_ ((((List.range M.length).map τ).map (Option.map fun R=>{ R with cells:=rnL (fg k) R.cells })).set k (some ⟨e,true,rnL (fg k) R0.cells++rnL (fg k) l⟩))=upd τ k (some ⟨e,true,R0.cells++l⟩):=by
  have h1:at_ (((List.range M.length).map τ).map (Option.map fun R=>{ R with cells:=rnL (fg k) R.cells }))=τ:=by
   have:at_ (((List.range M.length).map τ).map (Option.map fun R=>{ R with cells:=rnL (fg k) R.cells }))=fgS k (at_ ((List.range M.length).map τ)):=by
    funext i
    simp only[at_,fgS,List.getElem?_map];cases (List.range M.length)[i]? with
    |none=>rfl
    |some x=>simp only[Option.map_some];cases τ x<;>rfl
   rw[this,hat]
   funext i
   unfold fgS;cases e1:τ i with
   |none=>rfl
   |some Ri=>simp only[Option.map_some,hcells _ (hno i Ri e1)]
  rw[y7 _ (R:=R0) (by rw[h1];exact hR0),h1,hcells _ hnc,hcells _ hnl]
 rw[hfgτ]at hfix hS1 hpers hrel;have hkb:k≠σ.length:=fun h=>by rw[h,hbase]at hR0;cases hR0
 have hklt:k<σ.length:=tG hR
 let rho:Nat→Option Nat:=fun i=>if i=k then some σ.length else if i=σ.length then none else some i
 let φ2:Nat→Nat:=fun i=>if i=σ.length then φ1 k else φ1 i
 have hbdead:upd τ k (some (⟨e,true,R0.cells++l⟩:Root)) σ.length=none:=by rw[au _ _ (Ne.symm hkb)];exact hbase
 have hrc:∀i Ri,upd τ k (some (⟨e,true,R0.cells++l⟩:Root)) i=some Ri→rnL rho Ri.cells=Ri.cells:=by
  intro i Ri hi;have hb0:=GN hS1 hbdead hi;have hk0:k∉idsL Ri.cells:=by
   by_cases e1:i=k
   ·subst e1
    rw[aC]at hi;obtain rfl:=(Option.some.inj hi).symm;simp only[oD,List.mem_append,not_exists,not_and]at hnc hnl ⊢;rintro x (hx|hx)
    ·exact hnc x hx
    ·exact hnl x hx
   ·rw[au _ _ e1]at hi
    exact hno i Ri hi
  refine BL fun q hq=> ?_
  have h1:q≠k:=fun e1=>hk0 (e1 ▸ hq)
  have h2:q≠σ.length:=fun e1=>hb0 (e1 ▸ hq)
  simp only[rho,if_neg h1,if_neg h2]
 have hov:∀i,over (upd τ k none) σ.length [some (⟨e,true,R0.cells++l⟩:Root)] i=if i=σ.length then some ⟨e,true,R0.cells++l⟩ else if i=k then none else τ i:=by
  intro i;rw[oy];by_cases h1:i=σ.length
  ·rw[if_pos h1,h1,aC]
  ·rw[if_neg h1,au _ _ h1]
   by_cases h2:i=k
   ·rw[if_pos h2,h2,aC]
   ·rw[if_neg h2,au _ _ h2]
 have hRen:Ren rho φ1 (upd τ k (some ⟨e,true,R0.cells++l⟩)) φ2 (over (upd τ k none) σ.length [some ⟨e,true,R0.cells++l⟩]):=by
  refine⟨fun i i' Ri hi hRi=> ?_,fun i' R' hR'=> ?_,fun a b c h1 h2=> ?_⟩
  ·have hcs:=hrc i Ri hRi
   simp only[rho]at hi;split at hi
   ·rename_i h1
    subst h1;obtain rfl:=Option.some.inj hi;rw[aC]at hRi;obtain rfl:=Option.some.inj hRi;exact⟨by simp [φ2],by rw[hov,if_pos rfl,hcs]⟩
   ·rename_i h1
    split at hi
    ·cases hi
    ·rename_i h2
     obtain rfl:=Option.some.inj hi;rw[au _ _ h1]at hRi;exact⟨by simp [φ2,h2],by rw[hov,if_neg h2,if_neg h1,hRi,hcs]⟩
  ·rw[hov]at hR'
   by_cases h1:i'=σ.length
   ·exact⟨k,_,by simp [rho,h1],aC _ _ _⟩
   ·rw[if_neg h1]at hR'
    by_cases h2:i'=k
    ·rw[if_pos h2]at hR';cases hR'
    ·rw[if_neg h2]at hR'
     exact⟨i',R',by simp [rho,h1,h2],by rw[au _ _ h2];exact hR'⟩
  ·simp only[rho]at h1 h2
   by_cases ha:a=k
   ·by_cases hb:b=k
    ·rw[ha,hb]
    ·rw[if_pos ha]at h1
     rw[if_neg hb]at h2;split at h2
     ·cases h2
     ·rename_i h3
      obtain rfl:=Option.some.inj h2;obtain h1:=Option.some.inj h1;exact absurd h1.symm h3
   ·rw[if_neg ha]at h1
    split at h1
    ·cases h1
    ·rename_i h3
     obtain rfl:=Option.some.inj h1;by_cases hb:b=k
     ·rw[if_pos hb]at h2
      exact absurd (Option.some.inj h2).symm h3
     ·rw[if_neg hb]at h2
      split at h2
      ·cases h2
      ·exact(Option.some.inj h2).symm
 obtain⟨hK2,hS2⟩:=hS1.rn hRen;have hrn:=fun av u=>Rel.rn (w:=w') (γ:=γ1) hRen av u
 refine⟨_,φ2,hK.trans hK2,fun i Ri hi hgi=> ?_,hS2,fun av u hu=> ?_, ?_⟩
 ·obtain⟨⟨h1,h1'⟩,R',h2,h3⟩:=hfix i Ri hi hgi
  have hik:i≠k:=fun e1=>by
   subst e1;rw[hR0]at hi;obtain rfl:=Option.some.inj hi;rw[hg]at hgi;cases hgi
  have hib:i≠σ.length:=fun e1=>by rw[e1,hbase]at hi;cases hi
  refine⟨⟨by simp [φ2,hib,h1],fun hg0=> ?_⟩,R', ?_,h3⟩
  ·have:=h1' hg0
   show (γ1 (φ i)).rn rho=.r i []
   rw[this];simp [Lab.rn,rho,hik,hib]
  ·rw[hov,if_neg hib,if_neg hik]
   rwa [au _ _ hik]at h2
 ·have h1:=hpers av u hu
  simp only[Fg.ap]at h1;have h2:Rel w' γ1 φ1 (upd τ k (some ⟨e,true,R0.cells++l⟩)) (Lift.rn (fg k) av) u:=by
   cases av with
   |own j o n'=>
    by_cases hj:j=k
    ·simp [Lift.rn,fg,hj,Rel]
    ·have e1:apV k (.own j o n')=.own j o n':=if_neg hj
     have e2:Lift.rn (fg k) (.own j o n')=.own j o n':=by simp [Lift.rn,fg,hj]
     rw[e2];rw[e1]at h1;exact h1
   |_=>exact h1
  have h3:=hrn _ _ h2;have hdead:σ.length∉idsA (Lift.rn (fg k) av):=wI hbdead _ _ h2;rw[Ax (ρ:=rho) fun q hq=> ?_]at h3
  ·exact h3
  ·have hqb:q≠σ.length:=fun e1=>hdead (e1 ▸ hq)
   have hqk:q≠k:=fun e1=>by
    subst e1;obtain⟨p,_,hp⟩:=(AR av).1 hq
    exact(n7 hp).2 (n7 hp).1.symm
   simp only[rho,if_neg hqk,if_neg hqb]
 ·have h3:=hrn _ _ hrel
  simpa [Lift.rn,rho]using h3
def gn(kl:Option Nat)(Z:List Nat):List Nat:=kl.toList++Z
def zAt(κ:Nat→Option Nat)(Z:List Nat):Nat→List Nat
 |0=>Z
 |i+1=>gn (κ i) (zAt κ Z i)
def oJ(kl:Option Nat)(env:List AV):List AV:=match kl with
 |some k=>rnL (fg k) env
 |none=>env
def envK(ops:List Oper)(R:Nat→AV)(κ:Nat→Option Nat)(env:List AV):Nat→List AV
 |0=>env
 |i+1=>put (oJ (κ i) (envK ops R κ env i)) (bv ops i) (R i)
structure StepK(P:Program)(all:List Oper)(o:Oper)(chk Z:List Nat)(env:List AV)(σ:Sto)(r:AV)(news:Sto)(wt:Bool)(kl:Option Nat):Prop where
 guard:∃g,cG all o.guard=some g∧gd g env (wt=true) (wt=false)
 skip:wt=false→kl=none∧r=.und∧news=[]
 free:∀q,q∈idsA r→q∉gn kl Z
 freeN:∀(Rt:Root),some Rt∈news→∀q,q∈idsL Rt.cells→q∉gn kl Z
 run:wt=true→kl=none→∀s':St,(∀k R,at_ σ k=some R→s' k=some R)→∀γ φ τ w (ρ:Operand→Value),Sim γ φ τ w→(∀k R,τ k=some R→s' k=some R)→(∀j,j<news.length→τ (σ.length+j)=none)→
   (∀X Y,cO X=some Y→X∈o.op.operands.toList→Rel w γ φ τ (O.ev env Y) (ρ X))→Fix ρ→Exec P (GPost γ φ τ w σ.length r news) ((execOp ρ o).run P w)
 kill:∀k,kl=some k→(∃op,cOp P o.op=some op∧isAp op=true)∧k<σ.length∧k∉Z∧HH k σ=true∧(∀t,t∈chk→k∉idsA (env.getD t .any))∧news.length=1∧
   ∀(M:Sto),(∀i Ri,at_ σ i=some Ri→at_ M i=some Ri)→∀γ φ τ w (ρ:Operand→Value),Sim γ φ τ w→(∀i Ri,τ i=some Ri→at_ M i=some Ri)→τ σ.length=none→(∀i Ri,τ i=some Ri→k∉idsL Ri.cells)→
    (∀X Y,cO X=some Y→X∈o.op.operands.toList→Rel w γ φ τ (O.ev env Y) (ρ X))→Fix ρ→τ k≠none∧Exec P (fun v w'=>∃γ' φ',KPost γ φ τ w k σ.length r news v w' γ' φ') ((execOp ρ o).run P w)
theorem rM{Z:List Nat}{q:Nat}:zf Z q=none↔q∈Z:=by
 unfold zf;split
 ·rename_i h;simp [List.contains_iff_mem]at h;simp [h]
 ·rename_i h;simp [List.contains_iff_mem]at h;simp [h]
theorem kr{Z:List Nat}{p q:Nat}:zf Z p=some q↔p=q∧q∉Z:=by
 unfold zf;split
 ·rename_i h
  simp only[List.contains_iff_mem]at h
  constructor
  ·intro h';cases h'
  ·rintro⟨rfl,h2⟩;exact absurd h h2
 ·rename_i h
  simp only[List.contains_iff_mem]at h
  constructor
  ·intro h';obtain rfl:=Option.some.inj h';exact⟨rfl,h⟩
  ·rintro⟨rfl,_⟩;rfl
theorem Km{P:Program}{all:List Oper}{o:Oper}{op:I}(hop:cOp P o.op=some op){g:Option (Nat × Bool)}(hg:cG all o.guard=some g){Z chk:List Nat}{env:List AV}{σ:Sto}{K:List Nat→List AV→AV→Sto→Prop}(hZ:∀q,q∈Z→q<σ.length)(hgd:gd g env (true=true) (true=false))(h:kI P Z chk env σ op K):
  ∃r news kl,StepK P all o chk Z env σ r news true kl∧K (gn kl Z) (oJ kl env) r (σ++news):=by
 have plain:∀{op:I},cOp P o.op=some op→gI P (at_ σ) (O.ev env) σ.length op (fun r news=>K Z env (Lift.rn (zf Z) r) (σ++zs Z news))→∃r news kl,StepK P all o chk Z env σ r news true kl∧K (gn kl Z) (oJ kl env) r (σ++news):=by
  intro op hop h;obtain⟨r,news,hK,hup⟩:=kG hop h;refine⟨Lift.rn (zf Z) r,zs Z news,none,⟨⟨g,hg,hgd⟩,(fun h=>by cases h),fun q hq=> ?_,fun Rt hRt q hq=> ?_,fun _ _ s' hs' γ φ τ w ρ hS hsub hd hr hf=> ?_,(fun k hk=>by cases hk)⟩,hK⟩
  ·obtain⟨p,_,hp⟩:=(AR r).1 hq
   exact(kr.1 hp).2
  ·simp only[zs,List.mem_map]at hRt
   obtain⟨x,hx,e⟩:=hRt;cases x with
   |none=>cases e
   |some R0=>
    obtain rfl:=Option.some.inj e;obtain⟨p,_,hp⟩:=(sY R0.cells).1 hq
    exact(kr.1 hp).2
  ·have hln:(zs Z news).length=news.length:=by simp [zs]
   rw[hln]at hd;exact Exec.mono (hup s' hs' γ φ τ w ρ hS hsub hd hr hf) fun v w' hq=>GPost.weak (Gk Z) hq hd
 cases op with
 |app e bytes z s' x=>
  unfold kI at h;simp only at h;split at h
  ·rename_i k off n hev
   split at h
   ·rename_i R m hR hm
    split at h
    ·rename_i l hl
     obtain⟨hRg,hRe,rfl,hlen,hb,hkZ,hall,hno,hchk,hK⟩:=h;have hklt:=tG hR;have hkn:k∉Z:=fun hk=>by rw[List.contains_iff_mem.2 hk]at hkZ;cases hkZ
     simp only[List.all_eq_true,Bool.not_eq_true']at hall hchk;have hal:∀q,q∈k :: Z→q∉idsL (R.cells++l):=fun q hq hin=>by
      have:=hall q hq;rw[List.contains_iff_mem.2 hin]at this;cases this
     have hnl:k∉idsL l:=fun hin=>hal k (by simp) (by
      obtain⟨x,hx,hq⟩:=oD.1 hin;exact oD.2 ⟨x,by simp [hx],hq⟩)
     refine⟨.own σ.length 0 (n+m),[some ⟨e,true,R.cells++l⟩],some k,⟨⟨g,hg,hgd⟩,(fun h=>by cases h),fun q hq=> ?_,fun Rt hRt q hq=> ?_,(fun _ h=>by cases h),fun k' hk'=> ?_⟩,hK⟩
     ·simp only[idsA,List.mem_singleton]at hq
      subst hq;simp only[gn,Option.toList,List.singleton_append,List.mem_cons,not_or];exact⟨by omega,fun h=>by have:=hZ _ h;omega⟩
     ·simp only[List.mem_singleton,zj]at hRt
      subst hRt;intro hz;exact hal q (by simpa [gn]using hz) hq
     ·obtain rfl:=Option.some.inj hk'
      refine⟨⟨_,hop,rfl⟩,hklt,hkn,hno,fun t ht hin=> ?_,rfl,fun M hM γ φ τ w ρ hS hτ hbase hnoτ hr hf=>LO hop hev hR hm hl hRg hRe hlen hb hnl hM hS hτ hbase hnoτ hr hf⟩;have:=hchk t ht;rw[List.contains_iff_mem.2 hin]at this;cases this
    ·exact h.elim
   ·exact h.elim
  ·exact plain hop h
 |_=>exact plain hop h
theorem wF{P:Program}{all:List Oper}:∀(l:List Oper) (l':List Ins) (cs:List (List Nat)),bw P all l=some l'→cs.length=l'.length→∀{Z:List Nat} {env:List AV} {σ:Sto} {K:List AV→Sto→Prop},(∀q,q∈Z→q<σ.length)→runK P (l'.zip cs) Z env σ K→
  ∃(R:Nat→AV) (N:Nat→Sto) (W:Nat→Bool) (κ:Nat→Option Nat),K (envK l R κ env l.length) (m5 (zAt κ Z l.length) (stAt N σ l.length))∧∀(i:Nat) (o:Oper),l[i]? =some o→StepK P all o (cs.getD i []) (zAt κ Z i) (envK l R κ env i) (stAt N σ i) (R i) (N i) (W i) (κ i)
 | [],l',cs,hc,hl,Z,env,σ,K,hZ,h=>by
  simp only[bw,zj]at hc;subst hc;exact⟨fun _=>.und,fun _=>[],fun _=>false,fun _=>none,h,fun i o hi=>by simp at hi⟩
 |o :: l,l',cs,hc,hl,Z,env,σ,K,hZ,h=>by
  simp only[bw]at hc;split at hc
  ·rename_i ins m hi hm
   simp only[zj]at hc;subst hc;unfold cIns at hi;split at hi
   ·rename_i i g hop hg
    simp only[zj]at hi;subst hi;cases cs with
    |nil=>simp at hl
    |cons chk cs=>
    simp only[List.zip_cons_cons,runK]at h;have hl':cs.length=m.length:=by simpa using hl
    have shift:∀(r:AV) (n:Sto) (kl:Option Nat) (R:Nat→AV) (N:Nat→Sto) (κ:Nat→Option Nat),(∀j,envK (o :: l) (fun i=>match i with|0=>r|i+1=>R i) (fun i=>match i with|0=>kl|i+1=>κ i) env (j+1)=envK l R κ (put (oJ kl env) o.dst r) j)∧(∀j,stAt (fun i=>match i with|0=>n|i+1=>N i) σ (j+1)=stAt N (σ++n) j)∧
      (∀j,zAt (fun i=>match i with|0=>kl|i+1=>κ i) Z (j+1)=zAt κ (gn kl Z) j):=by
     intro r n kl R N κ;refine⟨fun j=> ?_,fun j=> ?_,fun j=> ?_⟩
     ·induction j with
      |zero=>rfl
      |succ j ih=>rw[envK,ih];rfl
     ·induction j with
      |zero=>rfl
      |succ j ih=>rw[stAt,ih];rfl
     ·induction j with
      |zero=>rfl
      |succ j ih=>rw[zAt,ih];rfl
    have done:∀(r:AV) (n:Sto) (wt:Bool) (kl:Option Nat),StepK P all o chk Z env σ r n wt kl→runK P (m.zip cs) (gn kl Z) (put (oJ kl env) o.dst r) (σ++n) K→∃(R:Nat→AV) (N:Nat→Sto) (W:Nat→Bool) (κ:Nat→Option Nat),K (envK (o :: l) R κ env (o :: l).length) (m5 (zAt κ Z (o :: l).length) (stAt N σ (o :: l).length))∧
      ∀(i:Nat) (o':Oper),(o :: l)[i]? =some o'→StepK P all o' ((chk :: cs).getD i []) (zAt κ Z i) (envK (o :: l) R κ env i) (stAt N σ i) (R i) (N i) (W i) (κ i):=by
     intro r n wt kl h1 h2;have hZ':∀q,q∈gn kl Z→q<(σ++n).length:=fun q hq=>by
      rw[List.length_append];unfold gn at hq;rcases List.mem_append.1 hq with hq|hq
      ·cases kl with
       |none=>simp at hq
       |some k=>
        simp only[Option.toList,List.mem_singleton]at hq;subst hq;have:=(h1.kill q rfl).2.1;omega
      ·have:=hZ q hq
       omega
     obtain⟨R,N,W,κ,hK,hst⟩:=wF l m cs hm hl' hZ' h2;obtain⟨he,hs,hz⟩:=shift r n kl R N κ;refine⟨fun i=>match i with|0=>r|i+1=>R i,fun i=>match i with|0=>n|i+1=>N i,fun i=>match i with|0=>wt|i+1=>W i,fun i=>match i with|0=>kl|i+1=>κ i, ?_,fun i o' hi=> ?_⟩
     ·rw[Zl,he,hs,hz]
      exact hK
     ·cases i with
      |zero=>simp at hi;subst hi;exact h1
      |succ i=>
       rw[he,hs,hz];exact hst i o' (by simpa using hi)
    have hcase:(gd g env True False∧kI P Z chk env σ i (fun Z' env' r σ'=>runK P (m.zip cs) Z' (put env' o.dst r) σ' K))∨(gd g env False True∧runK P (m.zip cs) Z (put env o.dst .und) σ K):=by
     cases g with
     |none=>exact .inl ⟨trivial,h⟩
     |some tb=>
      obtain⟨t,want⟩:=tb;simp only[gd]at h ⊢;split at h
      ·split at h
       ·rename_i hb;exact .inl ⟨by simp [hb],h⟩
       ·rename_i hb;exact .inr ⟨by simp [hb],h⟩
      ·exact .inr ⟨trivial,h⟩
      ·exact h.elim
    have gdmono:∀{A B A' B':Prop},(A→A')→(B→B')→gd g env A B→gd g env A' B':=by
     intro A B A' B' ha hb hgd;cases g with
     |none=>exact ha hgd
     |some tb=>
      obtain⟨t,want⟩:=tb;simp only[gd]at hgd ⊢;split at hgd
      ·split at hgd
       ·rename_i hx;simp only[hx,if_true];exact ha hgd
       ·rename_i hx;simp only[hx,if_false];exact hb hgd
      ·exact hb hgd
      ·exact hgd.elim
    rcases hcase with ⟨hgd,h⟩|⟨hgd,h⟩
    ·obtain⟨r,news,kl,hst,hK⟩:=Km hop hg hZ (gdmono (fun _=>rfl) (fun h=>h.elim) hgd) h
     exact done r news true kl hst hK
    ·refine done .und [] false none ⟨⟨g,hg,gdmono (fun h=>h.elim) (fun _=>rfl) hgd⟩,fun _=>⟨rfl,rfl,rfl⟩,fun q hq=>by simp [idsA]at hq,fun Rt hRt=>by simp at hRt,(fun h=>by cases h),(fun k hk=>by cases hk)⟩ (by rw[List.append_nil];exact h)
   ·cases hi
  ·cases hc
def IY(ops:List Oper)(ms:List Nat)(i:Nat):List Nat:=(List.range i).flatMap fun j=>if (ms.getD i 0).testBit j then [] else match ops[j]? with
 |some o=>aV ops o
 |none=>[]
def ChkOk(P:Program)(ops:List Oper)(cs:List (List Nat))(m:Nat):Prop:=∀i j oi o t,i<m→j<i→ops[i]? =some oi→(∃op,cOp P oi.op=some op∧isAp op=true)→((aN [] ops).getD i 0).testBit j=false→ops[j]? =some o→t∈aV ops o→t∈cs.getD i []
def kd(m:Nat)(κ:Nat→Option Nat)(listed:Array Bool)(q:Nat):Bool:=(List.range m).any fun j=>listed.getD j false&&(κ j==some q)
def kf(m:Nat)(κ:Nat→Option Nat)(listed:Array Bool)(q:Nat):Option Nat:=if kd m κ listed q=true then none else some q
def stK(m:Nat)(N:Nat→Sto)(κ:Nat→Option Nat)(σ:Sto)(listed:Array Bool):St:=fun q=>if kd m κ listed q=true then none else stX m N σ listed q
theorem rp{m:Nat}{κ:Nat→Option Nat}{listed:Array Bool}{q:Nat}:kd m κ listed q=true↔∃j,j<m∧listed.getD j false=true∧κ j=some q:=by
 unfold kd;simp only[List.any_eq_true,List.mem_range,Bool.and_eq_true,beq_iff_eq]
theorem I9{m:Nat}{κ:Nat→Option Nat}{listed:Array Bool}:Fgt (kf m κ listed):=fun k k' h=>by
 unfold kf at h;split at h
 ·cases h
 ·exact(Option.some.inj h).symm
theorem sA{κ:Nat→Option Nat}{Z:List Nat}{q:Nat}:∀{i:Nat},q∈zAt κ Z i↔q∈Z∨∃j,j<i∧κ j=some q
 |0=>by simp [zAt]
 |i+1=>by
  rw[zAt,gn,List.mem_append,sA (i:=i)]
  constructor
  ·rintro (h|h|⟨j,h1,h2⟩)
   ·cases e:κ i with
    |none=>rw[e]at h;simp at h
    |some k=>rw[e]at h;simp only[Option.toList,List.mem_singleton]at h;subst h;exact .inr ⟨i,by omega,e⟩
   ·exact .inl h
   ·exact .inr ⟨j,by omega,h2⟩
  ·rintro (h|⟨j,h1,h2⟩)
   ·exact .inr (.inl h)
   ·by_cases e:j=i
    ·subst e;rw[h2];exact .inl (by simp)
    ·exact .inr (.inr ⟨j,by omega,h2⟩)
theorem Jb(Z:List Nat)(σ:Sto)(q:Nat):at_ (m5 Z σ) q=if q∈Z then none else at_ σ q:=by
 induction Z with
 |nil=>simp [m5]
 |cons k Z ih=>
  have hlen:(m5 Z σ).length=σ.length:=by
   clear ih
   induction Z with
   |nil=>rfl
   |cons k Z ih=>simp [m5,ih]
  rw[m5];simp only[at_]at ih ⊢;rw[List.getElem?_set];by_cases e:k=q
  ·subst e
   rw[if_pos rfl,if_pos (show k∈k :: Z by simp)];split<;>rfl
  ·rw[if_neg e,ih]
   simp [Ne.symm e]
section
variable {P : Program} {ops : List Oper} {cs : List (List Nat)} {m : Nat} {R : Nat → AV} {N : Nat → Sto} {W : Nat → Bool} {κ : Nat → Option Nat} {env : List AV} {σ : Sto} {γe : Labels} {φ0 : Nat → Nat} {we : World} {σ0 : Sto}
theorem m9(i:Nat):(envK ops R κ env i).length=env.length:=by
 induction i with
 |zero=>rfl
 |succ i ih=>
  rw[envK];have:(oJ (κ i) (envK ops R κ env i)).length=env.length:=by
   unfold oJ;split
   ·rw[aR,List.length_map,ih]
   ·exact ih
  unfold put;split<;>simp [this]
theorem Jd{kl:Option Nat}{Z:List Nat}{x:AV}:Lift.rn (zf (gn kl Z)) x=(match kl with
  |some k=>Lift.rn (fg k) (Lift.rn (zf Z) x)
  |none=>Lift.rn (zf Z) x):=by
 cases kl with
 |none=>rfl
 |some k=>
  simp only;rw[vZ];refine oq x fun q _=> ?_
  by_cases h1:q∈Z
  ·rw[rM.2 h1,rM.2 (by simp [gn,h1])]
   rfl
  ·rw[(kr (p:=q)).2 ⟨rfl,h1⟩]
   by_cases h2:q=k
   ·subst h2
    rw[rM.2 (by simp [gn])];simp [fg]
   ·rw[(kr (p:=q)).2 ⟨rfl,by simp [gn,h1,h2]⟩]
    simp [fg,h2]
theorem B4(ho:Once ops m)(hst:∀(i:Nat) (o:Oper),i<m→ops[i]? =some o→StepK P ops o (cs.getD i []) (zAt κ [] i) (envK ops R κ env i) (stAt N σ i) (R i) (N i) (W i) (κ i)):∀(i:Nat),i≤m→∀t,t<env.length→(envK ops R κ env i).getD t .any=Lift.rn (zf (zAt κ [] i)) (match bg ops m t with
  |some j=>if j<i then R j else env.getD t .any
  |none=>env.getD t .any)
 |0,_,t,ht=>by
  have:∀x:AV,Lift.rn (zf (zAt κ [] 0)) x=x:=fun x=>Ax fun q _=>(kr (p:=q)).2 ⟨rfl,by simp [zAt]⟩
  rw[this,envK];split
  ·rw[if_neg (Nat.not_lt_zero _)]
  ·rfl
 |i+1,hi,t,ht=>by
  have ih:=B4 ho hst i (by omega) t ht;rw[envK,zAt];have hkill:(oJ (κ i) (envK ops R κ env i)).getD t .any=Lift.rn (zf (gn (κ i) (zAt κ [] i))) (match bg ops m t with
    |some j=>if j<i then R j else env.getD t .any
    |none=>env.getD t .any):=by
   rw[Jd];unfold oJ;cases hk:κ i with
   |none=>exact ih
   |some k=>
    simp only;rw[← ih,aR,zq,List.getElem?_map,zq];have hlt:t<(envK ops R κ env i).length:=by rw[m9];exact ht
    rw[zg hlt]
    rfl
  have hklen:(oJ (κ i) (envK ops R κ env i)).length=env.length:=by
   unfold oJ;split
   ·rw[aR,List.length_map,m9]
   ·exact m9 i
  cases hd:bv ops i with
  |none=>
   simp only[put];rw[hkill]
   congr 1
   cases hw:bg ops m t with
   |none=>rfl
   |some j=>
    have:=aS hw;have hne:j≠i:=fun e=>by rw[e,hd]at this;cases this.2
    simp only;by_cases h:j<i
    ·rw[if_pos h,if_pos (by omega)]
    ·rw[if_neg h,if_neg (by omega)]
  |some d=>
   simp only[put];by_cases e:d=t
   ·subst e
    have hw:bg ops m d=some i:=by
     cases hw:bg ops m d with
     |none=>exact absurd hd (ku hw i (by omega))
     |some j=>
      have:=aS hw;rw[ho j i d this.1 (by omega) this.2 hd]
    rw[hw];simp only[Nat.lt_succ_self,if_true];rw[zq,List.getElem?_set,if_pos rfl,if_pos (by rw[hklen];exact ht)];have hoi:∃o,ops[i]? =some o:=by
     unfold bv at hd;cases e:ops[i]? with
     |none=>rw[e]at hd;cases hd
     |some o=>exact⟨o,rfl⟩
    obtain⟨o,hoi⟩:=hoi;have hfree:=(hst i o (by omega) hoi).free
    exact(Ax fun q hq=>(kr (p:=q)).2 ⟨rfl,hfree q hq⟩).symm
   ·rw[zq,List.getElem?_set,if_neg e, ← zq,hkill]
    congr 1
    cases hw:bg ops m t with
    |none=>rfl
    |some j=>
     have:=aS hw;have hne:j≠i:=fun e'=>by rw[e',hd]at this;exact e (by simpa using this.2)
     simp only;by_cases h:j<i
     ·rw[if_pos h,if_pos (by omega)]
     ·rw[if_neg h,if_neg (by omega)]
structure HK(ops:List Oper)(cs:List (List Nat))(m:Nat)(R:Nat→AV)(N:Nat→Sto)(κ:Nat→Option Nat)(env:List AV)(σ:Sto)(γe:Labels)(φ0:Nat→Nat)(we:World)(σ0:Sto)(listed:Array Bool)(a:Act)(w:World):Prop where
 size:listed.size=ops.length
 tail:∀t,m≤t→t<ops.length→listed.getD t false=false
 closed:Closed ops listed
 alive:∀j,j<m→listed.getD j false=true→∀q,κ j=some q→stX m N σ listed q≠none
 st:∃γ φ,Kst γe we γ w∧Sim γ φ (stK m N κ σ listed) w∧a.tmps.size=env.length∧(∀t,t<env.length→Rel w γ φ (stK m N κ σ listed) (Lift.rn (kf m κ listed) (valX ops m R env listed t)) (a.tmps.getD t undef))∧a.defers=[]∧
  ∀k Rt,at_ σ0 k=some Rt→Rt.g=false→Stay γe φ0 γ φ k∧∃R',stK m N κ σ listed k=some R'∧R'.g=false
theorem Fq{k:Nat}{σ:Sto}(h:HH k σ=true){q:Nat}{Rq:Root}(hq:at_ σ q=some Rq):k∉idsL Rq.cells:=by
 intro hin;have hm:(some Rq)∈σ:=by
  simp only[at_]at hq;cases e:σ[q]? with
  |none=>rw[e]at hq;cases hq
  |some x=>
   rw[e]at hq;simp only[Option.join_some]at hq;subst hq;exact List.mem_of_getElem? e
 have:=List.all_eq_true.1 h _ hm;simp only[Bool.not_eq_true']at this;rw[List.contains_iff_mem.2 hin]at this;cases this
theorem GE{i q:Nat}(hi:i≤m)(Rq:Root)(hq:at_ (stAt N σ m) q=some Rq):at_ (stAt N σ i) q=some Rq∨∃j,i≤j∧j<m∧some Rq∈N j:=by
 by_cases h:q<(stAt N σ i).length
 ·left
  obtain⟨l,hl⟩:=mQ (N:=N) (σ:=σ) i (m-i);rw[show i+(m-i)=m by omega]at hl;rw[hl]at hq;simp only[at_]at hq ⊢
  rwa [List.getElem?_append_left h]at hq
 ·right
  have:∀d,i+d≤m→∀Rq,at_ (stAt N σ (i+d)) q=some Rq→∃j,i≤j∧j<i+d∧some Rq∈N j:=by
   intro d
   induction d with
   |zero=>intro _ Rq hq;exact absurd (tG hq) h
   |succ d ih=>
    intro hd Rq hq;rw[← Nat.add_assoc,stAt]at hq;by_cases h2:q<(stAt N σ (i+d)).length
    ·simp only[at_]at hq
     rw[List.getElem?_append_left h2]at hq;obtain⟨j,h3,h4,h5⟩:=ih (by omega) Rq hq;exact⟨j,h3,by omega,h5⟩
    ·simp only[at_]at hq
     rw[List.getElem?_append_right (by omega)]at hq;cases e:(N (i+d))[q-(stAt N σ (i+d)).length]? with
     |none=>rw[e]at hq;cases hq
     |some x=>
      rw[e]at hq;simp only[Option.join_some]at hq;subst hq;exact⟨i+d,by omega,by omega,List.mem_of_getElem? e⟩
  obtain⟨j,h1,h2,h3⟩:=this (m-i) (by omega) Rq (by rw[show i+(m-i)=m by omega];exact hq);exact⟨j,h1,by omega,h3⟩
set_option maxHeartbeats 400000 in
theorem xE(hpre:dB ops (aN [] ops) m=true)(hcs:ChkOk P ops cs m)(hst:∀(i:Nat) (o:Oper),i<m→ops[i]? =some o→StepK P ops o (cs.getD i []) (zAt κ [] i) (envK ops R κ env i) (stAt N σ i) (R i) (N i) (W i) (κ i))
  {listed:Array Bool} {a:Act} {w:World} (hI:HK ops cs m R N κ env σ γe φ0 we σ0 listed a w) {i:Nat} (him:i<m) (hr:i∈Region.ready .any ops.toArray listed):
  ∃o,ops[i]? =some o∧Region.wanted o (yielded ops.toArray a.tmps)=W i∧(W i=false→HK ops cs m R N κ env σ γe φ0 we σ0 (listed.setIfInBounds i true) (a.put o.dst undef) w)∧
   (W i=true→Exec P (fun v w'=>HK ops cs m R N κ env σ γe φ0 we σ0 (listed.setIfInBounds i true) (a.put o.dst v) w') ((execOp a.eval o).run P w)):=by
 obtain⟨hun,oi,hoi,hall⟩:=mem_ready.1 hr;have hunf:=getD_both hun;obtain⟨o,ho,hedge,hpre1⟩:=cE hpre him;have hoi':ops[i]? =some oi:=by simpa using hoi
 rw[ho]at hoi';obtain rfl:o=oi:=by simpa using hoi'
 have hone:=cL hpre;have hall':∀e∈edg o,listed.getD e false=true:=fun e he=>by
  obtain⟨x,hx,hb,rfl⟩:=bP.1 he;exact hall x hx hb
 have hlt:i<ops.length:=(List.getElem?_eq_some_iff.1 ho).1;have hsz:i<listed.size:=by rw[hI.size];exact hlt
 obtain⟨γ,φ,hK,hS,htl,hrel,hd,hfix⟩:=hI.st;have hsi:=hst i o him ho;obtain⟨g,hg,hgd⟩:=hsi.guard;have hdst:bv ops i=o.dst:=by simp [bv,ho]
 have hslot:∀t,t∈aV ops o→Rel w γ φ (stK m N κ σ listed) ((envK ops R κ env i).getD t .any) (a.tmps.getD t undef):=by
  intro t ht;by_cases htlen:t<env.length
  ·have hwr:∀j,bg ops m t=some j→j<i∧listed.getD j false=true:=fun j hw=>by
    have hws:=aS hw;have hp:=hpre1 j hws.1;unfold wM at hp;rw[hws.2]at hp;have hcont:(aV ops o).contains t=true:=by simpa using ht
    simp only[hcont,Bool.not_true,Bool.false_or,Bool.and_eq_true,decide_eq_true_eq]at hp;exact⟨hp.1.1,bt hI.closed ho hall' hp.1.2⟩
   obtain⟨x,hx⟩:∃x,x=(match bg ops m t with
    |some j=>R j
    |none=>env.getD t .any):=⟨_,rfl⟩
   have hval:valX ops m R env listed t=x:=by
    rw[hx];unfold valX;cases hw:bg ops m t with
    |none=>rfl
    |some j=>simp only[(hwr j hw).2,if_true]
   have hat:∀i',i≤i'→i'≤m→(envK ops R κ env i').getD t .any=Lift.rn (zf (zAt κ [] i')) x:=fun i' h1 h2=>by
    rw[B4 hone hst i' h2 t htlen,hx];cases hw:bg ops m t with
    |none=>rfl
    |some j=>simp only[if_pos (show j<i' by have:=(hwr j hw).1;omega)]
   have hv:=hrel t htlen;rw[hval]at hv;rw[hat i (Nat.le_refl _) (by omega)];have hcomp:Lift.rn (zf (zAt κ [] i)) x=Lift.rn (zf (zAt κ [] i)) (Lift.rn (kf m κ listed) x):=by
    rw[vZ];refine oq x fun q hq=> ?_
    by_cases hkd:kd m κ listed q=true
    ·have e1:kf m κ listed q=none:=if_pos hkd
     rw[e1,Option.bind_none,rM];obtain⟨j,hjm,hlj,hκj⟩:=rp.1 hkd;rcases Nat.lt_trichotomy j i with h|h|h
     ·exact sA.2 (.inr ⟨j,h,hκj⟩)
     ·subst h;rw[hunf]at hlj;cases hlj
     ·exfalso
      have hjo:∃oj,ops[j]? =some oj:=by
       obtain⟨oj,h1,_⟩:=cE hpre hjm;exact⟨oj,h1⟩
      obtain⟨oj,hoj⟩:=hjo;obtain⟨hisap,_,hqZ,_,hchk,_⟩:=(hst j oj hjm hoj).kill q hκj;by_cases hbit:((aN [] ops).getD j 0).testBit i=true
      ·have:=bt hI.closed hoj (fun e he=>hI.closed j oj hoj hlj e he) hbit
       rw[hunf]at this;cases this
      ·have hin:=hcs j i oj o t hjm h hoj hisap (by simpa using hbit) ho ht
       refine hchk t hin ?_;rw[hat j (by omega) (by omega)]
       exact(AR x).2 ⟨q,hq,(kr (p:=q)).2 ⟨rfl,hqZ⟩⟩
    ·have e1:kf m κ listed q=some q:=if_neg hkd
     rw[e1,Option.bind_some]
   rw[hcomp];exact wH (Gk _) hv
  ·rw[zq,List.getElem?_eq_none (by rw[m9];omega)]
   simp [Rel]
 have hwant:Region.wanted o (yielded ops.toArray a.tmps)=W i:=by
  rcases t7 (ops:=ops.toArray) (a:=a) hg hgd (fun t want hgt=>hslot t (by
    subst hgt;unfold aV Cv;cases hgo:o.guard with
    |none=>rw[hgo]at hg;simp [cG]at hg
    |some jb=>
     obtain⟨j,b⟩:=jb;rw[hgo]at hg;simp only[cG]at hg;split at hg
     ·rename_i oj hoj
      split at hg
      ·rename_i t' ht'
       simp only[zj,Prod.mk.injEq]at hg;simp [hoj,ht',hg.1]
      ·cases hg
     ·cases hg))with ⟨h1,h2⟩|⟨h1,h2⟩
  ·rw[h1,h2]
  ·rw[h1,h2]
 have hnk:∀d,d<(N i).length→kd m κ listed ((stAt N σ i).length+d)=false:=fun d hd'=>by
  cases e:kd m κ listed ((stAt N σ i).length+d)with
  |false=>rfl
  |true=>
   obtain⟨j,h1,h2,h3⟩:=rp.1 e;exact absurd (s9 him hunf d hd') (hI.alive j h1 h2 _ h3)
 have hsub:∀k Rt,stK m N κ σ listed k=some Rt→stX m N σ listed k=some Rt:=fun k Rt h=>by
  unfold stK at h;split at h
  ·cases h
  ·exact h
 have hdead:∀d,d<(N i).length→stK m N κ σ listed ((stAt N σ i).length+d)=none:=fun d hd'=>by
  unfold stK;rw[s9 him hunf d hd'];split<;>rfl
 have hup:∀q,stX m N σ listed q≠none→stX m N σ (listed.setIfInBounds i true) q≠none:=fun q hq=>by
  rw[← s8 him hsz];unfold over;split
  ·rename_i hc
   have:=s9 (N:=N) (σ:=σ) him hunf (q-(stAt N σ i).length) (by omega);rw[show (stAt N σ i).length+(q-(stAt N σ i).length)=q by omega]at this;exact absurd this hq
  ·exact hq
 have hkd':∀q,kd m κ (listed.setIfInBounds i true) q=(kd m κ listed q||decide (κ i=some q)):=fun q=>by
  rw[Bool.eq_iff_iff];simp only[Bool.or_eq_true,decide_eq_true_eq];rw[rp,rp]
  constructor
  ·rintro⟨j,h1,h2,h3⟩
   rw[aj hsz]at h2;simp only[Bool.or_eq_true,decide_eq_true_eq]at h2;rcases h2 with rfl|h2
   ·exact .inr h3
   ·exact .inl ⟨j,h1,h2,h3⟩
  ·rintro (⟨j,h1,h2,h3⟩|h)
   ·exact⟨j,h1,by rw[aj hsz,h2];simp,h3⟩
   ·exact⟨i,him,by rw[aj hsz];simp,h⟩
 have hnext:∀v w' γ' φ',Kst γ w γ' w'→(κ i≠none→stX m N σ listed ((κ i).getD 0)≠none)→
   (∀k Rt,stK m N κ σ listed k=some Rt→Rt.g=false→Stay γ φ γ' φ' k∧∃R',stK m N κ σ (listed.setIfInBounds i true) k=some R'∧R'.g=false)→
   Sim γ' φ' (stK m N κ σ (listed.setIfInBounds i true)) w'→(∀x u,Rel w γ φ (stK m N κ σ listed) (Lift.rn (kf m κ listed) x) u→Rel w' γ' φ' (stK m N κ σ (listed.setIfInBounds i true)) (Lift.rn (kf m κ (listed.setIfInBounds i true)) x) u)→
   Rel w' γ' φ' (stK m N κ σ (listed.setIfInBounds i true)) (Lift.rn (kf m κ (listed.setIfInBounds i true)) (R i)) v→HK ops cs m R N κ env σ γe φ0 we σ0 (listed.setIfInBounds i true) (a.put o.dst v) w':=by
  intro v w' γ' φ' hK' hal hfx hS' hpers hR';refine⟨by simp [hI.size],fun t h1 h2=> ?_,fun j oj hj hlj e he=> ?_,fun j hj hlj q hq=> ?_,γ',φ',hK.trans hK',hS', ?_,fun t ht=> ?_, ?_,fun k Rt hk hgk=> ?_⟩
  ·rw[aj hsz,hI.tail t h1 h2]
   simp
   omega
  ·rw[aj hsz]at hlj ⊢
   simp only[Bool.or_eq_true,decide_eq_true_eq]at hlj ⊢;rcases hlj with rfl|hlj
   ·rw[ho]at hj
    obtain rfl:o=oj:=by simpa using hj
    exact .inr (hall' e he)
   ·exact .inr (hI.closed j oj hj hlj e he)
  ·rw[aj hsz]at hlj
   simp only[Bool.or_eq_true,decide_eq_true_eq]at hlj;rcases hlj with rfl|hlj
   ·have:=hal (by rw[hq];simp)
    rw[hq]at this;exact hup q this
   ·exact hup q (hI.alive j hj hlj q hq)
  ·cases o.dst<;>simp [Act.put,htl]
  ·rw[lQ (by rw[htl];exact ht)]
   by_cases hdt:o.dst=some t
   ·rw[if_pos hdt]
    have hw:bg ops m t=some i:=by
     cases hw:bg ops m t with
     |none=>exact absurd (by rw[hdst];exact hdt) (ku hw i him)
     |some j=>
      have hws:=aS hw;rw[hone j i t hws.1 him hws.2 (by rw[hdst];exact hdt)]
    have hv:valX ops m R env (listed.setIfInBounds i true) t=R i:=by
     unfold valX;rw[hw];simp only[aj hsz,decide_true,Bool.true_or,if_true]
    rw[hv];exact hR'
   ·rw[if_neg hdt]
    have:valX ops m R env (listed.setIfInBounds i true) t=valX ops m R env listed t:=by
     unfold valX;cases hw:bg ops m t with
     |none=>rfl
     |some j=>
      have hws:=aS hw;have hne:j≠i:=fun e=>by rw[e,hdst]at hws;exact hdt hws.2
      simp only[aj hsz,decide_eq_false hne,Bool.false_or]
    rw[this];exact hpers _ _ (hrel t ht)
  ·cases o.dst<;>simpa [Act.put]using hd
  ·obtain⟨h1,R1,h2,h3⟩:=hfix k Rt hk hgk
   obtain⟨h4,R2,h5,h6⟩:=hfx k R1 h2 h3;exact⟨h1.trans h4,R2,h5,h6⟩
 have hkeep:κ i=none→stK m N κ σ (listed.setIfInBounds i true)=over (stK m N κ σ listed) (stAt N σ i).length (N i)∧kf m κ (listed.setIfInBounds i true)=kf m κ listed:=fun hκ=>by
  have h1:∀q,kd m κ (listed.setIfInBounds i true) q=kd m κ listed q:=fun q=>by rw[hkd',hκ];simp
  refine⟨?_,by funext q;unfold kf;rw[h1]⟩
  funext q
  unfold stK;rw[h1, ← s8 him hsz];unfold over;by_cases hc:(stAt N σ i).length≤q∧q<(stAt N σ i).length+(N i).length
  ·rw[if_pos hc,if_pos hc]
   have:=hnk (q-(stAt N σ i).length) (by omega);rw[show (stAt N σ i).length+(q-(stAt N σ i).length)=q by omega]at this;rw[this]
   simp
  ·rw[if_neg hc,if_neg hc]
 refine⟨o,ho,hwant,fun hWi=> ?_,fun hWi=> ?_⟩
 ·obtain⟨h1,h2,h3⟩:=hsi.skip hWi
  obtain⟨h4,h5⟩:=hkeep h1;rw[h3,fo]at h4;refine hnext undef w γ φ (Kst.refl _ _) (fun h=>absurd h1 h) ?_ ?_ ?_ ?_
  ·rw[h4];exact fun k Rt hk hg=>⟨Stay.refl,Rt,hk,hg⟩
  ·rw[h4];exact hS
  ·rw[h4,h5];exact fun x u h=>h
  ·rw[h2];simp [Lift.rn,Rel]
 ·have hops:∀X Y,cO X=some Y→X∈o.op.operands.toList→Rel w γ φ (stK m N κ σ listed) (O.ev (envK ops R κ env i) Y) (a.eval X):=fun X Y hc hX=>by
   cases X with
   |tmp t=>
    simp only[cO,zj]at hc;subst hc;refine hslot t ?_;unfold aV;refine List.mem_append.2 (.inl (List.mem_filterMap.2 ⟨.tmp t,hX,rfl⟩))
   |const v=>
    simp only[cO,zj]at hc;subst hc;exact tB v
   |global g=>simp [cO]at hc
   |func f=>simp [cO]at hc
  cases hκ:κ i with
  |none=>
   have hex:=hsi.run hWi hκ (at_ (stAt N σ m)) (GD (Nat.le_of_lt him)) γ φ (stK m N κ σ listed) w a.eval hS (fun k Rt h=>vU listed k Rt (hsub k Rt h)) hdead hops ⟨fun _=>rfl,fun _=>rfl⟩;obtain⟨h4,h5⟩:=hkeep hκ;refine Exec.mono hex fun v w' hq=> ?_
   obtain⟨γ',φ',hK',hL,hS',hR'⟩:=hq;rw[← h4]at hL hS' hR';refine hnext v w' γ' φ' hK' (fun h=>absurd hκ h) (fun k Rt hk hg=> ?_) hS' (fun x u h=> ?_) (wH I9 hR')
   ·obtain⟨h6,R2,h7,_,h8,h9,_⟩:=hL k Rt hk
    exact⟨⟨h6,h9⟩,R2,h7,goff h8 hg⟩
   ·rw[h5]
    exact Rel.mono hK' hL _ _ h
  |some k=>
   obtain⟨_,hkl,hkZ,hno,hchk,hlen1,hrun⟩:=hsi.kill k hκ;have hnoτ:∀q Rq,stK m N κ σ listed q=some Rq→k∉idsL Rq.cells:=fun q Rq hq=>by
    have h1:=vU listed q Rq (hsub q Rq hq);rcases GE (Nat.le_of_lt him) Rq h1 with h2|⟨j,h2,h3,h4⟩
    ·exact Fq hno h2
    ·intro hin
     obtain⟨oj,hoj,_⟩:=cE hpre h3
     refine(hst j oj h3 hoj).freeN Rq h4 k hin ?_
     have:k∈zAt κ [] (j+1):=sA.2 (.inr ⟨i,by omega,hκ⟩);exact this
   have hbase:stK m N κ σ listed (stAt N σ i).length=none:=by have:=hdead 0 (by omega);simpa using this
   obtain⟨hne,hex⟩:=hrun (stAt N σ m) (GD (Nat.le_of_lt him)) γ φ (stK m N κ σ listed) w a.eval hS (fun k Rt h=>vU listed k Rt (hsub k Rt h)) hbase hnoτ hops ⟨fun _=>rfl,fun _=>rfl⟩;have hX:stX m N σ listed k≠none:=fun h=>hne (by unfold stK;rw[h];split<;>rfl)
   have h4:stK m N κ σ (listed.setIfInBounds i true)=over (upd (stK m N κ σ listed) k none) (stAt N σ i).length (N i):=by
    funext q
    have e1:∀q,kd m κ (listed.setIfInBounds i true) q=(kd m κ listed q||decide (k=q)):=fun q=>by rw[hkd',hκ];simp
    unfold stK;rw[e1, ← s8 him hsz];unfold over;by_cases hc:(stAt N σ i).length≤q∧q<(stAt N σ i).length+(N i).length
    ·rw[if_pos hc,if_pos hc]
     have:=hnk (q-(stAt N σ i).length) (by omega);rw[show (stAt N σ i).length+(q-(stAt N σ i).length)=q by omega]at this;rw[this,decide_eq_false (show ¬ k=q by omega)]
     simp
    ·rw[if_neg hc,if_neg hc]
     by_cases hqk:q=k
     ·subst hqk
      rw[aC]
      simp
     ·rw[au _ _ hqk,decide_eq_false (fun h=>hqk h.symm),Bool.or_false]
   have h5:∀x,Lift.rn (kf m κ (listed.setIfInBounds i true)) x=Lift.rn (fg k) (Lift.rn (kf m κ listed) x):=fun x=>by
    rw[vZ];refine oq x fun q _=> ?_
    unfold kf;rw[hkd',hκ];by_cases h1:kd m κ listed q=true
    ·simp [h1]
    ·by_cases h2:q=k
     ·subst h2;simp [h1,fg]
     ·simp [h1,fg,h2,Ne.symm h2]
   refine Exec.mono hex fun v w' hq=> ?_
   obtain⟨γ',φ',hK',hfx,hS',hpers,hR'⟩:=hq;rw[← h4]at hfx hS' hpers hR';refine hnext v w' γ' φ' hK' (fun _=>by rw[hκ];exact hX) hfx hS' (fun x u h=> ?_) (wH I9 hR');rw[h5];exact hpers _ _ h
theorem Dz{Q:Exit→Act→World→Prop}(hpre:dB ops (aN [] ops) m=true)(hcs:ChkOk P ops cs m)(hst:∀(i:Nat) (o:Oper),i<m→ops[i]? =some o→StepK P ops o (cs.getD i []) (zAt κ [] i) (envK ops R κ env i) (stAt N σ i) (R i) (N i) (W i) (κ i))
  {listed:Array Bool} {a:Act} {w:World} (hI:HK ops cs m R N κ env σ γe φ0 we σ0 listed a w) {i:Nat} (him:i<m) (hr:i∈Region.ready .any ops.toArray listed):
  wpOp P ops.toArray Q i (HK ops cs m R N κ env σ γe φ0 we σ0 (listed.setIfInBounds i true)) a w:=by
 obtain⟨o,ho,hw,h1,h2⟩:=xE hpre hcs hst hI him hr;unfold wpOp;rw[show ops.toArray[i]? =some o by simpa using ho];simp only[];cases hWi:W i with
 |false=>
  rw[if_neg (by simp [hw,hWi])];exact h1 hWi
 |true=>
  rw[if_pos (by rw[hw,hWi])];exact .inl (Exec.upon (h2 hWi) fun v w' hq=>hq)
end
theorem DN{P:Program}{γe:Labels}{φ0:Nat→Nat}{we:World}{σ0:Sto}{ops:List Oper}{m:Nat}{cs:List (List Nat)}{κ:Nat→Option Nat}{R:Nat→AV}{N:Nat→Sto}{env:List AV}{σ:Sto}{Q:Exit→Act→World→Prop}(hpre:dB ops (aN [] ops) m=true)(hm:m≤ops.length)
  (hseq:Region.seqB .any ops.toArray (ops.length-m) m (d9 ops.length m)=true)
  {W:Nat→Bool} (hcs:ChkOk P ops cs m) (hst:∀(i:Nat) (o:Oper),i<m→ops[i]? =some o→StepK P ops o (cs.getD i []) (zAt κ [] i) (envK ops R κ env i) (stAt N σ i) (R i) (N i) (W i) (κ i))
  (hend:∀a w,SR γe φ0 we σ0 (envK ops R κ env m) (m5 (zAt κ [] m) (stAt N σ m)) a w→wpList P ops.toArray Q (ops.drop m) a w)
  (listed:Array Bool) (a:Act) (w:World) (hI:HK ops cs m R N κ env σ γe φ0 we σ0 listed a w) (hf:unl m listed=0):wpAny P .any ops.toArray Q (0+(ops.length-m)) listed a w:=by
 have hall:∀j,j<m→listed.getD j false=true:=by
  intro j hj;have h0:=List.eq_nil_of_length_eq_zero hf;rw[List.filter_eq_nil_iff]at h0;have:=h0 j (by simp [hj]);simpa using this
 have hcan:listed=d9 ops.length m:=by
  apply Array.ext
  ·simp [d9,hI.size]
  ·intro i h1 h2
   have e1:listed[i]=listed.getD i false:=by simp [h1]
   have e2:(d9 ops.length m)[i]=(d9 ops.length m).getD i false:=by simp [h2]
   rw[e1,e2,rK];have hin:i<ops.length:=by rw[← hI.size];exact h1
   by_cases hi:i<m
   ·rw[hall i hi];simp [hin,hi]
   ·rw[hI.tail i (by omega) hin];simp [hi]
 obtain⟨γ,φ,hK,hS,htl,hrel,hd,hfix⟩:=hI.st;have hSX:stK m N κ σ listed=at_ (m5 (zAt κ [] m) (stAt N σ m)):=by
  funext q
  rw[Jb];unfold stK;rw[As hall];have:q∈zAt κ [] m↔kd m κ listed q=true:=by
   rw[sA,rp]
   constructor
   ·rintro (h|⟨j,h1,h2⟩)
    ·simp at h
    ·exact⟨j,h1,hall j h1,h2⟩
   ·rintro⟨j,h1,_,h2⟩
    exact .inr ⟨j,h1,h2⟩
  by_cases hq:q∈zAt κ [] m
  ·rw[if_pos hq,if_pos (this.1 hq)]
  ·rw[if_neg hq,if_neg fun h=>hq (this.2 h)]
 rw[hSX]at hS hrel hfix;have hSR:SR γe φ0 we σ0 (envK ops R κ env m) (m5 (zAt κ [] m) (stAt N σ m)) a w:=by
  refine⟨γ,φ,hK,hS,RelL.of_get (by simp [m9,htl]) fun t x hx=> ?_,hd,hfix⟩;have ht:t<env.length:=by
   have:=(List.getElem?_eq_some_iff.1 hx).1
   rwa [m9]at this
  have hv:=hrel t ht;have he:=B4 (cL hpre) hst m (Nat.le_refl _) t ht;rw[zq,hx,Option.getD_some]at he;refine⟨a.tmps.getD t undef, ?_, ?_⟩
  ·simp [show t<a.tmps.size by omega]
  ·rw[he]
   have hval:valX ops m R env listed t=(match bg ops m t with
    |some j=>if j<m then R j else env.getD t .any
    |none=>env.getD t .any):=by
    unfold valX;cases hw:bg ops m t with
    |none=>rfl
    |some j=>
     have hws:=aS hw;simp only[hall j hws.1,hws.1,if_true]
   rw[hval]at hv;have hρ:kf m κ listed=zf (zAt κ [] m):=by
    funext q
    have:q∈zAt κ [] m↔kd m κ listed q=true:=by
     rw[sA,rp]
     constructor
     ·rintro (h|⟨j,h1,h2⟩)
      ·simp at h
      ·exact⟨j,h1,hall j h1,h2⟩
     ·rintro⟨j,h1,_,h2⟩
      exact .inr ⟨j,h1,h2⟩
    unfold kf;by_cases hq:q∈zAt κ [] m
    ·rw[if_pos (this.1 hq),rM.2 hq]
    ·rw[if_neg fun h=>hq (this.2 h),(kr (p:=q)).2 ⟨rfl,hq⟩]
   rw[hρ]at hv;exact hv
 have hl:(ops.drop m).length=ops.length-m:=by simp
 rw[Nat.zero_add, ← hl];refine wpAny_of_seq (ops.drop m) m listed a w (fun j=>by simp [List.getElem?_drop]) (by rw[hl,hcan];exact hseq) (hend a w hSR)
theorem B5{P:Program}{γe:Labels}{φ0:Nat→Nat}{we:World}{σ0:Sto}{ops:List Oper}{m:Nat}{F:List Nat}{cs:List (List Nat)}{κ:Nat→Option Nat}{R:Nat→AV}{N:Nat→Sto}{W:Nat→Bool}{env:List AV}{σ:Sto}{Q:Exit→Act→World→Prop}(hpre:dB ops (aN [] ops) m=true)(hm:m≤ops.length)
  (hF:∀p∈F,p<m∧rE ops (aN [] ops) p=true∧∀o,ops[p]? =some o→∀e∈edg o,e∉F)
  (hfull:∀t,m≤t→t<ops.length→tg (aN [] ops) F t=true) (hseq:Region.seqB .any ops.toArray (ops.length-m) m (d9 ops.length m)=true) (hsel:Region.noSelect ops.toArray=true)
  (hP:∀c a dst v w,Q (.panic c) (Act.put a dst v) w→Q (.panic c) a w)
  (hcs:ChkOk P ops cs m) (hst:∀(i:Nat) (o:Oper),i<m→ops[i]? =some o→StepK P ops o (cs.getD i []) (zAt κ [] i) (envK ops R κ env i) (stAt N σ i) (R i) (N i) (W i) (κ i))
  (hend:∀a w,SR γe φ0 we σ0 (envK ops R κ env m) (m5 (zAt κ [] m) (stAt N σ m)) a w→wpList P ops.toArray Q (ops.drop m) a w):
  ∀(f:Nat) (listed:Array Bool) (a:Act) (w:World),HK ops cs m R N κ env σ γe φ0 we σ0 listed a w→unl m listed=f→wpAny P .any ops.toArray Q (f+(ops.length-m)) listed a w
 |0,listed,a,w,hI,hf=>DN hpre hm hseq hcs hst hend listed a w hI hf
 |f+1,listed,a,w,hI,hf=>by
  have hex:∃j,j<m∧listed.getD j false=false:=by
   cases hfl:(List.range m).filter fun j=> !listed.getD j false with
   |nil=>unfold unl at hf;rw[hfl]at hf;simp at hf
   |cons j l=>
    have:j∈(List.range m).filter fun j=> !listed.getD j false:=by rw[hfl];simp
    simp at this;exact⟨j,this.1,by simpa using this.2⟩
  rw[show f+1+(ops.length-m)=(f+(ops.length-m))+1 by omega];by_cases hfx:∃p,p∈F∧listed.getD p false=false∧∃o,ops[p]? =some o∧∀e∈edg o,listed.getD e false=true
  ·obtain⟨p,hp,hun,o,ho,hedge⟩:=hfx
   obtain⟨hpm,hfh,_⟩:=hF p hp;unfold rE at hfh;simp only[ho,Bool.and_eq_true]at hfh;obtain⟨hsl,hall⟩:=hfh;have hready:p∈Region.ready .any ops.toArray listed:=mem_ready.2 ⟨getD_in (by rw[hI.size];omega) hun,o,by simpa using ho,fun e he hb=>hedge _ (bP.2 ⟨e,he,hb,rfl⟩)⟩;have hfree:Region.free .any ops.toArray listed p=true:=by
    unfold Region.free;simp only[List.getElem?_toArray,ho,List.all_eq_true,List.mem_range,List.size_toArray];intro j hj;have h1:=List.all_eq_true.1 hall j (by simpa using hj);by_cases hjf:j=p
    ·simp [hjf]
    ·have hoj:ops[j]? =some ops[j]:=zg hj
     rw[hoj]at h1 ⊢;simp only[Bool.or_eq_true,beq_iff_eq,hjf,false_or]at h1 ⊢;rcases h1 with h1|h1|h1
     ·have:=bt hI.closed ho hedge h1
      left
      have hjs:j<listed.size:=by rw[hI.size];exact hj
      rw[Array.getD_eq_getD_getElem?]at this ⊢;rw[Array.getElem?_eq_getElem hjs]at this ⊢;simpa using this
     ·right;left
      obtain⟨e,he,hb,heq⟩:=bP.1 (by simpa using h1);rw[Array.any_eq_true'];exact⟨e,he,by simp [hb,heq]⟩
     ·exact .inr (.inr h1)
   obtain⟨o',ho',hwt,_,hexec⟩:=xE hpre hcs hst hI hpm hready;rw[ho]at ho';obtain rfl:o=o':=by simpa using ho'
   have hwp:W p=true:=by
    rw[← hwt];unfold By at hsl;simp only[Bool.and_eq_true,Option.isNone_iff_eq_none]at hsl;unfold Region.wanted;rw[hsl.2]
   obtain⟨v,hy,hI'⟩:=uZ (ops:=ops.toArray) hsl (hexec hwp);refine wpAny_take (by simpa using ho) hsel hfree (by simpa using hready) (fun c a w h=>hP c a _ _ w h) hy (B5 hpre hm hF hfull hseq hsel hP hcs hst hend f _ _ _ hI' ?_);have:=mN hpm (by rw[hI.size];omega) hun;omega
  ·have hready:∃i,i∈Region.ready .any ops.toArray listed:=by
    obtain⟨j,hj,hjf⟩:=hex
    induction j using Nat.strongRecOn with
    |_ j ih=>
     obtain⟨o,ho,hedge,_⟩:=cE hpre hj;by_cases hall:∀e∈edg o,listed.getD e false=true
     ·refine⟨j,mem_ready.2 ⟨getD_in (by rw[hI.size];omega) hjf,o,by simpa using ho,fun e he hb=>hall _ (bP.2 ⟨e,he,hb,rfl⟩)⟩⟩
     ·have⟨e,he,hne⟩:∃e,e∈edg o∧listed.getD e false=false:=by
       false_or_by_contra
       rename_i hc;apply hall;intro e he;cases hb:listed.getD e false with
       |true=>rfl
       |false=>exact absurd ⟨e,he,hb⟩ hc
      exact ih e (hedge e he) (by have:=hedge e he;omega) hne
   have hhead:∀i,i∈Region.ready .any ops.toArray listed→i<m:=by
    intro i hi;obtain⟨hun,oi,hoi,hall⟩:=mem_ready.1 hi;rcases Nat.lt_or_ge i m with h|h
    ·exact h
    ·exfalso
     have hoi':ops[i]? =some oi:=by simpa using hoi
     have hlt:i<ops.length:=(List.getElem?_eq_some_iff.1 hoi').1;have hed:∀e∈edg oi,listed.getD e false=true:=fun e he=>by
      obtain⟨x,hx,hb,rfl⟩:=bP.1 he;exact hall x hx hb
     have hnon:∀j,j<m→j∉F→listed.getD j false=true:=fun j hj hjF=>by
      have hb:=List.all_eq_true.1 (hfull i h hlt) j (by simp;omega);simp only[Bool.or_eq_true]at hb;rcases hb with hb|hb
      ·exact absurd (by simpa using hb) hjF
      ·exact bt hI.closed hoi' hed hb
     obtain⟨j,hj,hjf⟩:=hex;by_cases hjF:j∈F
     ·obtain⟨_,_,hno⟩:=hF j hjF
      obtain⟨o,ho,hedge,_⟩:=cE hpre hj;exact hfx ⟨j,hjF,hjf,o,ho,fun e he=>hnon e (by have:=hedge e he;omega) (hno o ho e he)⟩
     ·rw[hnon j hj hjF]at hjf;cases hjf
   refine⟨fun h0=> ?_,fun i hi=> ?_⟩
   ·obtain⟨i,hi⟩:=hready
    rw[h0]at hi;cases hi
   ·have him:=hhead i hi
    obtain⟨hun,oi,hoi,_⟩:=mem_ready.1 hi;have hoi':ops[i]? =some oi:=by simpa using hoi
    have hlt:i<ops.length:=(List.getElem?_eq_some_iff.1 hoi').1;refine wpOp_mono (fun a' w' hI'=>B5 hpre hm hF hfull hseq hsel hP hcs hst hend f _ a' w' hI' ?_) (Dz (Q:=Q) hpre hcs hst hI him hi);have:=mN him (by rw[hI.size];exact hlt) (getD_both hun);omega
def chks(ops:List Oper)(l:List Ins)(m:Nat):List (List Nat):=(List.range m).map fun i=>if ((l[i]?).map fun x=>isAp x.op).getD false then IY ops (aN [] ops) i else []
theorem uT{P:Program}{all:List Oper}:∀{l:List Oper} {l':List Ins},bw P all l=some l'→l'.length=l.length
 | [],l',h=>by simp only[bw,zj]at h;subst h;rfl
 |o :: l,l',h=>by
  simp only[bw]at h;split at h
  ·rename_i i m hi hm
   simp only[zj]at h;subst h;simp [uT hm]
  ·cases h
theorem Af{P:Program}{all:List Oper}:∀{l:List Oper} {l':List Ins} {i:Nat} {o:Oper},bw P all l=some l'→l[i]? =some o→∃x,l'[i]? =some x∧cIns P all o=some x
 | [],l',i,o,h,ho=>by simp at ho
 |o1 :: l,l',i,o,h,ho=>by
  simp only[bw]at h;split at h
  ·rename_i x m hx hm
   simp only[zj]at h;subst h;cases i with
   |zero=>simp at ho;subst ho;exact⟨x,rfl,hx⟩
   |succ i=>
    obtain⟨y,h1,h2⟩:=Af (i:=i) hm (by simpa using ho);exact⟨y,by simpa using h1,h2⟩
  ·cases h
theorem KT{P:Program}{ops:List Oper}{l:List Ins}{m:Nat}(hl:bw P ops ops=some l):ChkOk P ops (chks ops l m) m:=by
 intro i j oi o t hi hj hoi hap hb ho ht;obtain⟨op,hop,hisap⟩:=hap;obtain⟨x,hx,hcx⟩:=Af hl hoi;have hxo:x.op=op:=by
  unfold cIns at hcx;rw[hop]at hcx;split at hcx
  ·rename_i i' g h1 h2
   simp only[zj]at h1 hcx;subst h1 hcx
   rfl
  ·cases hcx
 have:(chks ops l m).getD i []=IY ops (aN [] ops) i:=by
  unfold chks;rw[zq,List.getElem?_map,List.getElem?_range hi];simp [hx,hxo,hisap]
 rw[this];unfold IY;rw[List.mem_flatMap];refine⟨j,by simpa using hj, ?_⟩;rw[hb];simp [ho,ht]
theorem Ff{P:Program}{γe:Labels}{φ0:Nat→Nat}{we:World}{σ0:Sto}{id:Nat}{ops:Array Oper}{m:Nat}(hm:P.follows .mixedOrders=true){l:List Ins}(hl:bw P ops.toList ops.toList=some l)(hmle:m≤ops.toList.length)(hpre:dB ops.toList (aN [] ops.toList) m=true)
  (hfo:oR ops.toList (aN [] ops.toList) (fset ops.toList (aN [] ops.toList) m)=true) (hful:∀d,d<ops.toList.length-m→tg (aN [] ops.toList) (fset ops.toList (aN [] ops.toList) m) (m+d)=true)
  (hseq:Region.seqB .any ops.toList.toArray (ops.toList.length-m) m (d9 ops.toList.length m)=true) (hsel:Region.noSelect ops.toList.toArray=true)
  {K:Ex→List AV→Sto→Prop} {env:List AV} {σ:Sto} {a:Act} {w:World} {Q:Exit→Act→World→Prop}
  (h:runK P ((l.take m).zip (chks ops.toList l m)) [] env σ fun e σ=>runT P (l.drop m) e σ (K .normal)) (hS:SR γe φ0 we σ0 env σ a w) (hQ:∀env σ a w,K .normal env σ→SR γe φ0 we σ0 env σ a w→Q .normal a w)
  (hP:∀c a dst v w,Q (.panic c) (Act.put a dst v) w→Q (.panic c) a w):(Code.region id ops true).wp P Q a w:=by
 have hF:∀p∈fset ops.toList (aN [] ops.toList) m,p<m∧rE ops.toList (aN [] ops.toList) p=true∧∀o,ops.toList[p]? =some o→∀e∈edg o,e∉fset ops.toList (aN [] ops.toList) m:=by
  intro p hp;have hpm:p<m:=by
   unfold fset at hp;simpa using (List.mem_filter.1 hp).1
  have h1:=List.all_eq_true.1 hfo p hp;simp only[Bool.and_eq_true]at h1;refine⟨hpm,h1.1,fun o ho e he=> ?_⟩;have h2:=h1.2;rw[ho]at h2;have:=List.all_eq_true.1 h2 e he;simpa using this
 obtain⟨h1,h2⟩:=cN ops.toList l m hl;have htl:(ops.toList.take m).length=m:=by simp at hmle ⊢;omega
 have hll:l.length=ops.toList.length:=uT hl;obtain⟨R,N,W,κ,hK,hst⟩:=wF (ops.toList.take m) (l.take m) (chks ops.toList l m) h1 (by simp [chks];simp at hmle hll;omega) (fun q hq=>by simp at hq) h;have henv:∀i,i≤m→envK (ops.toList.take m) R κ env i=envK ops.toList R κ env i:=by
  intro i
  induction i with
  |zero=>intro _;rfl
  |succ i ih=>
   intro hi;rw[envK,envK,ih (by omega)]
   congr 1
   simp only[bv,List.getElem?_take,show i<m by omega,if_true]
 rw[htl,henv m (Nat.le_refl _)]at hK;have hst':∀(i:Nat) (o:Oper),i<m→ops.toList[i]? =some o→StepK P ops.toList o ((chks ops.toList l m).getD i []) (zAt κ [] i) (envK ops.toList R κ env i) (stAt N σ i) (R i) (N i) (W i) (κ i):=by
  intro i o hi ho;have:=hst i o (by rw[List.getElem?_take,if_pos hi];exact ho)
  rwa [henv i (by omega)]at this
 have hcs:ChkOk P ops.toList (chks ops.toList l m) m:=KT hl;refine wp_region_any hm ?_;obtain⟨γ,φ,hKst,hSim,hE,hd,hfix⟩:=hS;have hnone:∀j,(Array.replicate ops.size false).getD j false=false:=fun j=>getD_replicate_false _ _
 have hsx:stX m N σ (Array.replicate ops.size false)=at_ σ:=oh (fun j _=>hnone j) (fun k hk=>by
  obtain⟨l',hl'⟩:=mQ (N:=N) (σ:=σ) 0 m;rw[Nat.zero_add]at hl';rw[hl'];simp only[at_,stAt];rw[List.getElem?_append_left hk])
 have hkd:∀q,kd m κ (Array.replicate ops.size false) q=false:=fun q=>by
  cases e:kd m κ (Array.replicate ops.size false) q with
  |false=>rfl
  |true=>
   obtain⟨j,_,h2,_⟩:=rp.1 e;rw[hnone j]at h2;cases h2
 have hsk:stK m N κ σ (Array.replicate ops.size false)=at_ σ:=by
  funext q
  unfold stK;rw[hkd,hsx]
  simp
 have hI:HK ops.toList (chks ops.toList l m) m R N κ env σ γe φ0 we σ0 (Array.replicate ops.size false) a w.drew:=by
  refine⟨by simp,fun t _ _=>hnone t,fun j o _ hlj=>(by rw[hnone j]at hlj;cases hlj),fun j _ hlj=>(by rw[hnone j]at hlj;cases hlj),γ,φ,hKst.trans (Kst.drew _ _), ?_, ?_,fun t ht=> ?_,hd, ?_⟩
  ·rw[hsk];exact hSim.drew
  ·have:=hE.len;simpa using this
  ·rw[hsk]
   have hkf:kf m κ (Array.replicate ops.size false)=some:=by
    funext q
    unfold kf;rw[hkd]
    simp
   rw[hkf,Eg.1];unfold valX;cases hw:bg ops.toList m t with
   |none=>exact Rel.mono (Kst.drew γ w) (Live.refl _ _ _ _) _ _ (dY hE t)
   |some j=>simp only[hnone j,Bool.false_eq_true,if_false,Rel]
  ·rw[hsk];exact hfix
 have hany:=B5 (P:=P) (Q:=Q) hpre hmle hF (fun t h1 h2=>by have:=hful (t-m) (by omega);rwa [show m+(t-m)=t by omega]at this) hseq hsel hP hcs hst' (fun a w hS'=>dF (ops:=ops) (ops.toList.drop m) (l.drop m) h2 hK hS' hQ)
  (unl m (Array.replicate ops.size false)) _ a w.drew hI rfl
 have hul:unl m (Array.replicate ops.size false)=m:=by
  unfold unl;rw[List.filter_eq_self.2 (fun j _=>by rw[hnone j];rfl)]
  simp
 rw[hul,show m+(ops.toList.length-m)=ops.size by simp at hmle ⊢;omega]at hany;exact hany
def SK(P:Program)(l:List (Ins × List Nat))(d:Option Nat)(K:List AV→Sto→Prop)(Z:List Nat)(e:List AV)(r:AV)(σ:Sto):Prop:=runK P l Z (put e d r) σ K
section
variable {P : Program} {σ : Sto} {K : AV → Sto → Prop} {T : List Nat → List AV → AV → Sto → Prop} {N : List AV → Sto → Prop} {l : List (Ins × List Nat)} {e : List AV} {d : Option Nat} {r : AV} {news : Sto} {m0 : Nat} {X : Nat → List AV → Sto → Prop} {R : List AV → Sto → Prop} {t : List Ins} {op : I} {Z chk : List Nat} {xs : List Int} {a b : List AV} {k q : Nat}
theorem w6:idsL (iv xs)=[]:=by
 induction xs with
 |nil=>rfl
 |cons x l ih=>simpa [iv,idsL,idsA]using ih
end
attribute [go_sem] w6 zf
end Go.Lift
namespace Go.Lift
open Go.RowKit
def Lh(i:Ins):Bool:=match i.op with
 | .app _ _ _ (.c _) _=>false
 | .app .. =>true
 |_=>false
def Kt(l:List Ins)(ms:List Nat)(n:Nat):Nat:=if (l.take (dD ms n)).all BU then dD ms n else ((l.findIdx? fun i=> !BU i).getD 0)
def mf(P:Program)(ops:List Oper)(draw:Bool):Option C:=
 match bw P ops ops with
 |none=>none
 |some l=>
  if draw&&(l.take (dD (aN [] ops) ops.length)).any Lh then
   let ms:=aN [] ops
   let m2:=((l.findIdx? fun i=> !BU i||Lh i).getD 0)
   let F:=fset ops ms m2
   if dB ops ms m2&&decide (m2≤ops.length)&&oR ops ms F&&(List.range (ops.length-m2)).all (fun d=>tg ms F (m2+d))&&Region.seqB .any ops.toArray (ops.length-m2) m2 (d9 ops.length m2)&&Region.noSelect ops.toArray then
    some (.draw (l.take m2) (l.drop m2)) else
   let m3:=Kt l ms ops.length
   let F3:=fset ops ms m3
   if dB ops ms m3&&decide (m3≤ops.length)&&oR ops ms F3&&(List.range (ops.length-m3)).all (fun d=>tg ms F3 (m3+d))&&Region.seqB .any ops.toArray (ops.length-m3) m3 (d9 ops.length m3)&&Region.noSelect ops.toArray then
    some (.drawK ((l.take m3).zip (chks ops l m3)) (l.drop m3)) else none
  else qm P ops draw
def bV(P:Program):Code→Option C
 | .skip=>some .skip
 | .region _ ops draw=>mf P ops.toList draw
 | .seq a b=>match bV P a,bV P b with
  |some a,some b=>some (.seq a b)
  |_,_=>none
 | .cond c a b=>match cO c,bV P a,bV P b with
  |some c,some a,some b=>some (.cond c a b)
  |_,_,_=>none
 | .block id b=>(bV P b).map (.block id)
 | .loop b=>(bV P b).map .loop
 | .exit id=>some (.exit id)
 | .ret=>some .ret
 |_=>none
def J3(P:Program)(fn:Func):Option Fun:=
 match fn.body with
 |some c=>match bV P c,cRVs P fn.results.toList with
  |some b,some r=>if fn.nfree=0 then some ⟨fn.params.size,fn.ntmps,b,r⟩ else none
  |_,_=>none
 |none=>none
section
variable {P : Program} {γe : Labels} {φ0 : Nat → Nat} {we : World} {σ0 : Sto}
theorem gf{id:Nat}{ops:Array Oper}{draw:Bool}{c:C}(hm:P.follows .mixedOrders=true)(hc:mf P ops.toList draw=some c){K:Ex→List AV→Sto→Prop}{env:List AV}{σ:Sto}{a:Act}{w:World}{Q:Exit→Act→World→Prop}
  {m0:Nat} (h:wpC P m0 c K env σ) (hS:SR γe φ0 we σ0 env σ a w) (hQ:∀env σ a w,K .normal env σ→SR γe φ0 we σ0 env σ a w→Q .normal a w) (hP:∀c a dst v w,Q (.panic c) (Act.put a dst v) w→Q (.panic c) a w):(Code.region id ops draw).wp P Q a w:=by
 unfold mf at hc;split at hc
 ·cases hc
 ·rename_i l hl
  split at hc
  ·rename_i hd
   simp only[Bool.and_eq_true]at hd;obtain⟨rfl,_⟩:=hd;simp only at hc;split at hc
   ·rename_i hcond
    simp only[zj]at hc;subst hc;simp only[wpC]at h;simp only[Bool.and_eq_true,decide_eq_true_eq]at hcond;obtain⟨⟨⟨⟨⟨hpre,hmle⟩,hfo⟩,hful⟩,hseq⟩,hsel⟩:=hcond;simp only[List.all_eq_true,List.mem_range]at hful;exact BQ hm hl hmle hpre hfo hful hseq hsel h hS hQ hP
   ·split at hc
    ·rename_i hcond
     simp only[zj]at hc;subst hc;simp only[wpC]at h;simp only[Bool.and_eq_true,decide_eq_true_eq]at hcond;obtain⟨⟨⟨⟨⟨hpre,hmle⟩,hfo⟩,hful⟩,hseq⟩,hsel⟩:=hcond;simp only[List.all_eq_true,List.mem_range]at hful;exact Ff hm hl hmle hpre hfo hful hseq hsel h hS hQ hP
    ·cases hc
  ·exact mS hm hc h hS hQ hP
theorem tC{ops:List Oper}{draw:Bool}{c:C}(h:mf P ops draw=some c):(∃l,c=.reg l)∨(∃p t,c=.draw p t)∨∃p t,c=.drawK p t:=by
 unfold mf at h;split at h
 ·cases h
 ·split at h
  ·simp only at h
   split at h
   ·simp only[zj]at h
    exact .inr (.inl ⟨_,_,h.symm⟩)
   ·split at h
    ·simp only[zj]at h
     exact .inr (.inr ⟨_,_,h.symm⟩)
    ·cases h
  ·rcases vu h with h|h
   ·exact .inl h
   ·exact .inr (.inl h)
theorem cD{cd:Code}{c:C}(h:bV P cd=some c):match c with
  | .skip=>cd=.skip
  | .reg _=>∃id ops draw,cd=.region id ops draw
  | .draw _ _=>∃id ops draw,cd=.region id ops draw
  | .drawK _ _=>∃id ops draw,cd=.region id ops draw
  | .drawW _ _ _ _=>False
  | .seq a b=>∃x y,cd=.seq x y∧bV P x=some a∧bV P y=some b
  | .cond c a b=>∃o x y,cd=.cond o x y∧cO o=some c∧bV P x=some a∧bV P y=some b
  | .block id b=>∃x,cd=.block id x∧bV P x=some b
  | .loop b=>∃x,cd=.loop x∧bV P x=some b
  | .exit id=>cd=.exit id
  | .ret=>cd=.ret
  | .gh _=>False:=by
 cases cd with
 |skip=>simp only[bV,zj]at h;subst h;trivial
 |region id ops draw=>
  simp only[bV]at h;rcases tC h with ⟨l,rfl⟩|⟨p,t,rfl⟩|⟨p,t,rfl⟩<;>exact⟨_,_,_,rfl⟩
 |seq x y=>
  simp only[bV]at h;split at h
  ·rename_i c1 c2 h1 h2
   simp only[zj]at h;subst h;exact⟨x,y,rfl,h1,h2⟩
  ·cases h
 |cond o x y=>
  simp only[bV]at h;split at h
  ·rename_i o' c1 c2 ho h1 h2
   simp only[zj]at h;subst h;exact⟨o,x,y,rfl,ho,h1,h2⟩
  ·cases h
 |block id b=>
  simp only[bV,zm]at h;obtain⟨c1,h1,rfl⟩:=h;exact⟨b,rfl,h1⟩
 |loop b=>
  simp only[bV,zm]at h;obtain⟨c1,h1,rfl⟩:=h;exact⟨b,rfl,h1⟩
 |exit id=>simp only[bV,zj]at h;subst h;trivial
 |ret=>simp only[bV,zj]at h;subst h;trivial
 |_=>simp [bV]at h
theorem D4(hm:P.follows .mixedOrders=true):∀(c:C) (cd:Code),bV P cd=some c.erase→∀{K:Ex→List AV→Sto→Prop} {env:List AV} {σ:Sto} {a:Act} {w:World} {Q:Exit→Act→World→Prop},wpC P σ0.length c K env σ→SR γe φ0 we σ0 env σ a w→
  (∀x env σ a w,K x env σ→SR γe φ0 we σ0 env σ a w→Q x.to a w)→(∀c a dst v w,Q (.panic c) (Act.put a dst v) w→Q (.panic c) a w)→cd.wp P Q a w:=by
 intro c
 induction c with
 |skip=>
  intro cd hc K env σ a w Q h hS hQ hP;have hi:cd=.skip:=cD hc;subst hi;exact wp_skip (hQ .normal _ _ _ _ h hS)
 |reg l=>
  intro cd hc K env σ a w Q h hS hQ hP;obtain⟨id,ops,draw,rfl⟩:=cD hc;simp only[bV]at hc;exact gf hm hc h hS (fun env σ a w hk hs=>hQ .normal env σ a w hk hs) hP
 |draw p t=>
  intro cd hc K env σ a w Q h hS hQ hP;obtain⟨id,ops,draw,rfl⟩:=cD hc;simp only[bV]at hc;exact gf hm hc h hS (fun env σ a w hk hs=>hQ .normal env σ a w hk hs) hP
 |drawK p t=>
  intro cd hc K env σ a w Q h hS hQ hP;obtain⟨id,ops,draw,rfl⟩:=cD hc;simp only[bV]at hc;exact gf hm hc h hS (fun env σ a w hk hs=>hQ .normal env σ a w hk hs) hP
 |drawW p q m t=>
  intro cd hc K env σ a w Q h hS hQ hP
  exact(cD hc).elim
 |seq x y ihx ihy=>
  intro cd hc K env σ a w Q h hS hQ hP;obtain⟨c1,c2,rfl,h1,h2⟩:=cD hc;simp only[wpC]at h;refine wp_seq (ihx c1 h1 h hS (fun x env σ a w hk hs=> ?_) hP);cases x with
  |normal=>exact ihy c2 h2 hk hs hQ hP
  |exit id=>exact hQ (.exit id) _ _ _ _ hk hs
  |ret=>exact hQ .ret _ _ _ _ hk hs
 |cond o x y ihx ihy=>
  intro cd hc K env σ a w Q h hS hQ hP;obtain⟨o',c1,c2,rfl,ho,h1,h2⟩:=cD hc;simp only[wpC]at h;split at h
  ·rename_i t ht
   have hS0:=hS;obtain⟨γ,φ,hK,hSim,hE,hd,hfix⟩:=hS0;have hr:=B3 hE ho;rw[ht]at hr;have hv:=dI hr;refine wp_cond hv ?_;cases t with
   |true=>simp only[if_true]at h ⊢;exact ihx c1 h1 h hS hQ hP
   |false=>simp only[Bool.false_eq_true,if_false]at h ⊢;exact ihy c2 h2 h hS hQ hP
  ·exact h.elim
 |block id b ih=>
  intro cd hc K env σ a w Q h hS hQ hP;obtain⟨c1,rfl,h1⟩:=cD hc;simp only[wpC]at h;refine wp_block (ih c1 h1 h hS (fun x env σ a w hk hs=> ?_) hP);cases x with
  |normal=>exact hQ .normal _ _ _ _ hk hs
  |exit i=>
   simp only[Ex.to,Exit.inBlock];simp only at hk;split
   ·rename_i e
    rw[if_pos e]at hk;exact hQ .normal _ _ _ _ hk hs
   ·rename_i e
    rw[if_neg e]at hk;exact hQ (.exit i) _ _ _ _ hk hs
  |ret=>exact hQ .ret _ _ _ _ hk hs
 |loop b ih=>
  intro cd hc K env σ a w Q h hS hQ hP;obtain⟨c1,rfl,h1⟩:=cD hc;simp only[wpC]at h;obtain⟨J,⟨m,e',σ',hw,hJ⟩,hround⟩:=h;have key:∀a w,∃μ:Nat,(∃n e σ,J n e σ∧SR γe φ0 we σ0 e σ a w)→(∃e σ,J μ e σ∧SR γe φ0 we σ0 e σ a w)∧∀k,(∃e σ,J k e σ∧SR γe φ0 we σ0 e σ a w)→μ≤k:=by
   intro a w;by_cases hx:∃n e σ,J n e σ∧SR γe φ0 we σ0 e σ a w
   ·obtain⟨μ,h1,h2⟩:=mY (p:=fun n=>∃e σ,J n e σ∧SR γe φ0 we σ0 e σ a w) hx
    exact⟨μ,fun _=>⟨h1,h2⟩⟩
   ·exact⟨0,fun h=>absurd h hx⟩
  refine wp_loop (fun a w=>∃n e σ,J n e σ∧SR γe φ0 we σ0 e σ a w) (fun a w=>Classical.choose (key a w)) ⟨m,e',σ',hJ,cy hw hS⟩ fun a w hI=> ?_
  obtain⟨⟨e,σ,hJ,hs⟩,hmin⟩:=Classical.choose_spec (key a w) hI;refine ih c1 h1 (hround _ e σ hJ) hs (fun x env σ a' w' hk hs'=> ?_) hP;cases x with
  |normal=>
   obtain⟨m',e2,σ2,hlt,hw2,hJ2⟩:=hk;have hI':∃n e σ,J n e σ∧SR γe φ0 we σ0 e σ a' w':=⟨m',e2,σ2,hJ2,cy hw2 hs'⟩;refine⟨hI', ?_⟩;have:=(Classical.choose_spec (key a' w') hI').2 m' ⟨e2,σ2,hJ2,cy hw2 hs'⟩;exact Nat.lt_of_le_of_lt this hlt
  |exit id=>exact hQ (.exit id) _ _ _ _ hk hs'
  |ret=>exact hQ .ret _ _ _ _ hk hs'
 |exit id=>
  intro cd hc K env σ a w Q h hS hQ hP;have hi:cd=.exit id:=cD hc;subst hi;exact wp_exit (hQ (.exit id) _ _ _ _ h hS)
 |ret=>
  intro cd hc K env σ a w Q h hS hQ hP;have hi:cd=.ret:=cD hc;subst hi;exact wp_ret (hQ .ret _ _ _ _ h hS)
 |gh x ih=>
  intro cd hc K env σ a w Q h hS hQ hP;simp only[wpC]at h;refine ih cd hc h hS (fun x env σ a w hk hs=> ?_) hP;cases x with
  |normal=>
   obtain⟨e',σ',hw,hk⟩:=hk;exact hQ .normal _ _ _ _ hk (cy hw hs)
  |exit id=>exact hQ (.exit id) _ _ _ _ hk hs
  |ret=>exact hQ .ret _ _ _ _ hk hs
end
theorem spec_ofK{P:Program}{f:FuncId}{fn:Func}{F:Fun}{args:List AV}{σ0:Sto}{res:AV}{σ1:Sto}(hm:P.follows .mixedOrders=true)(hf:P.funcs[f]? =some fn)(hF:J3 P fn=some F.erase)(h:FnOk P F args σ0 res σ1):Does P f args σ0 res σ1:=by
 intro γ φ w vals hS hargs;unfold J3 at hF;split at hF
 ·rename_i cd hb
  split at hF
  ·rename_i b rs hcc hrs
   split at hF
   ·obtain⟨np,nt,bd,rs'⟩:=F
    simp only[Fun.erase,zj,Fun.mk.injEq]at hF;obtain⟨rfl,rfl,rfl,rfl⟩:=hF;obtain⟨hlen,hwp⟩:=h;simp only at hlen hwp;have hal:=hargs.len;refine calls_of_wp hf hb (D4 (γe:=γ) (φ0:=φ) (we:=w) (σ0:=σ0) hm bd cd hcc hwp ⟨γ,φ,Kst.refl _ _,hS, ?_,rfl,fun k R hk hg=>⟨Stay.refl,R,hk,hg⟩⟩ (fun x env σ a w' hpost hSR=> ?_) (fun c a dst v w h=>nl h))
    ·have he:(vals.toArray++Array.replicate (fn.ntmps-vals.toArray.size) undef).toList=vals++List.replicate (fn.ntmps-args.length) undef:=by simp [hal]
     show RelL w γ φ (at_ σ0) _ (vals.toArray++Array.replicate (fn.ntmps-vals.toArray.size) undef).toList
     rw[he];refine hargs.append ?_;generalize fn.ntmps-args.length=n
     induction n with
     |zero=>simp [RelL]
     |succ n ih=>simp only[List.replicate_succ,RelL];exact⟨_,_,rfl,by simp [Rel],ih⟩
    ·obtain⟨hx,env',σ',hwk,hge,r,ids,hr,hnd,hids,hnrm⟩:=hpost
     replace hSR:=cy hwk hSR
     clear hwk
     revert env' σ'
     intro env σ hge hr hnrm hSR;obtain⟨γ1,φ1,hK1,hS1,hE1,hd1,hfix1⟩:=hSR;obtain⟨v,hv,hrel⟩:=ot (fn:=fn) hS1 hE1 hrs hr;unfold nrm at hnrm;simp only[Prod.mk.injEq]at hnrm;obtain⟨hres,hσ1⟩:=hnrm
     let φ2:Nat→Nat:=fun k'=>if k'<σ0.length then φ1 k' else φ1 (ids.getD (k'-σ0.length) 0)
     have hat1:∀k',at_ σ1 k'=(if k'<σ0.length then at_ σ k' else ((ids[k'-σ0.length]?).bind (at_ σ))).map (fun R=>{ R with cells:=rnL (nrmR σ0.length ids) R.cells }):=by
      intro k';have htl:(σ.take σ0.length).length=σ0.length:=by simp;omega
      rw[← hσ1];simp only[at_,List.getElem?_map,List.getElem?_append,htl];by_cases hk:k'<σ0.length
      ·rw[if_pos hk,if_pos hk,List.getElem?_take,if_pos hk]
       cases σ[k']? with
       |none=>rfl
       |some x=>cases x<;>rfl
      ·rw[if_neg hk,if_neg hk]
       cases hi:ids[k'-σ0.length]? with
       |none=>simp
       |some i=>
        simp only[hi,Option.map_some,Option.bind_some,at_];cases σ[i]? with
        |none=>rfl
        |some x=>cases x<;>rfl
     have hRen:Ren (nrmR σ0.length ids) φ1 (at_ σ) φ2 (at_ σ1):=by
      refine⟨fun k k' R hk hR=> ?_,fun k' R' hR'=> ?_,fun k1 k2 k' h1 h2=> ?_⟩
      ·unfold nrmR at hk
       split at hk
       ·rename_i hlt
        simp only[zj]at hk;subst hk;exact⟨by simp [φ2,hlt],by rw[hat1,if_pos hlt,hR];rfl⟩
       ·simp only[zm]at hk
        obtain⟨j,hj,rfl⟩:=hk;have hg:=az hj;have hnl:¬ j+σ0.length<σ0.length:=by omega
        refine⟨by simp [φ2,hnl,hg], ?_⟩;rw[hat1,if_neg hnl,show j+σ0.length-σ0.length=j by omega,hg];simp [hR]
      ·rw[hat1]at hR'
       simp only[zm]at hR';obtain⟨R,hR,_⟩:=hR';split at hR
       ·rename_i hlt
        exact⟨k',R,by simp [nrmR,hlt],hR⟩
       ·rename_i hlt
        simp only[Option.bind_eq_some_iff]at hR;obtain⟨i,hi,hR⟩:=hR;have hil:¬ i<σ0.length:=by have:=hids i (List.mem_of_getElem? hi);omega
        refine⟨i,R, ?_,hR⟩;unfold nrmR;rw[if_neg hil,cz hnd hi]
        simp
        omega
      ·unfold nrmR at h1 h2
       split at h1<;>split at h2
       ·simp only[zj]at h1 h2;omega
       ·simp only[zj,zm]at h1 h2
        obtain⟨j,_,h2⟩:=h2;omega
       ·simp only[zj,zm]at h1 h2
        obtain⟨j,_,h1⟩:=h1;omega
       ·simp only[zm]at h1 h2
        obtain⟨j1,h3,h4⟩:=h1;obtain⟨j2,h5,h6⟩:=h2;have:j1=j2:=by omega
        subst this;have e1:=az h3;have e2:=az h5;rw[e1]at e2;simpa using e2
     obtain⟨hK2,hS2⟩:=hS1.rn hRen;have hrel2:=Rel.rn hRen r v hrel;rw[hres]at hrel2;have hgoal:∃v',Ending.returned v=.returned v'∧∃γ' φ',Kst γ w γ' w'∧(∀k R,at_ σ0 k=some R→R.g=false→Stay γ φ γ' φ' k)∧Sim γ' φ' (at_ σ1) w'∧Rel w' γ' φ' (at_ σ1) res v':=by
      refine⟨v,rfl,_,φ2,hK1.trans hK2,fun k R hk hg=> ?_,hS2,hrel2⟩;have hlt:k<σ0.length:=by
       by_cases h:k<σ0.length
       ·exact h
       ·simp [at_,List.getElem?_eq_none (Nat.le_of_not_lt h)]at hk
      have h1:=(hfix1 k R hk hg).1;refine⟨by simp only[φ2,if_pos hlt];exact h1.1,fun hl=> ?_⟩;have h2:=h1.2 hl;simp [h2,Lab.rn,nrmR,hlt]
     obtain⟨v',e,γ',φ',g1,g2,g3,g4⟩:=hgoal;cases x with
     |normal=>exact⟨hd1,v,hv,v',γ',φ',e,g1,g2,g3,g4⟩
     |ret=>exact⟨hd1,v,hv,v',γ',φ',e,g1,g2,g3,g4⟩
     |exit id=>exact hx.elim
   ·cases hF
  ·cases hF
 ·cases hF
#print axioms spec_ofK
end Go.Lift
